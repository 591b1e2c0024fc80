/- Contracts: YearLight (both packages). No condition. -/
import Derived.Test.YtbelopcfmjgfiaaYear3
namespace Go.Proofs.Ytbelopcfmjgfiaa
open Go Go.RowKit Go.BigFrame
attribute [local go_sem] binOp_flt binOp_fgt binOp_feq binOp_fne binOp_fle binOp_fge faRes_some run_fadd run_fsub run_fmul run_fdiv run_ofI run_store_float run_neg run_min1 ext_cell ext_frozen ext_lt ext_setCell ext_drew ext_drewN
attribute [local go_sem] arrAt_ext arrAt_alloc arrAt_drew arrAt_drewN arrAt_new arrAt_new1 arrAt_new2
attribute [local go_sem ↓] run_ld_sun run_st_sun run_ld_lsun run_st_lsun run_ld_a24 run_st_a24
def Yr.len (Y : Yr) (n : Nat) (r : Bool) : Nat := if Y.code n r = 0 then n else 0
/-- What YearLight answers. -/
def YearAns (Y : Yr) (fc : Int) (n : Nat) (w : World) (e : Ending) (w' : World) : Prop :=
  ∃ A c, e = .returned (.tuple #[.slice A (Y.len n (inB fc 0 255)) c, .int .i64 (Y.code n (inB fc 0 255))]) ∧ (∃ x, w' = ext w x) ∧ Own w' w.heap.size A (Y.len n (inB fc 0 255)) 24 (fun k => .float .f32 (Y.day fc k))
theorem yearans_ok {Y : Yr} {fc : Int} {n c : Nat} {A : Option Addr} {w w' : World} {base : Nat} (h : Y.code n (inB fc 0 255) = 0) (hb : Below w.heap.size w w') (hl : w.heap.size ≤ base) (hO : Own w' base A n 24 (fun k => .float .f32 (Y.day fc k))) :
    YearAns Y fc n w (.returned (.tuple #[.slice A n c, .int .i64 0])) w' := by
  have e : Y.len n (inB fc 0 255) = n := by unfold Yr.len; rw [if_pos h]
  exact ⟨A, c, by rw [e, h], ex_of hb, by rw [e]; exact hO.lower hl⟩
theorem yearans_no {Y : Yr} {fc : Int} {n : Nat} {A : Option Addr} {w w' : World} (h : ¬ Y.code n (inB fc 0 255) = 0) (hb : Below w.heap.size w w') :
    YearAns Y fc n w (.returned (.tuple #[.slice A 0 0, .int .i64 (Y.code n (inB fc 0 255))])) w' := by
  have e : Y.len n (inB fc 0 255) = 0 := by unfold Yr.len; rw [if_neg h]
  exact ⟨A, 0, by rw [e], ex_of hb, by rw [e]; exact .inl rfl⟩
theorem Yr.facing_of {Y : Yr} {fc : Int} {n : Nat} (F : Y.Fits n) (h : Y.code n (inB fc 0 255) = 0) : Y.Ok n ∧ 0 ≤ fc ∧ fc ≤ 255 := by
  obtain ⟨h1, h2⟩ := Yr.ok_of F h
  exact ⟨h1, inB_iff.1 h2⟩
set_option maxRecDepth 100000 in
set_option maxHeartbeats 2000000 in
theorem YearLight_any (Y : Yr) (fc : Int) (A : Option Addr) (n c : Nat) (F : Y.Fits n) (hn : n ≤ 9223372036854775807) (w : World) (hS : RdS w A n Y.S) :
    Calls Try.prog 40 #[.agg #[.int .i8 Y.sl, .float .f32 Y.wd, .float .f32 Y.gp, .int .i16 Y.ti, .float .f32 Y.sh], .slice A n c, .int .i64 fc] w (YearAns Y fc n w) := by
  have HC : ∀ W, RdS W A n Y.S → Calls Try.prog 70 #[.agg #[.int .i8 Y.sl, .float .f32 Y.wd, .float .f32 Y.gp, .int .i16 Y.ti, .float .f32 Y.sh], .slice A n c, .bool (inB fc 0 255)] W fun e w' => e = .returned (.int .i64 (Y.code n (inB fc 0 255))) ∧ ∃ x, w' = ext W x :=
    fun W hW => yearCode_any Y.sl Y.wd Y.gp Y.ti Y.sh A n c Y.S (inB fc 0 255) F.s0 F.s1 F.t0 F.t1 F.I hn W hW
  have HF := fun W => isFacing_any fc W
  have hB0 : Below w.heap.size w (w.alloc (.cells #[.int .i8 Y.sl, .float .f32 Y.wd, .float .f32 Y.gp, .int .i16 Y.ti, .float .f32 Y.sh] 49)) := (Below.refl _ _).alloc (Nat.le_refl _) _
  have hrow := heap_alloc_new w (.cells #[.int .i8 Y.sl, .float .f32 Y.wd, .float .f32 Y.gp, .int .i16 Y.ti, .float .f32 Y.sh] 49)
  have HS0 := Lib.hid (hS.below hB0)
  have HB0 := Lib.hid hB0; have HRW := Lib.hid hrow; clear hB0 hrow hS
  by_cases h : Y.code n (inB fc 0 255) = 0
  · obtain ⟨O, hf0, hf1⟩ := Yr.facing_of F h
    have HY := fun W hW => year_any Y fc A n c F O hf0 hf1 W hW
    have HF2 : Hid (∀ W1 A' c' base, Below w.heap.size w W1 → w.heap.size ≤ base → Own W1 base A' n 24 (fun k => .float .f32 (Y.day fc k)) → YearAns Y fc n w (.returned (.tuple #[.slice A' n c', .int .i64 0])) W1) :=
      fun W1 A' c' base h1 h2 h3 => yearans_ok h h1 h2 h3
    rw [h] at HC
    clear h O hf0 hf1 F
    generalize inB fc 0 255 = r at HC HF
    go_enter Try.func40, Try.ntmps40
    go_wp2
    generalize w.alloc (.cells #[.int .i8 Y.sl, .float .f32 Y.wd, .float .f32 Y.gp, .int .i16 Y.ti, .float .f32 Y.sh] 49) = W0 at HS0 HB0 HRW ⊢
    obtain ⟨b0, b1, b2, b3, b4⟩ := row5b HRW.out
    have z0 := size_of_heap HRW.out
    have BW := HB0.out
    have ZW := HB0.out.size
    refine wp_region_ex (by kernel_rfl) (by kernel_rfl) ?_
    repeat (go_big_quiet_step ((first | (go_at_call 81; exact Calls.ex_of_same (HF _)) | (go_at_call 70; exact Calls.ex_of (HC _ (HS0.out.below (below_ext _ _)))))))
    refine wpQuiet_nil ?_
    intro _ hw'
    obtain ⟨xq, hw''⟩ := hw'
    subst hw''
    go_wp2_with (go_at_call 73; refine (HY _ (HS0.out.below (below_ext _ _))).mono ?_; rintro e w' ⟨A', c', rfl, ⟨x, rfl⟩, hO⟩)
    refine bodyPost_ret (v := .tuple #[.slice A' n c', .int .i64 0]) ?_ rfl (HF2.out _ A' c' _ (by (repeat' (first | (with_reducible exact Below.refl _ _) | (with_reducible assumption) | (with_reducible refine below_ext' ?_ ?_) | (with_reducible refine Below.alloc ?_ ?_ _) | (with_reducible refine below_drewN ?_ _) | (with_reducible refine Below.drew ?_) | (with_reducible refine Below.setCell ?_ ?_ _) | (with_reducible exact Nat.le_refl _) | (with_reducible refine ext_le _ _ ?_) | (with_reducible refine le_alloc ?_ _) | (with_reducible refine le_set ?_ _ _) | (with_reducible refine le_drew ?_) | (with_reducible refine le_drewN ?_ _) | (simp; done) | (simp; omega) | omega))) (by (repeat' (first | (with_reducible exact Below.refl _ _) | (with_reducible assumption) | (with_reducible refine below_ext' ?_ ?_) | (with_reducible refine Below.alloc ?_ ?_ _) | (with_reducible refine below_drewN ?_ _) | (with_reducible refine Below.drew ?_) | (with_reducible refine Below.setCell ?_ ?_ _) | (with_reducible exact Nat.le_refl _) | (with_reducible refine ext_le _ _ ?_) | (with_reducible refine le_alloc ?_ _) | (with_reducible refine le_set ?_ _ _) | (with_reducible refine le_drew ?_) | (with_reducible refine le_drewN ?_ _) | (simp; done) | (simp; omega) | omega))) hO)
    simp [results, Try.results40, go_sem]
  · have hb : (Y.code n (inB fc 0 255) == 0) = false := by simpa using h
    have hb' : (Y.code n (inB fc 0 255) != 0) = true := by simpa using h
    have HF2 : Hid (∀ W1, Below w.heap.size w W1 → YearAns Y fc n w (.returned (.tuple #[.slice none 0 0, .int .i64 (Y.code n (inB fc 0 255))])) W1) :=
      fun W1 h1 => yearans_no h h1
    clear h F
    generalize Y.code n (inB fc 0 255) = cd at HC hb hb' HF2
    generalize inB fc 0 255 = r at HC HF
    go_enter Try.func40, Try.ntmps40
    go_wp2
    generalize w.alloc (.cells #[.int .i8 Y.sl, .float .f32 Y.wd, .float .f32 Y.gp, .int .i16 Y.ti, .float .f32 Y.sh] 49) = W0 at HS0 HB0 HRW ⊢
    obtain ⟨b0, b1, b2, b3, b4⟩ := row5b HRW.out
    have z0 := size_of_heap HRW.out
    have BW := HB0.out
    have ZW := HB0.out.size
    refine wp_region_ex (by kernel_rfl) (by kernel_rfl) ?_
    repeat (go_big_quiet_step ((first | (go_at_call 81; exact Calls.ex_of_same (HF _)) | (go_at_call 70; exact Calls.ex_of (HC _ (HS0.out.below (below_ext _ _)))))))
    refine wpQuiet_nil ?_
    intro _ hw'
    obtain ⟨xq, hw''⟩ := hw'
    subst hw''
    go_wp2
    refine bodyPost_ret (v := .tuple #[.slice none 0 0, .int .i64 cd]) ?_ rfl (HF2.out _ (by (repeat' (first | (with_reducible exact Below.refl _ _) | (with_reducible assumption) | (with_reducible refine below_ext' ?_ ?_) | (with_reducible refine Below.alloc ?_ ?_ _) | (with_reducible refine below_drewN ?_ _) | (with_reducible refine Below.drew ?_) | (with_reducible refine Below.setCell ?_ ?_ _) | (with_reducible exact Nat.le_refl _) | (with_reducible refine ext_le _ _ ?_) | (with_reducible refine le_alloc ?_ _) | (with_reducible refine le_set ?_ _ _) | (with_reducible refine le_drew ?_) | (with_reducible refine le_drewN ?_ _) | (simp; done) | (simp; omega) | omega))))
    simp [results, Try.results40, go_sem]
/-- What l07Day answers, with a blind in a box. -/
theorem dayS_any (Y : Yr) {n : Nat} (O : Y.Ok n) (fc : Int) (hf0 : 0 ≤ fc) (hf1 : fc ≤ 255) {k : Nat} (hk : k < n) (bb b o : Nat) (W : World) (h1 : W.heap[bb]? = some (.cells #[.int .i8 Y.sl, .float .f32 Y.wd, .float .f32 Y.gp, .int .i16 Y.ti, .float .f32 Y.sh] 49 (0, 0))) (h2 : SunAt W b o (Y.S k)) :
    Calls Try.prog 65 #[.pointer (some ⟨bb, 0, none⟩), .pointer (some ⟨b, o, none⟩), .int .i64 fc] W fun e w' => e = .returned (.float .f32 (Y.day fc k)) ∧ ∃ x, w' = ext W x := by
  obtain ⟨b0, b1, b2, b3, b4⟩ := row5b h1
  exact l07Day_any bb Y.sl Y.wd Y.gp Y.ti Y.sh b o (Y.S k) fc O.b (O.v k hk) hf0 hf1 W ⟨b0, b1, b2, b3, b4⟩ h2
set_option maxRecDepth 100000 in
set_option maxHeartbeats 4000000 in
theorem YearLightS_any (Y : Yr) (fc : Int) (A : Option Addr) (n c : Nat) (F : Y.Fits n) (hn : n ≤ 9223372036854775807) (w : World) (hS : RdS w A n Y.S) :
    Calls Try.prog 39 #[.agg #[.int .i8 Y.sl, .float .f32 Y.wd, .float .f32 Y.gp, .int .i16 Y.ti, .float .f32 Y.sh], .slice A n c, .int .i64 fc] w (YearAns Y fc n w) := by
  have hB0 : Below w.heap.size w (w.alloc (.cells #[.int .i8 Y.sl, .float .f32 Y.wd, .float .f32 Y.gp, .int .i16 Y.ti, .float .f32 Y.sh] 49)) := (Below.refl _ _).alloc (Nat.le_refl _) _
  have hrow := heap_alloc_new w (.cells #[.int .i8 Y.sl, .float .f32 Y.wd, .float .f32 Y.gp, .int .i16 Y.ti, .float .f32 Y.sh] 49)
  have HC : Calls Try.prog 63 #[.pointer (some ⟨w.heap.size, 0, none⟩), .slice A n c, .bool (inB fc 0 255)] (w.alloc (.cells #[.int .i8 Y.sl, .float .f32 Y.wd, .float .f32 Y.gp, .int .i16 Y.ti, .float .f32 Y.sh] 49)) fun e w' => e = .returned (.int .i64 (Y.code n (inB fc 0 255))) ∧ ∃ x, w' = ext (w.alloc (.cells #[.int .i8 Y.sl, .float .f32 Y.wd, .float .f32 Y.gp, .int .i16 Y.ti, .float .f32 Y.sh] 49)) x := by
    obtain ⟨b0, b1, b2, b3, b4⟩ := row5b hrow
    exact l07Year_any w.heap.size 0 Y.sl Y.wd Y.gp Y.ti Y.sh A n c Y.S (inB fc 0 255) F.s0 F.s1 F.t0 F.t1 F.I hn _ ⟨b0, b1, b2, b3, b4⟩ (hS.below hB0)
  have HF := fun W => l01Faced_any fc W
  have HS := Lib.hid hS
  have HB0 := Lib.hid hB0; have HRW := Lib.hid hrow; clear hB0 hrow hS
  by_cases h : Y.code n (inB fc 0 255) = 0
  · obtain ⟨O, hf0, hf1⟩ := Yr.facing_of F h
    have HD := fun k hk => dayS_any Y O fc hf0 hf1 (k := k) hk w.heap.size
    have HD' := Lib.hid HD; clear HD
    have hn2 := O.n2
    have HF2 : Hid (∀ W1 A' c' base, Below w.heap.size w W1 → w.heap.size ≤ base → Own W1 base A' n 24 (fun k => .float .f32 (Y.day fc k)) → YearAns Y fc n w (.returned (.tuple #[.slice A' n c', .int .i64 0])) W1) :=
      fun W1 A' c' base h1 h2 h3 => yearans_ok h h1 h2 h3
    rw [h] at HC
    clear h O hf0 hf1 F
    generalize inB fc 0 255 = r at HC HF
    obtain ⟨i0, hi, hz0, hz1, hz2⟩ := info_parts info_f32y
    have Hi := Lib.hid hi; have H0 := Lib.hid hz0; have H1 := Lib.hid hz1; have H2 := Lib.hid hz2; clear hi hz0 hz1 hz2
    go_enter Try.func39, Try.ntmps39
    go_upto_region 4 with (first
      | (go_at_call 64; refine (HF _).mono ?_; rintro e w' ⟨rfl, rfl⟩)
      | (go_at_call 63; refine (Calls.mono HC) ?_; rintro e w' ⟨rfl, x, rfl⟩))
    have HB1 := Lib.hid (below_step HB0.out (below_ext (w.alloc (.cells #[.int .i8 Y.sl, .float .f32 Y.wd, .float .f32 Y.gp, .int .i16 Y.ti, .float .f32 Y.sh] 49)) x))
    have HRW1 := Lib.hid (((below_ext (w.alloc (.cells #[.int .i8 Y.sl, .float .f32 Y.wd, .float .f32 Y.gp, .int .i16 Y.ti, .float .f32 Y.sh] 49)) x).block _ (size_of_heap HRW.out)).trans HRW.out)
    generalize ext (w.alloc (.cells #[.int .i8 Y.sl, .float .f32 Y.wd, .float .f32 Y.gp, .int .i16 Y.ti, .float .f32 Y.sh] 49)) x = W0 at HB1 HRW1 ⊢
    clear HC HB0 HRW
    have K0 : Hid (YInv Y fc w 0 (some ⟨W0.heap.size, 0, none⟩) 0 (W0.alloc (.cells #[] 24))) := by
      have z0 := size_of_heap HRW1.out
      refine ⟨HB1.out.alloc HB1.out.size _, (Below.heap_alloc _ _ _ z0).trans HRW1.out, ?_⟩
      simpa [Yr.dayL] using own_new (B := w.heap.size + 1) W0 24 (by omega)
    clear HB1 HRW1
    go_wp2
    go_loopg [9, 10] n (fun gg s9 s10 wr => ∃ kk : Nat, kk ≤ n ∧ n - kk ≤ gg ∧ s10 = .int .i64 kk ∧ ∃ A' c', s9 = .slice A' kk c' ∧ Aside (YInv Y fc w kk A' c' wr))
    case atStart => exact ⟨0, Nat.zero_le _, by omega, rfl, _, _, rfl, K0.out⟩
    case round =>
      obtain ⟨kk, hkk, hg, rfl, A', c', rfl, I⟩ := hrel
      by_cases hlt : kk < n
      · have hltz : (kk : Int) < (n : Int) := by omega
        obtain ⟨b, o, rfl, hs⟩ := (HS.out.below I.out.old) kk hlt
        have HD1 := HD'.out kk hlt b (o + kk * 48) wr I.out.b hs
        have HLs := Lib.hid (Y.dayL_succ fc kk)
        clear hs
        have z0 := size_of_block I.out.b
        generalize Y.day fc kk = dv at HD1 HLs
        go_wp2_with (first
          | (go_at_call 65
             refine (Calls.mono HD1) ?_
             rintro e w' ⟨rfl, x, rfl⟩
             have I2 := Lib.hid (I.out.grow (below_ext wr x))
             have hsz := (below_ext wr x).size
             generalize ext wr x = wc at I2 hsz ⊢
             have HN : Hid (∀ j u, [Value.float .f32 dv][j]? = some u → (wc.alloc (.cells #[.float .f32 dv] 24)).cell? ((⟨wc.heap.size, 0, none⟩ : Addr).add j) = some u) :=
               World.news_of_block (heap_alloc_new wc (.cells #[.float .f32 dv] 24)))
          | (at_builtin
             refine wpList_append_lies _ rfl _ _ 22 rfl (w.heap.size + 1) 24 i0 (.float .f32 0) 1 4 Try.underlying22 Hi.out H0.out H1.out H2.out rfl (by decide) (.slice A' kk c') kk _ rfl (I2.out.own.alloc _) ⟨wc.heap.size, 0, none⟩ 1 1 [.float .f32 dv] rfl rfl HN.out (by simp [Value.oneCell']) (by decide) (by unfold maxLen; omega) (by omega) (by simp; omega) (wc.heap.size + 1) (by simp) ?_
             intro g cap w1 hown1 hgrow hat hlt1
             rw [← HLs.out] at hown1
             have I3 := Lib.hid (I2.out.app _ hgrow hown1)
             clear hown1 hgrow hat hlt1 HN))
        go_roundg (n - (kk + 1))
        case measure => omega
        case rel => exact ⟨kk + 1, by omega, by omega, by go_num, _, cap, rfl, I3.out⟩
      · have hltz : ¬ (kk : Int) < (n : Int) := by omega
        have : kk = n := by omega
        subst this
        obtain ⟨A2, c2, hv, hO⟩ := Own.of_row (f := fun k => .float .f32 (Y.day fc k)) I.out.own (fun k hk => Y.dayL_get fc hk)
        injection hv with hv1 hv2 hv3
        subst hv1
        clear hv2 hv3
        have HF3 := Lib.hid (HF2.out _ A' c' _ I.out.old (Nat.le_succ _) hO)
        clear hO HF2
        go_wp2
        refine bodyPost_ret (v := .tuple #[.slice A' kk c', .int .i64 0]) ?_ rfl HF3.out
        simp [results, Try.results39, go_sem]
  · have hb : (Y.code n (inB fc 0 255) == 0) = false := by simpa using h
    have hb' : (Y.code n (inB fc 0 255) != 0) = true := by simpa using h
    have HF2 : Hid (∀ W1 A9, Below w.heap.size w W1 → YearAns Y fc n w (.returned (.tuple #[.slice A9 0 0, .int .i64 (Y.code n (inB fc 0 255))])) W1) :=
      fun W1 A9 h1 => yearans_no h h1
    clear h F
    generalize Y.code n (inB fc 0 255) = cd at HC hb hb' HF2
    generalize inB fc 0 255 = r at HC HF
    go_enter Try.func39, Try.ntmps39
    go_upto_region 3 with (first
      | (go_at_call 64; refine (HF _).mono ?_; rintro e w' ⟨rfl, rfl⟩)
      | (go_at_call 63; refine (Calls.mono HC) ?_; rintro e w' ⟨rfl, x, rfl⟩))
    have HB1 := Lib.hid (below_step HB0.out (below_ext (w.alloc (.cells #[.int .i8 Y.sl, .float .f32 Y.wd, .float .f32 Y.gp, .int .i16 Y.ti, .float .f32 Y.sh] 49)) x))
    generalize ext (w.alloc (.cells #[.int .i8 Y.sl, .float .f32 Y.wd, .float .f32 Y.gp, .int .i16 Y.ti, .float .f32 Y.sh] 49)) x = W0 at HB1 ⊢
    clear HC HB0 HRW
    have BW := HB1.out
    have ZW := HB1.out.size
    go_wp2
    refine bodyPost_ret (v := .tuple #[.slice (some ⟨W0.heap.size, 0, none⟩) 0 0, .int .i64 cd]) ?_ rfl (HF2.out _ _ (by (repeat' (first | (with_reducible exact Below.refl _ _) | (with_reducible assumption) | (with_reducible refine below_ext' ?_ ?_) | (with_reducible refine Below.alloc ?_ ?_ _) | (with_reducible refine below_drewN ?_ _) | (with_reducible refine Below.drew ?_) | (with_reducible refine Below.setCell ?_ ?_ _) | (with_reducible exact Nat.le_refl _) | (with_reducible refine ext_le _ _ ?_) | (with_reducible refine le_alloc ?_ _) | (with_reducible refine le_set ?_ _ _) | (with_reducible refine le_drew ?_) | (with_reducible refine le_drewN ?_ _) | (simp; done) | (simp; omega) | omega))))
    simp [results, Try.results39, go_sem]
end Go.Proofs.Ytbelopcfmjgfiaa
