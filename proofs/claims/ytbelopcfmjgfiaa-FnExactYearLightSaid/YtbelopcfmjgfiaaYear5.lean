/- Contracts: BestMonth (both packages). No condition. -/
import Derived.Test.YtbelopcfmjgfiaaYear4
namespace Go.Proofs.Ytbelopcfmjgfiaa
open Go Go.RowKit Go.BigFrame
attribute [local go_sem] binOp_flt binOp_fgt binOp_feq binOp_fne binOp_fle binOp_fge faRes_some run_fadd run_fsub run_fmul run_fdiv run_ofI run_store_float run_neg run_min1 ext_cell ext_frozen ext_lt ext_setCell ext_drew ext_drewN
attribute [local go_sem] arrAt_ext arrAt_alloc arrAt_drew arrAt_drewN arrAt_new arrAt_new1 arrAt_new2
attribute [local go_sem ↓] run_ld_sun run_st_sun run_ld_lsun run_st_lsun run_ld_a24 run_st_a24
/-- What BestMonth answers: the month, what passes in it. -/
def Yr.best (Y : Yr) (n : Nat) (fc : Int) : Int × Nat := if Y.code n (inB fc 0 255) = 0 then (((bestF (Y.day fc) (n - 1)).1 : Nat), (bestF (Y.day fc) (n - 1)).2) else (0, 0)
def BestAns (Y : Yr) (fc : Int) (n : Nat) (w : World) (e : Ending) (w' : World) : Prop :=
  e = .returned (.tuple #[.int .i64 (Y.best n fc).1, .float .f32 (Y.best n fc).2, .int .i64 (Y.code n (inB fc 0 255))]) ∧ ∃ x, w' = ext w x
theorem bestans_ok {Y : Yr} {fc : Int} {m : Nat} {w w' : World} (h : Y.code (m + 1) (inB fc 0 255) = 0) (hb : Below w.heap.size w w') :
    BestAns Y fc (m + 1) w (.returned (.tuple #[.int .i64 (bestF (Y.day fc) m).1, .float .f32 (bestF (Y.day fc) m).2, .int .i64 0])) w' :=
  ⟨by unfold Yr.best; rw [if_pos h, h]; rfl, ex_of hb⟩
theorem bestans_no {Y : Yr} {fc : Int} {n : Nat} {w w' : World} (h : ¬ Y.code n (inB fc 0 255) = 0) (hb : Below w.heap.size w w') :
    BestAns Y fc n w (.returned (.tuple #[.int .i64 0, .float .f32 0, .int .i64 (Y.code n (inB fc 0 255))])) w' :=
  ⟨by unfold Yr.best; rw [if_neg h], ex_of hb⟩
theorem bestMonth1_any (M : Nat) (A : Option Addr) (n c : Nat) (g : Nat → Nat) {k : Nat} (hk : k < n) (w : World) (hc : w.cell? ⟨M, 0, none⟩ = some (.slice A n c)) (hR : Rd w A n (fun k => .float .f32 (g k))) :
    Calls Try.prog 67 #[.int .i64 (k : Nat), .pointer (some ⟨M, 0, none⟩)] w fun e w' => e = .returned (.float .f32 (g k)) ∧ ∃ x, w' = ext w x := by
  obtain ⟨b, o, rfl, h1⟩ := hR k hk
  simp only at h1
  have hkz : (k : Int) < (n : Int) := by omega
  clear hR
  go_enter Try.func67, Try.ntmps67
  go_wp2
  go_ret
  exact ⟨rfl, ex_of (Below.refl _ _)⟩
set_option maxRecDepth 100000 in
set_option maxHeartbeats 2000000 in
theorem BestMonth_any (Y : Yr) (fc : Int) (A : Option Addr) (n c : Nat) (F : Y.Fits n) (hn : n ≤ 9223372036854775807) (w : World) (hS : RdS w A n Y.S) :
    Calls Try.prog 31 #[.agg #[.int .i8 Y.sl, .float .f32 Y.wd, .float .f32 Y.gp, .int .i16 Y.ti, .float .f32 Y.sh], .slice A n c, .int .i64 fc] w (BestAns Y fc n w) := by
  have hB0 : Below w.heap.size w (w.alloc (.cells #[.int .i8 Y.sl, .float .f32 Y.wd, .float .f32 Y.gp, .int .i16 Y.ti, .float .f32 Y.sh] 49)) := (Below.refl _ _).alloc (Nat.le_refl _) _
  have hrow := heap_alloc_new w (.cells #[.int .i8 Y.sl, .float .f32 Y.wd, .float .f32 Y.gp, .int .i16 Y.ti, .float .f32 Y.sh] 49)
  have HY := YearLight_any Y fc A n c F hn _ (hS.below hB0)
  have HB0 := Lib.hid hB0; have HRW := Lib.hid hrow; clear hB0 hrow hS
  by_cases h : Y.code n (inB fc 0 255) = 0
  · have hL : Y.len n (inB fc 0 255) = n := by unfold Yr.len; rw [if_pos h]
    obtain ⟨O, -⟩ := Yr.facing_of F h
    obtain ⟨m, rfl⟩ : ∃ m, n = m + 1 := ⟨n - 1, by have := O.n1; omega⟩
    have hm := O.n2
    have HF2 : Hid (∀ W1, Below w.heap.size w W1 → BestAns Y fc (m + 1) w (.returned (.tuple #[.int .i64 (bestF (Y.day fc) m).1, .float .f32 (bestF (Y.day fc) m).2, .int .i64 0])) W1) := fun W1 h1 => bestans_ok h h1
    unfold YearAns at HY
    rw [hL, h] at HY
    clear h O F hL hn
    generalize Y.day fc = G at HY HF2
    go_enter Try.func31, Try.ntmps31
    go_wp2_with (first
      | (go_at_call 40
         refine (Calls.mono HY) ?_
         rintro e w' ⟨A', c', rfl, ⟨x, rfl⟩, hO⟩
         have HB1 := Lib.hid (below_step HB0.out (below_ext (w.alloc (.cells #[.int .i8 Y.sl, .float .f32 Y.wd, .float .f32 Y.gp, .int .i16 Y.ti, .float .f32 Y.sh] 49)) x))
         have HO := Lib.hid hO.rd
         clear hO
         generalize ext (w.alloc (.cells #[.int .i8 Y.sl, .float .f32 Y.wd, .float .f32 Y.gp, .int .i16 Y.ti, .float .f32 Y.sh] 49)) x = W0 at HB1 HO ⊢)
      | (go_at_call 66
         have HG := Lib.hid (greatest_B m (by omega) G (.pointer (some ⟨W0.heap.size, 0, none⟩)) (W0.alloc (.cells #[.slice A' (m + 1) c'] 22)) fun k hk W hW =>
           bestMonth1_any W0.heap.size A' (m + 1) c' G (by omega) W ((hW.cell (p := ⟨W0.heap.size, 0, none⟩) (by simp)).trans (cell_of_row _ _ _ _ _ _ (heap_alloc_new _ _)))
             ((HO.out.below ((Below.refl _ _).alloc (Nat.le_refl _) _)).below hW))
         refine (Calls.mono HG.out) ?_
         rintro e w' ⟨rfl, x1, rfl⟩))
    have BW := HB1.out
    have ZW := HB1.out.size
    refine bodyPost_ret (v := .tuple #[.int .i64 (bestF G m).1, .float .f32 (bestF G m).2, .int .i64 0]) ?_ rfl (HF2.out _ (by (repeat' (first | (with_reducible exact Below.refl _ _) | (with_reducible assumption) | (with_reducible refine below_ext' ?_ ?_) | (with_reducible refine Below.alloc ?_ ?_ _) | (with_reducible refine below_drewN ?_ _) | (with_reducible refine Below.drew ?_) | (with_reducible refine Below.setCell ?_ ?_ _) | (with_reducible exact Nat.le_refl _) | (with_reducible refine ext_le _ _ ?_) | (with_reducible refine le_alloc ?_ _) | (with_reducible refine le_set ?_ _ _) | (with_reducible refine le_drew ?_) | (with_reducible refine le_drewN ?_ _) | (simp; done) | (simp; omega) | omega))))
    simp [results, Try.results31, go_sem]
  · have hL : Y.len n (inB fc 0 255) = 0 := by unfold Yr.len; rw [if_neg h]
    have hb : (Y.code n (inB fc 0 255) == 0) = false := by simpa using h
    have hb' : (Y.code n (inB fc 0 255) != 0) = true := by simpa using h
    have HF2 : Hid (∀ W1, Below w.heap.size w W1 → BestAns Y fc n w (.returned (.tuple #[.int .i64 0, .float .f32 0, .int .i64 (Y.code n (inB fc 0 255))])) W1) :=
      fun W1 h1 => bestans_no h h1
    unfold YearAns at HY
    rw [hL] at HY
    clear h F hL
    generalize Y.code n (inB fc 0 255) = cd at HY hb hb' HF2
    go_enter Try.func31, Try.ntmps31
    go_wp2_with (go_at_call 40
                 refine (Calls.mono HY) ?_
                 rintro e w' ⟨A', c', rfl, ⟨x, rfl⟩, hO⟩
                 have HB1 := Lib.hid (below_step HB0.out (below_ext (w.alloc (.cells #[.int .i8 Y.sl, .float .f32 Y.wd, .float .f32 Y.gp, .int .i16 Y.ti, .float .f32 Y.sh] 49)) x))
                 clear hO
                 generalize ext (w.alloc (.cells #[.int .i8 Y.sl, .float .f32 Y.wd, .float .f32 Y.gp, .int .i16 Y.ti, .float .f32 Y.sh] 49)) x = W0 at HB1 ⊢)
    have BW := HB1.out
    have ZW := HB1.out.size
    refine bodyPost_ret (v := .tuple #[.int .i64 0, .float .f32 0, .int .i64 cd]) ?_ rfl (HF2.out _ (by (repeat' (first | (with_reducible exact Below.refl _ _) | (with_reducible assumption) | (with_reducible refine below_ext' ?_ ?_) | (with_reducible refine Below.alloc ?_ ?_ _) | (with_reducible refine below_drewN ?_ _) | (with_reducible refine Below.drew ?_) | (with_reducible refine Below.setCell ?_ ?_ _) | (with_reducible exact Nat.le_refl _) | (with_reducible refine ext_le _ _ ?_) | (with_reducible refine le_alloc ?_ _) | (with_reducible refine le_set ?_ _ _) | (with_reducible refine le_drew ?_) | (with_reducible refine le_drewN ?_ _) | (simp; done) | (simp; omega) | omega))))
    simp [results, Try.results31, go_sem]
set_option maxRecDepth 100000 in
set_option maxHeartbeats 4000000 in
theorem BestMonthS_any (Y : Yr) (fc : Int) (A : Option Addr) (n c : Nat) (F : Y.Fits n) (hn : n ≤ 9223372036854775807) (w : World) (hS : RdS w A n Y.S) :
    Calls Try.prog 29 #[.agg #[.int .i8 Y.sl, .float .f32 Y.wd, .float .f32 Y.gp, .int .i16 Y.ti, .float .f32 Y.sh], .slice A n c, .int .i64 fc] w (BestAns Y fc n w) := by
  have hB0 : Below w.heap.size w (w.alloc (.cells #[.int .i8 Y.sl, .float .f32 Y.wd, .float .f32 Y.gp, .int .i16 Y.ti, .float .f32 Y.sh] 49)) := (Below.refl _ _).alloc (Nat.le_refl _) _
  have hrow := heap_alloc_new w (.cells #[.int .i8 Y.sl, .float .f32 Y.wd, .float .f32 Y.gp, .int .i16 Y.ti, .float .f32 Y.sh] 49)
  have HC : Calls Try.prog 63 #[.pointer (some ⟨w.heap.size, 0, none⟩), .slice A n c, .bool (inB fc 0 255)] (w.alloc (.cells #[.int .i8 Y.sl, .float .f32 Y.wd, .float .f32 Y.gp, .int .i16 Y.ti, .float .f32 Y.sh] 49)) fun e w' => e = .returned (.int .i64 (Y.code n (inB fc 0 255))) ∧ ∃ x, w' = ext (w.alloc (.cells #[.int .i8 Y.sl, .float .f32 Y.wd, .float .f32 Y.gp, .int .i16 Y.ti, .float .f32 Y.sh] 49)) x := by
    obtain ⟨b0, b1, b2, b3, b4⟩ := row5b hrow
    exact l07Year_any w.heap.size 0 Y.sl Y.wd Y.gp Y.ti Y.sh A n c Y.S (inB fc 0 255) F.s0 F.s1 F.t0 F.t1 F.I hn _ ⟨b0, b1, b2, b3, b4⟩ (hS.below hB0)
  have HF := fun W => l01Faced_any fc W
  have HS := Lib.hid hS
  have HB0 := Lib.hid hB0; have HRW := Lib.hid hrow; clear hB0 hrow hS
  by_cases h : Y.code n (inB fc 0 255) = 0
  · obtain ⟨O, hf0, hf1⟩ := Yr.facing_of F h
    obtain ⟨m, rfl⟩ : ∃ m, n = m + 1 := ⟨n - 1, by have := O.n1; omega⟩
    have HD := fun k hk => dayS_any Y O fc hf0 hf1 (k := k) hk w.heap.size
    have HD' := Lib.hid HD; clear HD
    have hm := O.n2
    have HF2 : Hid (∀ W1, Below w.heap.size w W1 → BestAns Y fc (m + 1) w (.returned (.tuple #[.int .i64 (bestF (Y.day fc) m).1, .float .f32 (bestF (Y.day fc) m).2, .int .i64 0])) W1) := fun W1 h1 => bestans_ok h h1
    rw [h] at HC
    clear h O hf0 hf1 F
    generalize inB fc 0 255 = r at HC HF
    generalize Y.day fc = G at HD' HF2
    go_enter Try.func29, Try.ntmps29
    go_upto_region 5 with (first
      | (go_at_call 64; refine (HF _).mono ?_; rintro e w' ⟨rfl, rfl⟩)
      | (go_at_call 63; refine (Calls.mono HC) ?_; rintro e w' ⟨rfl, x, rfl⟩))
    have HB1 := Lib.hid (below_step HB0.out (below_ext (w.alloc (.cells #[.int .i8 Y.sl, .float .f32 Y.wd, .float .f32 Y.gp, .int .i16 Y.ti, .float .f32 Y.sh] 49)) x))
    have HRW1 := Lib.hid (((below_ext (w.alloc (.cells #[.int .i8 Y.sl, .float .f32 Y.wd, .float .f32 Y.gp, .int .i16 Y.ti, .float .f32 Y.sh] 49)) x).block _ (size_of_heap HRW.out)).trans HRW.out)
    generalize ext (w.alloc (.cells #[.int .i8 Y.sl, .float .f32 Y.wd, .float .f32 Y.gp, .int .i16 Y.ti, .float .f32 Y.sh] 49)) x = W0 at HB1 HRW1 ⊢
    clear HC HB0 HRW
    obtain ⟨b, o, rfl, hs0⟩ := (HS.out.below HB1.out) 0 (Nat.succ_pos _)
    have HD0 := HD'.out 0 (Nat.succ_pos _) b (o + 0 * 48) W0 HRW1.out hs0
    simp only [Nat.zero_mul, Nat.add_zero] at HD0
    clear hs0
    have hnz : (0 : Int) < ((m + 1 : Nat) : Int) := by omega
    go_upto_region 6 with (go_at_call 65; refine (Calls.mono HD0) ?_; rintro e w' ⟨rfl, x1, rfl⟩)
    have HI0 : Hid (Below w.heap.size w (ext W0 x1) ∧ (ext W0 x1).heap[w.heap.size]? = some (.cells #[.int .i8 Y.sl, .float .f32 Y.wd, .float .f32 Y.gp, .int .i16 Y.ti, .float .f32 Y.sh] 49 (0, 0))) :=
      ⟨below_step HB1.out (below_ext _ _), ((below_ext W0 x1).block _ (size_of_heap HRW1.out)).trans HRW1.out⟩
    clear HD0 HB1 HRW1
    generalize ext W0 x1 = W1 at HI0 ⊢
    go_wp2
    go_loopg [10, 11, 12, 13] m (fun gg s10 s11 s12 _ wr => ∃ j : Nat, j ≤ m ∧ m - j ≤ gg ∧ s10 = .int .i64 (bestF G j).1 ∧ s11 = .float .f32 (bestF G j).2 ∧ s12 = .int .i64 ((j : Int) + 1) ∧ Aside (Below w.heap.size w wr ∧ wr.heap[w.heap.size]? = some (.cells #[.int .i8 Y.sl, .float .f32 Y.wd, .float .f32 Y.gp, .int .i16 Y.ti, .float .f32 Y.sh] 49 (0, 0))))
    case atStart => exact ⟨0, Nat.zero_le _, by omega, rfl, rfl, rfl, HI0.out⟩
    case round =>
      obtain ⟨j, hj, hg, rfl, rfl, rfl, BW⟩ := hrel
      have hE : Hid (bestF G (j + 1) = if fgt (G (j + 1)) (bestF G j).2 = true then (j + 1, G (j + 1)) else bestF G j) := (rfl : bestF G (j + 1) = _)
      by_cases hlt : j < m
      · have hltz : (j : Int) + 1 < ((m + 1 : Nat) : Int) := by omega
        obtain ⟨b2, o2, hbo, hs⟩ := (HS.out.below BW.out.1) (j + 1) (by omega)
        injection hbo with hbo; injection hbo with hb1 hb2; subst hb1; subst hb2
        have HD1 := HD'.out (j + 1) (by omega) b (o + (j + 1) * 48) wr BW.out.2 hs
        clear hs
        generalize G (j + 1) = fj at HD1 hE
        have HI1 : ∀ x2, Hid (Below w.heap.size w (ext wr x2) ∧ (ext wr x2).heap[w.heap.size]? = some (.cells #[.int .i8 Y.sl, .float .f32 Y.wd, .float .f32 Y.gp, .int .i16 Y.ti, .float .f32 Y.sh] 49 (0, 0))) := fun x2 =>
          ⟨below_step BW.out.1 (below_ext _ _), ((below_ext wr x2).block _ (size_of_heap BW.out.2)).trans BW.out.2⟩
        cases hgt : fgt fj (bestF G j).2
        · go_wp2_with (go_at_call 65; refine (Calls.mono HD1) ?_; rintro e w' ⟨rfl, x, rfl⟩)
          go_roundg (m - (j + 1))
          case measure => omega
          case rel =>
            have h1 : bestF G (j + 1) = bestF G j := by rw [hE.out, hgt]; rfl
            exact ⟨j + 1, by omega, by omega, by rw [h1], by rw [h1], by go_num, (HI1 x).out⟩
        · go_wp2_with (go_at_call 65; refine (Calls.mono HD1) ?_; rintro e w' ⟨rfl, x, rfl⟩)
          go_roundg (m - (j + 1))
          case measure => omega
          case rel =>
            have h1 : bestF G (j + 1) = (j + 1, fj) := by rw [hE.out, hgt]; rfl
            exact ⟨j + 1, by omega, by omega, by rw [h1]; go_num, by rw [h1], by go_num, (HI1 x).out⟩
      · have hltz : ¬ (j : Int) + 1 < ((m + 1 : Nat) : Int) := by omega
        have : j = m := by omega
        subst this
        have HF3 := Lib.hid (HF2.out _ BW.out.1)
        go_wp2
        refine bodyPost_ret (v := .tuple #[.int .i64 (bestF G j).1, .float .f32 (bestF G j).2, .int .i64 0]) ?_ rfl HF3.out
        simp [results, Try.results29, go_sem]
  · have hb : (Y.code n (inB fc 0 255) == 0) = false := by simpa using h
    have hb' : (Y.code n (inB fc 0 255) != 0) = true := by simpa using h
    have HF2 : Hid (∀ W1, Below w.heap.size w W1 → BestAns Y fc n w (.returned (.tuple #[.int .i64 0, .float .f32 0, .int .i64 (Y.code n (inB fc 0 255))])) W1) :=
      fun W1 h1 => bestans_no h h1
    clear h F
    generalize Y.code n (inB fc 0 255) = cd at HC hb hb' HF2
    generalize inB fc 0 255 = r at HC HF
    go_enter Try.func29, Try.ntmps29
    go_wp2_with (first
      | (go_at_call 64; refine (HF _).mono ?_; rintro e w' ⟨rfl, rfl⟩)
      | (go_at_call 63; refine (Calls.mono HC) ?_; rintro e w' ⟨rfl, x, rfl⟩))
    have BW := HB0.out
    have ZW := HB0.out.size
    refine bodyPost_ret (v := .tuple #[.int .i64 0, .float .f32 0, .int .i64 cd]) ?_ rfl (HF2.out _ (by (repeat' (first | (with_reducible exact Below.refl _ _) | (with_reducible assumption) | (with_reducible refine below_ext' ?_ ?_) | (with_reducible refine Below.alloc ?_ ?_ _) | (with_reducible refine below_drewN ?_ _) | (with_reducible refine Below.drew ?_) | (with_reducible refine Below.setCell ?_ ?_ _) | (with_reducible exact Nat.le_refl _) | (with_reducible refine ext_le _ _ ?_) | (with_reducible refine le_alloc ?_ _) | (with_reducible refine le_set ?_ _ _) | (with_reducible refine le_drew ?_) | (with_reducible refine le_drewN ?_ _) | (simp; done) | (simp; omega) | omega))))
    simp [results, Try.results29, go_sem]
end Go.Proofs.Ytbelopcfmjgfiaa
