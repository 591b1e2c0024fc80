/- Contract: spec's YearFacing. No condition. -/
import Derived.Test.YtbelopcfmjgfiaaYear6
namespace Go.Proofs.Ytbelopcfmjgfiaa
open Go Go.RowKit Go.BigFrame
attribute [local go_sem] binOp_flt binOp_fgt binOp_feq binOp_fne binOp_fle binOp_fge faRes_some run_fadd run_fsub run_fmul run_fdiv run_ofI run_store_float run_neg run_min1 ext_cell ext_frozen ext_lt ext_setCell ext_drew ext_drewN
attribute [local go_sem] arrAt_ext arrAt_alloc arrAt_drew arrAt_drewN arrAt_new arrAt_new1 arrAt_new2
attribute [local go_sem ↓] run_ld_sun run_st_sun run_ld_lsun run_st_lsun run_ld_a24 run_st_a24
/-- spec's best facing ahead of the j-th. -/
def bestG (F : Nat → Nat) (st : Int) : Nat → Int × Nat
  | 0 => (0, 3212836864)
  | j + 1 => if fgt (F j) (bestG F st j).2 = true then ((j : Int) * st, F j) else bestG F st j
theorem bestG_eq {F : Nat → Nat} {st : Int} (h : fgt (F 0) 3212836864 = true) : ∀ j, bestG F st (j + 1) = (((bestF F j).1 : Int) * st, (bestF F j).2)
  | 0 => by
    show (if fgt (F 0) 3212836864 = true then _ else _) = _
    rw [if_pos h]; rfl
  | j + 1 => by
    show (if fgt (F (j + 1)) (bestG F st (j + 1)).2 = true then (((j + 1 : Nat) : Int) * st, F (j + 1)) else bestG F st (j + 1)) = _
    rw [bestG_eq h j]
    have e : bestF F (j + 1) = if fgt (F (j + 1)) (bestF F j).2 = true then (j + 1, F (j + 1)) else bestF F j := rfl
    rw [e]
    cases hg : fgt (F (j + 1)) (bestF F j).2
    · rw [if_neg (by simp), if_neg (by simp)]
    · rw [if_pos rfl, if_pos rfl]
set_option maxRecDepth 100000 in
set_option maxHeartbeats 8000000 in
theorem YearFacingS_any (Y : Yr) (st : Int) (A : Option Addr) (n c : Nat) (F : Y.Fits n) (hn : n ≤ 9223372036854775807) (w : World) (hS : RdS w A n Y.S) :
    Calls Try.prog 33 #[.agg #[.int .i8 Y.sl, .float .f32 Y.wd, .float .f32 Y.gp, .int .i16 Y.ti, .float .f32 Y.sh], .slice A n c, .int .i64 st] w (FacingAns Y st n w) := by
  have hB0 : Below w.heap.size w (w.alloc (.cells #[.int .i8 Y.sl, .float .f32 Y.wd, .float .f32 Y.gp, .int .i16 Y.ti, .float .f32 Y.sh] 49)) := (Below.refl _ _).alloc (Nat.le_refl _) _
  have hrow := heap_alloc_new w (.cells #[.int .i8 Y.sl, .float .f32 Y.wd, .float .f32 Y.gp, .int .i16 Y.ti, .float .f32 Y.sh] 49)
  have HC : Calls Try.prog 63 #[.pointer (some ⟨w.heap.size, 0, none⟩), .slice A n c, .bool (inB st 8 255)] (w.alloc (.cells #[.int .i8 Y.sl, .float .f32 Y.wd, .float .f32 Y.gp, .int .i16 Y.ti, .float .f32 Y.sh] 49)) fun e w' => e = .returned (.int .i64 (Y.codeF n st)) ∧ ∃ x, w' = ext (w.alloc (.cells #[.int .i8 Y.sl, .float .f32 Y.wd, .float .f32 Y.gp, .int .i16 Y.ti, .float .f32 Y.sh] 49)) x := by
    obtain ⟨b0, b1, b2, b3, b4⟩ := row5b hrow
    exact l07Year_any w.heap.size 0 Y.sl Y.wd Y.gp Y.ti Y.sh A n c Y.S (inB st 8 255) F.s0 F.s1 F.t0 F.t1 F.I hn _ ⟨b0, b1, b2, b3, b4⟩ (hS.below hB0)
  have HF := fun W => l00In_any st 8 255 W
  have HS := Lib.hid hS
  have HB0 := Lib.hid hB0; have HRW := Lib.hid hrow; clear hB0 hrow hS
  by_cases h : Y.codeF n st = 0
  · obtain ⟨O, hr⟩ := Yr.ok_of F h
    obtain ⟨hs0, hs1⟩ := inB_iff.1 hr
    obtain ⟨-, f2, f3, f4⟩ := steps_facts hs0 hs1
    have HD : ∀ fc : Int, 0 ≤ fc → fc ≤ 255 → ∀ k, k < n → ∀ b o W, W.heap[w.heap.size]? = some (.cells #[.int .i8 Y.sl, .float .f32 Y.wd, .float .f32 Y.gp, .int .i16 Y.ti, .float .f32 Y.sh] 49 (0, 0)) → SunAt W b o (Y.S k) →
        Calls Try.prog 65 #[.pointer (some ⟨w.heap.size, 0, none⟩), .pointer (some ⟨b, o, none⟩), .int .i64 fc] W fun e w' => e = .returned (.float .f32 (Y.day fc k)) ∧ ∃ x, w' = ext W x :=
      fun fc h0 h1 k hk b o W => dayS_any Y O fc h0 h1 (k := k) hk w.heap.size b o W
    have HSt : ∀ fc : Int, ∀ i, i < n → fadd (sumF (Y.day fc) i) (Y.day fc i) = some (sumF (Y.day fc) (i + 1)) := fun fc i hi => Yr.year_step O fc hi
    have HFa : Hid (∀ k : Nat, Y.facing n st k = sumF (Y.day ((k : Int) * st)) n) := fun k => rfl
    have HBG : Hid (∀ j, bestG (Y.facing n st) st (j + 1) = (((bestF (Y.facing n st) j).1 : Int) * st, (bestF (Y.facing n st) j).2)) := bestG_eq (Yr.year_gt O _)
    have hn2 := O.n2
    have HF2 : Hid (∀ W1, Below w.heap.size w W1 → FacingAns Y st n w (.returned (.tuple #[.int .i64 (((bestF (Y.facing n st) (steps st)).1 : Int) * st), .float .f32 (bestF (Y.facing n st) (steps st)).2, .int .i64 0])) W1) := fun W1 h1 => facingans_ok h h1
    have F3 := Lib.hid f3
    have F4 := Lib.hid f4
    have HD' := Lib.hid HD
    have HSt' := Lib.hid HSt
    rw [h] at HC
    rw [hr] at HC HF
    clear h O hr F f3 f4 HD HSt
    generalize Y.facing n st = G at HF2 HFa HBG
    generalize steps st = m at f2 F3 F4 HF2
    generalize Y.day = D at HD' HSt' HFa
    go_enter Try.func33, Try.ntmps33
    go_wp2_with (first
      | (go_at_call 69; refine (HF _).mono ?_; rintro e w' ⟨rfl, rfl⟩)
      | (go_at_call 63; refine (Calls.mono HC) ?_; rintro e w' ⟨rfl, x, rfl⟩))
    have HI0 : Hid (Below w.heap.size w (ext (w.alloc (.cells #[.int .i8 Y.sl, .float .f32 Y.wd, .float .f32 Y.gp, .int .i16 Y.ti, .float .f32 Y.sh] 49)) x) ∧ (ext (w.alloc (.cells #[.int .i8 Y.sl, .float .f32 Y.wd, .float .f32 Y.gp, .int .i16 Y.ti, .float .f32 Y.sh] 49)) x).heap[w.heap.size]? = some (.cells #[.int .i8 Y.sl, .float .f32 Y.wd, .float .f32 Y.gp, .int .i16 Y.ti, .float .f32 Y.sh] 49 (0, 0))) :=
      ⟨below_step HB0.out (below_ext _ x), ((below_ext (w.alloc (.cells #[.int .i8 Y.sl, .float .f32 Y.wd, .float .f32 Y.gp, .int .i16 Y.ti, .float .f32 Y.sh] 49)) x).block _ (size_of_heap HRW.out)).trans HRW.out⟩
    clear HC HB0 HRW
    generalize ext (w.alloc (.cells #[.int .i8 Y.sl, .float .f32 Y.wd, .float .f32 Y.gp, .int .i16 Y.ti, .float .f32 Y.sh] 49)) x = W0 at HI0 ⊢
    go_loopg [10, 11, 12, 13, 14] (m + 1) (fun gg s10 s11 s12 _ _ wr => ∃ j : Nat, j ≤ m + 1 ∧ m + 1 - j ≤ gg ∧ s10 = .int .i64 (bestG G st j).1 ∧ s11 = .float .f32 (bestG G st j).2 ∧ s12 = .int .i64 ((j : Int) * st) ∧ Aside (Below w.heap.size w wr ∧ wr.heap[w.heap.size]? = some (.cells #[.int .i8 Y.sl, .float .f32 Y.wd, .float .f32 Y.gp, .int .i16 Y.ti, .float .f32 Y.sh] 49 (0, 0))))
    case atStart => exact ⟨0, Nat.zero_le _, by omega, rfl, rfl, by rw [show ((0 : Nat) : Int) = 0 from rfl, Int.zero_mul], HI0.out⟩
    case round =>
      obtain ⟨j, hj, hg, rfl, rfl, rfl, BW⟩ := hrel
      by_cases hlt : j ≤ m
      · obtain ⟨g0, g1⟩ := F3.out j hlt
        have hltz : (j : Int) * st < 256 := by omega
        have HD1 := Lib.hid (HD'.out _ g0 g1)
        have HS1 := Lib.hid (HSt'.out ((j : Int) * st))
        have HG1 : Hid (bestG G st (j + 1) = if fgt (G j) (bestG G st j).2 = true then ((j : Int) * st, G j) else bestG G st j) := (rfl : bestG G st (j + 1) = _)
        have HG2 := Lib.hid (HFa.out j)
        have HN : Hid (((j + 1 : Nat) : Int) * st = (j : Int) * st + st) := by
          show _ = _
          rw [Int.natCast_add, Int.add_mul]; simp
        generalize hfj : (j : Int) * st = fj at HD1 HS1 HG1 HG2 HN g0 g1 hltz ⊢
        have Hfj := Lib.hid hfj; clear hfj
        have hw1 : IntKind.i64.wrap (fj + st) = fj + st := IntWalk.i64_in _ (by omega)
        generalize D fj = d at HD1 HS1 HG2
        go_wp2
        go_loopg [13, 14] n (fun gg s13 s14 wr => ∃ i : Nat, i ≤ n ∧ n - i ≤ gg ∧ s13 = .float .f32 (sumF d i) ∧ s14 = .int .i64 i ∧ Aside (Below w.heap.size w wr ∧ wr.heap[w.heap.size]? = some (.cells #[.int .i8 Y.sl, .float .f32 Y.wd, .float .f32 Y.gp, .int .i16 Y.ti, .float .f32 Y.sh] 49 (0, 0))))
        case atStart => exact ⟨0, Nat.zero_le _, by omega, rfl, rfl, BW.out⟩
        case round =>
          obtain ⟨i, hi, hgi, rfl, rfl, BQ⟩ := hrel
          by_cases hlt2 : i < n
          · have hltz2 : (i : Int) < (n : Int) := by omega
            obtain ⟨b, o, rfl, hs⟩ := (HS.out.below BQ.out.1) i hlt2
            have HD2 := HD1.out i hlt2 b (o + i * 48) wr BQ.out.2 hs
            have HS2 := HS1.out i hlt2
            clear hs
            generalize hs1 : sumF d (i + 1) = s1 at HS2
            have Hs1 := Lib.hid hs1; clear hs1
            generalize d i = di at HD2 HS2
            go_wp2_with (go_at_call 65; refine (Calls.mono HD2) ?_; rintro e w' ⟨rfl, x, rfl⟩)
            go_roundg (n - (i + 1))
            case measure => omega
            case rel => exact ⟨i + 1, by omega, by omega, by rw [Hs1.out], by go_num, (show Aside _ from ⟨below_step BQ.out.1 (below_ext _ _), ((below_ext wr x).block _ (size_of_heap BQ.out.2)).trans BQ.out.2⟩)⟩
          · have hltz2 : ¬ (i : Int) < (n : Int) := by omega
            have : i = n := by omega
            subst this
            rw [← HG2.out]
            generalize G j = gj at HG1 ⊢
            cases hgt : fgt gj (bestG G st j).2
            · go_wp2
              go_roundg (m + 1 - (j + 1))
              case measure => omega
              case rel =>
                have h1 : bestG G st (j + 1) = bestG G st j := by rw [HG1.out, hgt]; rfl
                exact ⟨j + 1, by omega, by omega, by rw [h1], by rw [h1], by rw [HN.out], BQ.out⟩
            · go_wp2
              go_roundg (m + 1 - (j + 1))
              case measure => omega
              case rel =>
                have h1 : bestG G st (j + 1) = (fj, gj) := by rw [HG1.out, hgt]; rfl
                exact ⟨j + 1, by omega, by omega, by rw [h1], by rw [h1], by rw [HN.out], BQ.out⟩
      · have e : j = m + 1 := by omega
        subst e
        have hltz : ¬ ((m + 1 : Nat) : Int) * st < 256 := by have := F4.out; rw [Int.natCast_add]; simp only [Int.natCast_one]; omega
        have HF3 := Lib.hid (HF2.out _ BW.out.1)
        have E := HBG.out m
        generalize ((m + 1 : Nat) : Int) * st = fj at hltz ⊢
        rw [E]
        go_wp2
        refine bodyPost_ret (v := .tuple #[.int .i64 (((bestF G m).1 : Int) * st), .float .f32 (bestF G m).2, .int .i64 0]) ?_ rfl HF3.out
        simp [results, Try.results33, go_sem]
  · have hb : (Y.codeF n st == 0) = false := by simpa using h
    have hb' : (Y.codeF n st != 0) = true := by simpa using h
    have HF2 : Hid (∀ W1, Below w.heap.size w W1 → FacingAns Y st n w (.returned (.tuple #[.int .i64 0, .float .f32 0, .int .i64 (Y.codeF n st)])) W1) :=
      fun W1 h1 => facingans_no h h1
    clear h F
    generalize Y.codeF n st = cd at HC hb hb' HF2
    generalize inB st 8 255 = r at HC HF
    go_enter Try.func33, Try.ntmps33
    go_wp2_with (first
      | (go_at_call 69; refine (HF _).mono ?_; rintro e w' ⟨rfl, rfl⟩)
      | (go_at_call 63; refine (Calls.mono HC) ?_; rintro e w' ⟨rfl, x, rfl⟩))
    have BW := HB0.out
    have ZW := HB0.out.size
    refine bodyPost_ret (v := .tuple #[.int .i64 0, .float .f32 0, .int .i64 cd]) ?_ rfl (HF2.out _ (by (repeat' (first | (with_reducible exact Below.refl _ _) | (with_reducible assumption) | (with_reducible refine below_ext' ?_ ?_) | (with_reducible refine Below.alloc ?_ ?_ _) | (with_reducible refine below_drewN ?_ _) | (with_reducible refine Below.drew ?_) | (with_reducible refine Below.setCell ?_ ?_ _) | (with_reducible exact Nat.le_refl _) | (with_reducible refine ext_le _ _ ?_) | (with_reducible refine le_alloc ?_ _) | (with_reducible refine le_set ?_ _ _) | (with_reducible refine le_drew ?_) | (with_reducible refine le_drewN ?_ _) | (simp; done) | (simp; omega) | omega))))
    simp [results, Try.results33, go_sem]
end Go.Proofs.Ytbelopcfmjgfiaa
