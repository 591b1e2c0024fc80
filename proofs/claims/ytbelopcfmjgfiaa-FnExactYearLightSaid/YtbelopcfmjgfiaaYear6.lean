/- Contracts: YearFacing (both packages). No condition. -/
import Derived.Test.YtbelopcfmjgfiaaYear5
namespace Go.Proofs.Ytbelopcfmjgfiaa
open Go Go.RowKit Go.BigFrame
attribute [local go_sem] binOp_flt binOp_fgt binOp_feq binOp_fne binOp_fle binOp_fge faRes_some run_fadd run_fsub run_fmul run_fdiv run_ofI run_store_float run_neg run_min1 ext_cell ext_frozen ext_lt ext_setCell ext_drew ext_drewN
attribute [local go_sem] arrAt_ext arrAt_alloc arrAt_drew arrAt_drewN arrAt_new arrAt_new1 arrAt_new2
attribute [local go_sem ↓] run_ld_sun run_st_sun run_ld_lsun run_st_lsun run_ld_a24 run_st_a24
/-- How many steps there are after the first. -/
def steps (st : Int) : Nat := (Int.tdiv 255 st).toNat
theorem steps_facts {st : Int} (h0 : 8 ≤ st) (h1 : st ≤ 255) : Int.tdiv 255 st = (steps st : Int) ∧ steps st ≤ 31 ∧ (∀ k : Nat, k ≤ steps st → 0 ≤ (k : Int) * st ∧ (k : Int) * st ≤ 255) ∧ 255 < ((steps st : Int) + 1) * st := by
  have e : Int.tdiv 255 st = 255 / st := Int.tdiv_eq_ediv_of_nonneg (by omega)
  have h2 : 0 ≤ 255 / st := Int.ediv_nonneg (by omega) (by omega)
  have h3 : ((steps st : Nat) : Int) = 255 / st := by unfold steps; rw [e]; omega
  have h4 : st * (255 / st) ≤ 255 := Int.mul_ediv_self_le (by omega)
  have h5 : 255 < st * (255 / st) + st := Int.lt_mul_ediv_self_add (by omega)
  have h6 : 8 * (255 / st) ≤ st * (255 / st) := Int.mul_le_mul_of_nonneg_right h0 h2
  refine ⟨by rw [e, h3], by omega, fun k hk => ⟨Int.mul_nonneg (by omega) (by omega), ?_⟩, ?_⟩
  · have h7 : (k : Int) * st ≤ (255 / st) * st := Int.mul_le_mul_of_nonneg_right (by omega) (by omega)
    rw [Int.mul_comm (255 / st) st] at h7
    omega
  · rw [h3, Int.add_mul, Int.one_mul, Int.mul_comm (255 / st) st]; exact h5
def Yr.codeF (Y : Yr) (n : Nat) (st : Int) : Int := Y.code n (inB st 8 255)
/-- A year's light with the k-th facing. -/
def Yr.facing (Y : Yr) (n : Nat) (st : Int) (k : Nat) : Nat := Y.year n ((k : Int) * st)
def Yr.bestFc (Y : Yr) (n : Nat) (st : Int) : Int × Nat := if Y.codeF n st = 0 then (((bestF (Y.facing n st) (steps st)).1 : Int) * st, (bestF (Y.facing n st) (steps st)).2) else (0, 0)
def FacingAns (Y : Yr) (st : Int) (n : Nat) (w : World) (e : Ending) (w' : World) : Prop :=
  e = .returned (.tuple #[.int .i64 (Y.bestFc n st).1, .float .f32 (Y.bestFc n st).2, .int .i64 (Y.codeF n st)]) ∧ ∃ x, w' = ext w x
theorem facingans_ok {Y : Yr} {st : Int} {n : Nat} {w w' : World} (h : Y.codeF n st = 0) (hb : Below w.heap.size w w') :
    FacingAns Y st n w (.returned (.tuple #[.int .i64 (((bestF (Y.facing n st) (steps st)).1 : Int) * st), .float .f32 (bestF (Y.facing n st) (steps st)).2, .int .i64 0])) w' :=
  ⟨by unfold Yr.bestFc; rw [if_pos h, h], ex_of hb⟩
theorem facingans_no {Y : Yr} {st : Int} {n : Nat} {w w' : World} (h : ¬ Y.codeF n st = 0) (hb : Below w.heap.size w w') :
    FacingAns Y st n w (.returned (.tuple #[.int .i64 0, .float .f32 0, .int .i64 (Y.codeF n st)])) w' :=
  ⟨by unfold Yr.bestFc; rw [if_neg h], ex_of hb⟩
set_option maxRecDepth 100000 in
set_option maxHeartbeats 2000000 in
theorem facing1_any (Y : Yr) (A : Option Addr) (n c : Nat) (F : Y.Fits n) (O : Y.Ok n) (st : Int) (hs0 : 8 ≤ st) (hs1 : st ≤ 255) {k : Nat} (hk : k ≤ steps st) (b1 b2 b3 : Nat) (w : World) (h1 : w.heap[b1]? = some (.cells #[.int .i8 Y.sl, .float .f32 Y.wd, .float .f32 Y.gp, .int .i16 Y.ti, .float .f32 Y.sh] 49 (0, 0)))
    (h2 : w.cell? ⟨b2, 0, none⟩ = some (.slice A n c)) (h3 : w.cell? ⟨b3, 0, none⟩ = some (.int .i64 st)) (hS : RdS w A n Y.S) :
    Calls Try.prog 72 #[.int .i64 (k : Nat), .pointer (some ⟨b1, 0, none⟩), .pointer (some ⟨b2, 0, none⟩), .pointer (some ⟨b3, 0, none⟩)] w fun e w' => e = .returned (.float .f32 (Y.facing n st k)) ∧ ∃ x, w' = ext w x := by
  obtain ⟨-, f2, f3, -⟩ := steps_facts hs0 hs1
  obtain ⟨f4, f5⟩ := f3 k hk
  have hn := O.n2
  have hL : ∀ W A' c', Rd W A' n (fun k' => .float .f32 (Y.day ((k : Int) * st) k')) → Calls Try.prog 55 #[.slice A' n c'] W fun e w' => e = .returned (.float .f32 (Y.facing n st k)) ∧ W = w' :=
    fun W A' c' hR => left_any A' n c' (Y.day ((k : Int) * st)) (by omega) (fun i hi => Yr.year_step O _ hi) W hR
  have HY : Calls Try.prog 73 #[.agg #[.int .i8 Y.sl, .float .f32 Y.wd, .float .f32 Y.gp, .int .i16 Y.ti, .float .f32 Y.sh], .slice A n c, .int .i64 ((k : Int) * st)] w fun e w' => ∃ A' c', e = .returned (.slice A' n c') ∧ (∃ x, w' = ext w x) ∧ Rd w' A' n (fun k' => .float .f32 (Y.day ((k : Int) * st) k')) :=
    (year_any Y ((k : Int) * st) A n c F O f4 f5 w hS).mono fun e w' ⟨A', c', e1, e2, e3⟩ => ⟨A', c', e1, e2, e3.rd⟩
  generalize Y.facing n st k = res at hL ⊢
  generalize Y.day ((k : Int) * st) = G at hL HY
  have f6 : IntKind.i64.wrap ((k : Int) * st) = (k : Int) * st := IntWalk.i64_in _ (by omega)
  obtain ⟨b0, b1', b2', b3', b4⟩ := row5b h1
  clear hS O F h1
  go_enter Try.func72, Try.ntmps72
  go_wp2_with (first
    | (go_at_call 73; refine (Calls.mono HY) ?_; rintro e w' ⟨A', c', rfl, ⟨x, rfl⟩, hR⟩; have HR := Lib.hid hR; clear hR)
    | (go_at_call 55; refine (hL _ _ _ HR.out).mono ?_; rintro e w' ⟨rfl, rfl⟩))
  go_ret
  exact ⟨rfl, ex_of (below_ext _ _)⟩
set_option maxRecDepth 100000 in
set_option maxHeartbeats 4000000 in
theorem YearFacing_any (Y : Yr) (st : Int) (A : Option Addr) (n c : Nat) (F : Y.Fits n) (hn : n ≤ 9223372036854775807) (w : World) (hS : RdS w A n Y.S) :
    Calls Try.prog 34 #[.agg #[.int .i8 Y.sl, .float .f32 Y.wd, .float .f32 Y.gp, .int .i16 Y.ti, .float .f32 Y.sh], .slice A n c, .int .i64 st] w (FacingAns Y st n w) := by
  have HC : ∀ W, RdS W A n Y.S → Calls Try.prog 70 #[.agg #[.int .i8 Y.sl, .float .f32 Y.wd, .float .f32 Y.gp, .int .i16 Y.ti, .float .f32 Y.sh], .slice A n c, .bool (inB st 8 255)] W fun e w' => e = .returned (.int .i64 (Y.codeF n st)) ∧ ∃ x, w' = ext W x :=
    fun W hW => yearCode_any Y.sl Y.wd Y.gp Y.ti Y.sh A n c Y.S (inB st 8 255) F.s0 F.s1 F.t0 F.t1 F.I hn W hW
  have HF := fun W => within_any st 8 255 W
  have hB0 : Below w.heap.size w (((w.alloc (.cells #[.int .i8 Y.sl, .float .f32 Y.wd, .float .f32 Y.gp, .int .i16 Y.ti, .float .f32 Y.sh] 49)).alloc (.cells #[.slice A n c] 61)).alloc (.cells #[.int .i64 st] 2)) := by (repeat' (first | (with_reducible exact Below.refl _ _) | (with_reducible assumption) | (with_reducible refine below_ext' ?_ ?_) | (with_reducible refine Below.alloc ?_ ?_ _) | (with_reducible refine below_drewN ?_ _) | (with_reducible refine Below.drew ?_) | (with_reducible refine Below.setCell ?_ ?_ _) | (with_reducible exact Nat.le_refl _) | (with_reducible refine ext_le _ _ ?_) | (with_reducible refine le_alloc ?_ _) | (with_reducible refine le_set ?_ _ _) | (with_reducible refine le_drew ?_) | (with_reducible refine le_drewN ?_ _) | (simp; done) | (simp; omega) | omega))
  have J1 : (((w.alloc (.cells #[.int .i8 Y.sl, .float .f32 Y.wd, .float .f32 Y.gp, .int .i16 Y.ti, .float .f32 Y.sh] 49)).alloc (.cells #[.slice A n c] 61)).alloc (.cells #[.int .i64 st] 2)).heap[w.heap.size]? = some (.cells #[.int .i8 Y.sl, .float .f32 Y.wd, .float .f32 Y.gp, .int .i16 Y.ti, .float .f32 Y.sh] 49 (0, 0)) :=
    (Below.heap_alloc _ _ _ (by simp; omega)).trans ((Below.heap_alloc _ _ _ (by simp)).trans (heap_alloc_new _ _))
  have J2 : (((w.alloc (.cells #[.int .i8 Y.sl, .float .f32 Y.wd, .float .f32 Y.gp, .int .i16 Y.ti, .float .f32 Y.sh] 49)).alloc (.cells #[.slice A n c] 61)).alloc (.cells #[.int .i64 st] 2)).heap[w.heap.size + 1]? = some (.cells #[.slice A n c] 61 (0, 0)) := by
    refine (Below.heap_alloc _ _ _ (by simp)).trans ?_
    rw [show w.heap.size + 1 = (w.alloc (.cells #[.int .i8 Y.sl, .float .f32 Y.wd, .float .f32 Y.gp, .int .i16 Y.ti, .float .f32 Y.sh] 49)).heap.size by simp]
    exact heap_alloc_new _ _
  have J3 : (((w.alloc (.cells #[.int .i8 Y.sl, .float .f32 Y.wd, .float .f32 Y.gp, .int .i16 Y.ti, .float .f32 Y.sh] 49)).alloc (.cells #[.slice A n c] 61)).alloc (.cells #[.int .i64 st] 2)).heap[w.heap.size + 1 + 1]? = some (.cells #[.int .i64 st] 2 (0, 0)) := by
    rw [show w.heap.size + 1 + 1 = ((w.alloc (.cells #[.int .i8 Y.sl, .float .f32 Y.wd, .float .f32 Y.gp, .int .i16 Y.ti, .float .f32 Y.sh] 49)).alloc (.cells #[.slice A n c] 61)).heap.size by simp]
    exact heap_alloc_new _ _
  have HS0 := Lib.hid (hS.below hB0)
  have HB0 := Lib.hid hB0; have K1 := Lib.hid J1; have K2 := Lib.hid J2; have K3 := Lib.hid J3; clear hB0 J1 J2 J3 hS
  by_cases h : Y.codeF n st = 0
  · obtain ⟨O, hr⟩ := Yr.ok_of F h
    obtain ⟨hs0, hs1⟩ := inB_iff.1 hr
    obtain ⟨f1, f2, f3, -⟩ := steps_facts hs0 hs1
    have HQ := fun b1 b2 b3 k (hk : k ≤ steps st) W => facing1_any Y A n c F O st hs0 hs1 hk b1 b2 b3 W
    have HF2 : Hid (∀ W1, Below w.heap.size w W1 → FacingAns Y st n w (.returned (.tuple #[.int .i64 (((bestF (Y.facing n st) (steps st)).1 : Int) * st), .float .f32 (bestF (Y.facing n st) (steps st)).2, .int .i64 0])) W1) := fun W1 h1 => facingans_ok h h1
    have f4 := f3 _ (bestF_le (Y.facing n st) (steps st))
    rw [h] at HC
    rw [hr] at HC HF
    have HQ' := Lib.hid HQ
    clear h O hr F f3 HQ
    generalize Y.facing n st = G at HF2 f4 HQ'
    generalize steps st = m at f1 f2 f4 HF2 HQ'
    have HG := fun p1 p2 p3 W => greatest_F m (by omega) G p1 p2 p3 W
    have HG' := Lib.hid HG; clear HG
    generalize bestF G m = bg at f4 HF2 HG'
    have f6 : IntKind.i64.wrap ((bg.1 : Int) * st) = (bg.1 : Int) * st := IntWalk.i64_in _ (by omega)
    have f5 : ¬ st = 0 := by omega
    have f7 : (st == 0) = false := by simpa using f5
    clear f4
    go_enter Try.func34, Try.ntmps34
    go_wp2
    generalize ((w.alloc (.cells #[.int .i8 Y.sl, .float .f32 Y.wd, .float .f32 Y.gp, .int .i16 Y.ti, .float .f32 Y.sh] 49)).alloc (.cells #[.slice A n c] 61)).alloc (.cells #[.int .i64 st] 2) = W0 at HS0 HB0 K1 K2 K3 ⊢
    obtain ⟨b0, b1, b2, b3, b4⟩ := row5b K1.out
    have d1 : W0.cell? ⟨w.heap.size + 1, 0, none⟩ = some (.slice A n c) := cell_of_row _ _ _ _ _ _ K2.out
    have d0 : W0.cell? ⟨w.heap.size + 1 + 1, 0, none⟩ = some (.int .i64 st) := cell_of_row _ _ _ _ _ _ K3.out
    have z0 := size_of_heap K1.out
    have z1 := size_of_heap K2.out
    have z2 := size_of_heap K3.out
    have BW := HB0.out
    have ZW := HB0.out.size
    have D1 := Lib.hid d1; have D0 := Lib.hid d0
    refine wp_region_ex (by kernel_rfl) (by kernel_rfl) ?_
    repeat (go_big_quiet_step ((first | (go_at_call 71; exact Calls.ex_of_same (HF _)) | (go_at_call 70; exact Calls.ex_of (HC _ (HS0.out.below (below_ext _ _)))))))
    refine wpQuiet_nil ?_
    intro _ hw'
    obtain ⟨xq, hw''⟩ := hw'
    subst hw''
    go_wp2_with (go_at_call 66
                 refine (Calls.mono (HG'.out _ _ _ _ (fun k hk W hW => by
                   have BX := below_ext W0 xq
                   have BX2 := BX.size
                   exact HQ'.out w.heap.size (w.heap.size + 1) (w.heap.size + 1 + 1) k hk W ((hW.block _ (by omega)).trans ((BX.block _ z0).trans K1.out))
                     ((hW.cell (p := ⟨w.heap.size + 1, 0, none⟩) (show w.heap.size + 1 < _ by omega)).trans ((BX.cell (p := ⟨w.heap.size + 1, 0, none⟩) z1).trans D1.out))
                     ((hW.cell (p := ⟨w.heap.size + 1 + 1, 0, none⟩) (show w.heap.size + 1 + 1 < _ by omega)).trans ((BX.cell (p := ⟨w.heap.size + 1 + 1, 0, none⟩) z2).trans D0.out))
                     ((HS0.out.below BX).below hW)))) ?_
                 rintro e w' ⟨rfl, x1, rfl⟩)
    refine bodyPost_ret (v := .tuple #[.int .i64 ((bg.1 : Int) * st), .float .f32 bg.2, .int .i64 0]) ?_ rfl (HF2.out _ (by (repeat' (first | (with_reducible exact Below.refl _ _) | (with_reducible assumption) | (with_reducible refine below_ext' ?_ ?_) | (with_reducible refine Below.alloc ?_ ?_ _) | (with_reducible refine below_drewN ?_ _) | (with_reducible refine Below.drew ?_) | (with_reducible refine Below.setCell ?_ ?_ _) | (with_reducible exact Nat.le_refl _) | (with_reducible refine ext_le _ _ ?_) | (with_reducible refine le_alloc ?_ _) | (with_reducible refine le_set ?_ _ _) | (with_reducible refine le_drew ?_) | (with_reducible refine le_drewN ?_ _) | (simp; done) | (simp; omega) | omega))))
    simp [results, Try.results34, go_sem]
  · have hb : (Y.codeF n st == 0) = false := by simpa using h
    have hb' : (Y.codeF n st != 0) = true := by simpa using h
    have HF2 : Hid (∀ W1, Below w.heap.size w W1 → FacingAns Y st n w (.returned (.tuple #[.int .i64 0, .float .f32 0, .int .i64 (Y.codeF n st)])) W1) :=
      fun W1 h1 => facingans_no h h1
    clear h F
    generalize Y.codeF n st = cd at HC hb hb' HF2
    generalize inB st 8 255 = r at HC HF
    go_enter Try.func34, Try.ntmps34
    go_wp2
    generalize ((w.alloc (.cells #[.int .i8 Y.sl, .float .f32 Y.wd, .float .f32 Y.gp, .int .i16 Y.ti, .float .f32 Y.sh] 49)).alloc (.cells #[.slice A n c] 61)).alloc (.cells #[.int .i64 st] 2) = W0 at HS0 HB0 K1 K2 K3 ⊢
    obtain ⟨b0, b1, b2, b3, b4⟩ := row5b K1.out
    have d1 : W0.cell? ⟨w.heap.size + 1, 0, none⟩ = some (.slice A n c) := cell_of_row _ _ _ _ _ _ K2.out
    have d0 : W0.cell? ⟨w.heap.size + 1 + 1, 0, none⟩ = some (.int .i64 st) := cell_of_row _ _ _ _ _ _ K3.out
    have z0 := size_of_heap K1.out
    have z1 := size_of_heap K2.out
    have z2 := size_of_heap K3.out
    have BW := HB0.out
    have ZW := HB0.out.size
    refine wp_region_ex (by kernel_rfl) (by kernel_rfl) ?_
    repeat (go_big_quiet_step ((first | (go_at_call 71; exact Calls.ex_of_same (HF _)) | (go_at_call 70; exact Calls.ex_of (HC _ (HS0.out.below (below_ext _ _)))))))
    refine wpQuiet_nil ?_
    intro _ hw'
    obtain ⟨xq, hw''⟩ := hw'
    subst hw''
    go_wp2
    refine bodyPost_ret (v := .tuple #[.int .i64 0, .float .f32 0, .int .i64 cd]) ?_ rfl (HF2.out _ (by (repeat' (first | (with_reducible exact Below.refl _ _) | (with_reducible assumption) | (with_reducible refine below_ext' ?_ ?_) | (with_reducible refine Below.alloc ?_ ?_ _) | (with_reducible refine below_drewN ?_ _) | (with_reducible refine Below.drew ?_) | (with_reducible refine Below.setCell ?_ ?_ _) | (with_reducible exact Nat.le_refl _) | (with_reducible refine ext_le _ _ ?_) | (with_reducible refine le_alloc ?_ _) | (with_reducible refine le_set ?_ _ _) | (with_reducible refine le_drew ?_) | (with_reducible refine le_drewN ?_ _) | (simp; done) | (simp; omega) | omega))))
    simp [results, Try.results34, go_sem]
end Go.Proofs.Ytbelopcfmjgfiaa
