/- Contracts: a tick of spec, case by case. No condition. -/
import Derived.Test.YtbelopcfmjgfiaaValid
import Derived.Test.YtbelopcfmjgfiaaPass
import Derived.Test.YtbelopcfmjgfiaaTickPure
import Derived.StillTailTactics
namespace Go.Proofs.Ytbelopcfmjgfiaa
open Go Go.RowKit
attribute [local go_sem] binOp_flt binOp_fgt binOp_feq binOp_fne binOp_fle binOp_fge faRes_some run_fadd run_fsub run_fmul run_fdiv run_ofI run_store_float run_neg run_min1 ext_cell ext_frozen ext_lt ext_setCell ext_drew ext_drewN

theorem l00Min_eq (a b r : Int) (h : r = if a < b then a else b) (w : World) : Calls Try.prog 100 #[.int .i64 a, .int .i64 b] w fun e w' => e = .returned (.int .i64 r) ∧ w = w' := by
  by_cases h1 : a < b
  · rw [if_pos h1] at h; subst h
    go_enter Try.func100, Try.ntmps100
    go_wp2
    go_ret
    exact ⟨rfl, rfl⟩
  · rw [if_neg h1] at h; subst h
    go_enter Try.func100, Try.ntmps100
    go_wp2
    go_ret
    exact ⟨rfl, rfl⟩
theorem l00Max_eq (a b r : Int) (h : r = if b < a then a else b) (w : World) : Calls Try.prog 101 #[.int .i64 a, .int .i64 b] w fun e w' => e = .returned (.int .i64 r) ∧ w = w' := by
  by_cases h1 : b < a
  · rw [if_pos h1] at h; subst h
    go_enter Try.func101, Try.ntmps101
    go_wp2
    go_ret
    exact ⟨rfl, rfl⟩
  · rw [if_neg h1] at h; subst h
    go_enter Try.func101, Try.ntmps101
    go_wp2
    go_ret
    exact ⟨rfl, rfl⟩

set_option maxRecDepth 100000 in
set_option maxHeartbeats 2000000 in
theorem once_A1 (b o tb t_ : Nat) (lo hi wi : Nat) (st de ca : Int) (sl : Int) (wd gp : Nat) (ti : Int) (sh : Nat) (sm wa ti' : Int) (li gu : Nat) (he : Int)
    (hca : 0 < ca) (hgu : fgt gu wi = true)
    (w : World) (hC : ControlAt w b o lo hi wi st de ca) (hT : TickAt w tb t_ li gu he) :
    Calls Try.prog 57 #[.pointer (some ⟨b, o, none⟩), .agg #[.int .i8 sl, .float .f32 wd, .float .f32 gp, .int .i16 ti, .float .f32 sh], Value.agg #[Value.int .i16 (ti'), Value.int .i8 (wa), Value.int .i8 (sm)], .pointer (some ⟨tb, t_, none⟩)] w fun e w' =>
      e = .returned (Value.tuple #[Value.agg #[Value.int .i16 (ti'), Value.int .i8 (wa), Value.int .i8 (ca)], Value.float .f32 li]) ∧ ∃ x, w' = ext w x := by
  obtain ⟨c0, c1, c2, c3, c4, c5⟩ := hC
  obtain ⟨t0, t1, t2⟩ := hT
  have lb : b < w.heap.size := World.block_lt_of_cell? w _ c0
  obtain ⟨l1, l2, l3, l4, l5, l6⟩ := lts lb
  have ltb : tb < w.heap.size := World.block_lt_of_cell? w _ t0
  obtain ⟨m1, m2, m3, m4, m5, m6⟩ := lts ltb
  go_enter Try.func57, Try.ntmps57
  go_wp2
  go_quiet (fail)
  go_wp2
  go_region
  all_goals go_wp2
  all_goals
    refine bodyPost_ret (v := Value.tuple #[Value.agg #[Value.int .i16 (ti'), Value.int .i8 (wa), Value.int .i8 (ca)], Value.float .f32 li]) (by simp [results, Try.results57, go_sem]) rfl ⟨rfl, ex_of (by (repeat' (first | (with_reducible exact Below.refl _ _) | (with_reducible assumption) | (with_reducible refine below_ext' ?_ ?_) | (with_reducible refine Below.alloc ?_ ?_ _) | (with_reducible refine below_drewN ?_ _) | (with_reducible refine Below.drew ?_) | (with_reducible refine Below.setCell ?_ ?_ _) | (with_reducible exact Nat.le_refl _) | (with_reducible refine ext_le _ _ ?_) | (simp; done) | (simp; omega) | omega)))⟩

set_option maxRecDepth 100000 in
set_option maxHeartbeats 2000000 in
theorem once_A2 (b o tb t_ : Nat) (lo hi wi : Nat) (st de ca : Int) (sl : Int) (wd gp : Nat) (ti : Int) (sh : Nat) (sm wa ti' : Int) (li gu : Nat) (he : Int)
    (h0 : 1 < sm) (h1 : sm ≤ 20) (hgu : fgt gu wi = false)
    (w : World) (hC : ControlAt w b o lo hi wi st de ca) (hT : TickAt w tb t_ li gu he) :
    Calls Try.prog 57 #[.pointer (some ⟨b, o, none⟩), .agg #[.int .i8 sl, .float .f32 wd, .float .f32 gp, .int .i16 ti, .float .f32 sh], Value.agg #[Value.int .i16 (ti'), Value.int .i8 (wa), Value.int .i8 (sm)], .pointer (some ⟨tb, t_, none⟩)] w fun e w' =>
      e = .returned (Value.tuple #[Value.agg #[Value.int .i16 (ti'), Value.int .i8 (wa), Value.int .i8 (sm - 1)], Value.float .f32 li]) ∧ ∃ x, w' = ext w x := by
  obtain ⟨c0, c1, c2, c3, c4, c5⟩ := hC
  obtain ⟨t0, t1, t2⟩ := hT
  have lb : b < w.heap.size := World.block_lt_of_cell? w _ c0
  obtain ⟨l1, l2, l3, l4, l5, l6⟩ := lts lb
  have ltb : tb < w.heap.size := World.block_lt_of_cell? w _ t0
  obtain ⟨m1, m2, m3, m4, m5, m6⟩ := lts ltb
  go_enter Try.func57, Try.ntmps57
  go_wp2
  go_quiet (fail)
  go_wp2
  go_region
  all_goals go_wp2
  all_goals
    refine bodyPost_ret (v := Value.tuple #[Value.agg #[Value.int .i16 (ti'), Value.int .i8 (wa), Value.int .i8 (sm - 1)], Value.float .f32 li]) (by simp [results, Try.results57, go_sem]) rfl ⟨rfl, ex_of (by (repeat' (first | (with_reducible exact Below.refl _ _) | (with_reducible assumption) | (with_reducible refine below_ext' ?_ ?_) | (with_reducible refine Below.alloc ?_ ?_ _) | (with_reducible refine below_drewN ?_ _) | (with_reducible refine Below.drew ?_) | (with_reducible refine Below.setCell ?_ ?_ _) | (with_reducible exact Nat.le_refl _) | (with_reducible refine ext_le _ _ ?_) | (simp; done) | (simp; omega) | omega)))⟩
end Go.Proofs.Ytbelopcfmjgfiaa
