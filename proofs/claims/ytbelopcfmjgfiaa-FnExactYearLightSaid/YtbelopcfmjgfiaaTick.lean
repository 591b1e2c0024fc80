/- Contracts: a tick of impl, case by case. No condition. -/
import Derived.Test.YtbelopcfmjgfiaaValid
import Derived.Test.YtbelopcfmjgfiaaTickPure
import Derived.StillTailTactics
namespace Go.Proofs.Ytbelopcfmjgfiaa
open Go Go.RowKit
attribute [local go_sem] binOp_flt binOp_fgt binOp_feq binOp_fne binOp_fle binOp_fge faRes_some run_fadd run_fsub run_fmul run_fdiv run_ofI run_store_float run_neg run_min1 ext_cell ext_frozen ext_lt ext_setCell ext_drew ext_drewN

set_option maxRecDepth 100000 in
set_option maxHeartbeats 2000000 in
theorem tick_A1 (b o : Nat) (lo hi wi : Nat) (st de ca : Int) (sl : Int) (wd gp : Nat) (ti : Int) (sh : Nat) (sm wa ti' : Int) (li gu : Nat) (he : Int)
    (hca : 0 < ca) (hgu : fgt gu wi = true)
    (w : World) (hC : ControlAt w b o lo hi wi st de ca) :
    Calls Try.prog 108 #[.pointer (some ⟨b, o, none⟩), .agg #[.int .i8 sl, .float .f32 wd, .float .f32 gp, .int .i16 ti, .float .f32 sh], Value.agg #[Value.int .i16 (ti'), Value.int .i8 (wa), Value.int .i8 (sm)], .agg #[.float .f32 li, .float .f32 gu, .int .i8 he]] w fun e w' =>
      e = .returned (Value.tuple #[Value.agg #[Value.int .i16 (ti'), Value.int .i8 (wa), Value.int .i8 (ca)], Value.float .f32 li, Value.bool true]) ∧ ∃ x, w' = ext w x := by
  obtain ⟨c0, c1, c2, c3, c4, c5⟩ := hC
  have lb : b < w.heap.size := World.block_lt_of_cell? w _ c0
  obtain ⟨l1, l2, l3, l4, l5, l6⟩ := lts lb
  go_enter Try.func108, Try.ntmps108
  go_wp2
  go_quiet (fail)
  go_wp2
  go_region
  all_goals go_wp2
  all_goals
    refine bodyPost_ret (v := Value.tuple #[Value.agg #[Value.int .i16 (ti'), Value.int .i8 (wa), Value.int .i8 (ca)], Value.float .f32 li, Value.bool true]) (by simp [results, Try.results108, go_sem]) rfl ⟨rfl, ex_of (by (repeat' (first | (with_reducible exact Below.refl _ _) | (with_reducible assumption) | (with_reducible refine below_ext' ?_ ?_) | (with_reducible refine Below.alloc ?_ ?_ _) | (with_reducible refine below_drewN ?_ _) | (with_reducible refine Below.drew ?_) | (with_reducible refine Below.setCell ?_ ?_ _) | (with_reducible exact Nat.le_refl _) | (with_reducible refine ext_le _ _ ?_) | (simp; done) | (simp; omega) | omega)))⟩

set_option maxRecDepth 100000 in
set_option maxHeartbeats 2000000 in
theorem tick_A2 (b o : Nat) (lo hi wi : Nat) (st de ca : Int) (sl : Int) (wd gp : Nat) (ti : Int) (sh : Nat) (sm wa ti' : Int) (li gu : Nat) (he : Int)
    (h0 : 1 < sm) (h1 : sm ≤ 20) (hgu : fgt gu wi = false)
    (w : World) (hC : ControlAt w b o lo hi wi st de ca) :
    Calls Try.prog 108 #[.pointer (some ⟨b, o, none⟩), .agg #[.int .i8 sl, .float .f32 wd, .float .f32 gp, .int .i16 ti, .float .f32 sh], Value.agg #[Value.int .i16 (ti'), Value.int .i8 (wa), Value.int .i8 (sm)], .agg #[.float .f32 li, .float .f32 gu, .int .i8 he]] w fun e w' =>
      e = .returned (Value.tuple #[Value.agg #[Value.int .i16 (ti'), Value.int .i8 (wa), Value.int .i8 (sm - 1)], Value.float .f32 li, Value.bool true]) ∧ ∃ x, w' = ext w x := by
  obtain ⟨c0, c1, c2, c3, c4, c5⟩ := hC
  have lb : b < w.heap.size := World.block_lt_of_cell? w _ c0
  obtain ⟨l1, l2, l3, l4, l5, l6⟩ := lts lb
  go_enter Try.func108, Try.ntmps108
  go_wp2
  go_quiet (fail)
  go_wp2
  go_region
  all_goals go_wp2
  all_goals
    refine bodyPost_ret (v := Value.tuple #[Value.agg #[Value.int .i16 (ti'), Value.int .i8 (wa), Value.int .i8 (sm - 1)], Value.float .f32 li, Value.bool true]) (by simp [results, Try.results108, go_sem]) rfl ⟨rfl, ex_of (by (repeat' (first | (with_reducible exact Below.refl _ _) | (with_reducible assumption) | (with_reducible refine below_ext' ?_ ?_) | (with_reducible refine Below.alloc ?_ ?_ _) | (with_reducible refine below_drewN ?_ _) | (with_reducible refine Below.drew ?_) | (with_reducible refine Below.setCell ?_ ?_ _) | (with_reducible exact Nat.le_refl _) | (with_reducible refine ext_le _ _ ?_) | (simp; done) | (simp; omega) | omega)))⟩
end Go.Proofs.Ytbelopcfmjgfiaa
