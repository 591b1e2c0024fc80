/- Contracts: the laws' copies of a control, a blind, a state, a tick, ticks. No condition. -/
import Derived.Test.YtbelopcfmjgfiaaAsk
import Derived.Deep.LoopGhost
import Derived.Laws.MakeOwn
namespace Go.Proofs.Ytbelopcfmjgfiaa
open Go Go.RowKit
attribute [local go_sem] binOp_flt binOp_fgt binOp_feq binOp_fne binOp_fle binOp_fge faRes_some run_fadd run_fsub run_fmul run_fdiv run_ofI run_store_float run_neg run_min1 ext_cell ext_frozen ext_lt ext_setCell ext_drew ext_drewN
set_option maxRecDepth 100000 in
set_option maxHeartbeats 2000000 in
theorem toControl_any (lo hi wi : Nat) (st de ca : Int) (w : World) : Calls Try.prog 22 #[.agg #[.float .f32 lo, .float .f32 hi, .float .f32 wi, .int .i8 st, .int .i8 de, .int .i8 ca]] w fun e w' => e = .returned (.agg #[.float .f32 lo, .float .f32 hi, .float .f32 wi, .int .i8 st, .int .i8 de, .int .i8 ca]) ∧ ∃ x, w' = ext w x := by
  go_enter Try.func22, Try.ntmps22
  go_wp2
  refine bodyPost_ret (v := .agg #[.float .f32 lo, .float .f32 hi, .float .f32 wi, .int .i8 st, .int .i8 de, .int .i8 ca]) ?_ rfl ⟨rfl, ex_of (by (repeat' (first | (with_reducible exact Below.refl _ _) | (with_reducible assumption) | (with_reducible refine below_ext' ?_ ?_) | (with_reducible refine Below.alloc ?_ ?_ _) | (with_reducible refine below_drewN ?_ _) | (with_reducible refine Below.drew ?_) | (with_reducible refine Below.setCell ?_ ?_ _) | (with_reducible exact Nat.le_refl _) | (with_reducible refine ext_le _ _ ?_) | (simp; done) | (simp; omega) | omega)))⟩
  simp [results, Try.results22, go_sem]
set_option maxRecDepth 100000 in
set_option maxHeartbeats 2000000 in
theorem toBlind_any (sl : Int) (wd gp : Nat) (ti : Int) (sh : Nat) (w : World) : Calls Try.prog 23 #[.agg #[.int .i8 sl, .float .f32 wd, .float .f32 gp, .int .i16 ti, .float .f32 sh]] w fun e w' => e = .returned (.agg #[.int .i8 sl, .float .f32 wd, .float .f32 gp, .int .i16 ti, .float .f32 sh]) ∧ ∃ x, w' = ext w x := by
  go_enter Try.func23, Try.ntmps23
  go_wp2
  refine bodyPost_ret (v := .agg #[.int .i8 sl, .float .f32 wd, .float .f32 gp, .int .i16 ti, .float .f32 sh]) ?_ rfl ⟨rfl, ex_of (by (repeat' (first | (with_reducible exact Below.refl _ _) | (with_reducible assumption) | (with_reducible refine below_ext' ?_ ?_) | (with_reducible refine Below.alloc ?_ ?_ _) | (with_reducible refine below_drewN ?_ _) | (with_reducible refine Below.drew ?_) | (with_reducible refine Below.setCell ?_ ?_ _) | (with_reducible exact Nat.le_refl _) | (with_reducible refine ext_le _ _ ?_) | (simp; done) | (simp; omega) | omega)))⟩
  simp [results, Try.results23, go_sem]
set_option maxRecDepth 100000 in
set_option maxHeartbeats 2000000 in
theorem toState_any (ti' wa sm : Int) (w : World) : Calls Try.prog 24 #[.agg #[.int .i16 ti', .int .i8 wa, .int .i8 sm]] w fun e w' => e = .returned (.agg #[.int .i16 ti', .int .i8 wa, .int .i8 sm]) ∧ ∃ x, w' = ext w x := by
  go_enter Try.func24, Try.ntmps24
  go_wp2
  refine bodyPost_ret (v := .agg #[.int .i16 ti', .int .i8 wa, .int .i8 sm]) ?_ rfl ⟨rfl, ex_of (by (repeat' (first | (with_reducible exact Below.refl _ _) | (with_reducible assumption) | (with_reducible refine below_ext' ?_ ?_) | (with_reducible refine Below.alloc ?_ ?_ _) | (with_reducible refine below_drewN ?_ _) | (with_reducible refine Below.drew ?_) | (with_reducible refine Below.setCell ?_ ?_ _) | (with_reducible exact Nat.le_refl _) | (with_reducible refine ext_le _ _ ?_) | (simp; done) | (simp; omega) | omega)))⟩
  simp [results, Try.results24, go_sem]
set_option maxRecDepth 100000 in
set_option maxHeartbeats 2000000 in
theorem toTick_any (li gu : Nat) (he : Int) (w : World) : Calls Try.prog 58 #[.agg #[.float .f32 li, .float .f32 gu, .int .i8 he]] w fun e w' => e = .returned (.agg #[.float .f32 li, .float .f32 gu, .int .i8 he]) ∧ ∃ x, w' = ext w x := by
  go_enter Try.func58, Try.ntmps58
  go_wp2
  refine bodyPost_ret (v := .agg #[.float .f32 li, .float .f32 gu, .int .i8 he]) ?_ rfl ⟨rfl, ex_of (by (repeat' (first | (with_reducible exact Below.refl _ _) | (with_reducible assumption) | (with_reducible refine below_ext' ?_ ?_) | (with_reducible refine Below.alloc ?_ ?_ _) | (with_reducible refine below_drewN ?_ _) | (with_reducible refine Below.drew ?_) | (with_reducible refine Below.setCell ?_ ?_ _) | (with_reducible exact Nat.le_refl _) | (with_reducible refine ext_le _ _ ?_) | (simp; done) | (simp; omega) | omega)))⟩
  simp [results, Try.results58, go_sem]

/-- A row of n elements of m cells, all its own. -/
structure RowOf (w : World) (g n m : Nat) (t : TypeId) : Prop where
  row : ∃ cur : Array Value, w.heap[g]? = some (.cells cur t (0, 0)) ∧ cur.size = n * m
theorem RowOf.some {w : World} {g n m : Nat} {t : TypeId} (h : RowOf w g n m t) {k : Nat} (hk : k < n * m) : (w.cell? ⟨g, k, none⟩).isSome = true := by
  obtain ⟨cur, h1, h2⟩ := h.row
  rw [cell_of_row w g k cur t (0, 0) h1]
  simp [h2, hk]
theorem RowOf.frozen {w : World} {g n m : Nat} {t : TypeId} (h : RowOf w g n m t) (k : Nat) : w.frozen? ⟨g, k, none⟩ = false := by
  obtain ⟨cur, h1, _⟩ := h.row
  exact frozen_of_row _ _ _ _ _ h1
theorem RowOf.set {w : World} {g n m : Nat} {t : TypeId} (h : RowOf w g n m t) (k : Nat) (v : Value) : RowOf (w.setCell ⟨g, k, none⟩ v) g n m t := by
  obtain ⟨cur, h1, h2⟩ := h.row
  refine ⟨cur.setIfInBounds k v, ?_, by simpa using h2⟩
  simp [World.setCell, Array.getElem?_modify, h1]
theorem RowOf.below {w w' : World} {B g n m : Nat} {t : TypeId} (h : RowOf w g n m t) (hb : Below B w w') (hB : g < B) : RowOf w' g n m t := by
  obtain ⟨cur, h1, h2⟩ := h.row
  exact ⟨cur, (hb.block g hB).trans h1, h2⟩
end Go.Proofs.Ytbelopcfmjgfiaa
