/- Contract: the laws' sameFloat at a number and itself, at two NaNs. No condition. -/
import Derived.Test.YtbelopcfmjgfiaaBase
namespace Go.Proofs.Ytbelopcfmjgfiaa
open Go Go.RowKit
attribute [local go_sem] binOp_flt binOp_fgt binOp_feq binOp_fne binOp_fle binOp_fge faRes_some run_fadd run_fsub run_fmul run_fdiv run_ofI run_store_float run_neg run_min1 ext_cell ext_frozen ext_lt ext_setCell ext_drew ext_drewN
attribute [local go_sem] binOp_dlt binOp_dgt binOp_deq binOp_dne run_dadd run_ddiv
theorem deq_dne {x : Nat} (h : dne x x = false) : deq x x = true := by unfold dne at h; unfold deq; simpa using h
set_option maxHeartbeats 1000000 in
theorem sameFloat_nan (x y : Nat) (hx : dne x x = true) (hy : dne y y = true) (w : World) :
    Calls Try.prog 15 #[.float .f64 x, .float .f64 y] w fun e w' => e = .returned (.bool true) ∧ w = w' := by
  go_enter Try.func15, Try.ntmps15
  go_wp2
  go_ret
  exact ⟨rfl, rfl⟩
set_option maxHeartbeats 1000000 in
theorem sameFloat_same (x q : Nat) (hx : dne x x = false) (hq : deq x 0 = true → ddiv 4607182418800017408 x = some q) (w : World) :
    Calls Try.prog 15 #[.float .f64 x, .float .f64 x] w fun e w' => e = .returned (.bool true) ∧ w = w' := by
  have he := deq_dne hx
  cases hz : deq x 0 with
  | true =>
    have hq' := hq hz
    clear hq
    go_enter Try.func15, Try.ntmps15
    go_wp2
    go_ret
    exact ⟨by simp, rfl⟩
  | false =>
    clear hq
    go_enter Try.func15, Try.ntmps15
    go_wp2
    go_ret
    exact ⟨rfl, rfl⟩
end Go.Proofs.Ytbelopcfmjgfiaa
