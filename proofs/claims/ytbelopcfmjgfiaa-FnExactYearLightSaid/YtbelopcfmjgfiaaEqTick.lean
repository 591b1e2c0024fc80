/- Contracts: the laws' szTickS; eqTick, eqTickS at ticks that are the same, bit by bit. No condition. -/
import Derived.Test.YtbelopcfmjgfiaaCopyS
import Derived.Test.YtbelopcfmjgfiaaWiden
namespace Go.Proofs.Ytbelopcfmjgfiaa
open Go Go.RowKit Go.BigFrame
attribute [local go_sem] binOp_flt binOp_fgt binOp_feq binOp_fne binOp_fle binOp_fge faRes_some run_fadd run_fsub run_fmul run_fdiv run_ofI run_store_float run_neg run_min1 ext_cell ext_frozen ext_lt ext_setCell ext_drew ext_drewN
set_option maxHeartbeats 1000000 in
theorem szTickS_any (A : Option Addr) (n c : Nat) (left : Int) (hn : n ≤ 9223372036854775807) (h0 : 0 ≤ left) (h1 : left ≤ 9223372036854775807) (w : World) :
    Calls Try.prog 20 #[.slice A n c, .int .i64 left] w fun e w' => e = .returned (.int .i64 (if left < n then -1 else left - n)) ∧ w = w' := by
  by_cases h : left < n
  · have h2 : left - (n : Int) < 0 := by omega
    go_enter Try.func20, Try.ntmps20
    go_wp2
    go_ret
    exact ⟨rfl, rfl⟩
  · have h2 : ¬ left - (n : Int) < 0 := by omega
    go_enter Try.func20, Try.ntmps20
    go_wp2
    go_ret
    exact ⟨rfl, rfl⟩
/-- What 'float64(x)' gives: a number, or a NaN that the world draws. -/
theorem wide_cases (x : Nat) : (isN x = true ∧ ∀ W : World, (convert 24 30 (.float .f32 x)).run Try.prog W = .ok (.float .f64 (nanOf x W)) W.drew) ∨
    ∃ r q, dne r r = false ∧ ddiv 4607182418800017408 r = some q ∧ ∀ W : World, (convert 24 30 (.float .f32 x)).run Try.prog W = .ok (.float .f64 r) W := by
  cases h : isN x with
  | true => exact .inl ⟨rfl, fun W => run_widen_nan W _ _ x (by rw [Try.underlying24]; rfl) Try.underlying30 h⟩
  | false =>
    obtain ⟨r, h1, h2, q, h3⟩ := widen_some x h
    exact .inr ⟨r, q, h2, h3, fun W => run_convert_float_float W _ _ .f32 .f64 x r (by rw [Try.underlying24]; rfl) Try.underlying30 h1⟩
set_option maxRecDepth 100000 in
set_option maxHeartbeats 2000000 in
theorem eqTick_any (li gu : Nat) (he : Int) (w : World) : Calls Try.prog 62 #[.agg #[.float .f32 li, .float .f32 gu, .int .i8 he], .agg #[.float .f32 li, .float .f32 gu, .int .i8 he]] w fun e w' => e = .returned (.bool true) ∧ ∃ x, w' = ext w x := by
  have HN := Lib.hid (fun x y W1 W2 W => sameFloat_nan (nanOf x W1) (nanOf y W2) (dne_nanOf x W1) (dne_nanOf y W2) W)
  rcases wide_cases li with ⟨_, c1⟩ | ⟨r1, q1, d1, v1, c1⟩
  · rcases wide_cases gu with ⟨_, c2⟩ | ⟨r2, q2, d2, v2, c2⟩
    · go_enter Try.func62, Try.ntmps62
      go_wp2_with fail
      refine (Calls.mono (HN.out _ _ _ _ _) ?_)
      rintro e w' ⟨rfl, rfl⟩
      go_wp2_with fail
      refine (Calls.mono (HN.out _ _ _ _ _) ?_)
      rintro e w' ⟨rfl, rfl⟩
      go_wp2_with fail
      go_ret
      exact ⟨rfl, ex_of (by (repeat' (first | (with_reducible exact Below.refl _ _) | (with_reducible assumption) | (with_reducible refine below_ext' ?_ ?_) | (with_reducible refine Below.alloc ?_ ?_ _) | (with_reducible refine below_drewN ?_ _) | (with_reducible refine Below.drew ?_) | (with_reducible refine Below.setCell ?_ ?_ _) | (with_reducible exact Nat.le_refl _) | (with_reducible refine ext_le _ _ ?_) | (simp; done) | (simp; omega) | omega)))⟩
    · have H2 := Lib.hid (sameFloat_same r2 q2 d2 (fun _ => v2)); clear d2 v2
      go_enter Try.func62, Try.ntmps62
      go_wp2_with fail
      refine (Calls.mono (HN.out _ _ _ _ _) ?_)
      rintro e w' ⟨rfl, rfl⟩
      go_wp2_with fail
      refine (Calls.mono (H2.out _) ?_)
      rintro e w' ⟨rfl, rfl⟩
      go_wp2_with fail
      go_ret
      exact ⟨rfl, ex_of (by (repeat' (first | (with_reducible exact Below.refl _ _) | (with_reducible assumption) | (with_reducible refine below_ext' ?_ ?_) | (with_reducible refine Below.alloc ?_ ?_ _) | (with_reducible refine below_drewN ?_ _) | (with_reducible refine Below.drew ?_) | (with_reducible refine Below.setCell ?_ ?_ _) | (with_reducible exact Nat.le_refl _) | (with_reducible refine ext_le _ _ ?_) | (simp; done) | (simp; omega) | omega)))⟩
  · have H1 := Lib.hid (sameFloat_same r1 q1 d1 (fun _ => v1)); clear d1 v1
    rcases wide_cases gu with ⟨_, c2⟩ | ⟨r2, q2, d2, v2, c2⟩
    · go_enter Try.func62, Try.ntmps62
      go_wp2_with fail
      refine (Calls.mono (H1.out _) ?_)
      rintro e w' ⟨rfl, rfl⟩
      go_wp2_with fail
      refine (Calls.mono (HN.out _ _ _ _ _) ?_)
      rintro e w' ⟨rfl, rfl⟩
      go_wp2_with fail
      go_ret
      exact ⟨rfl, ex_of (by (repeat' (first | (with_reducible exact Below.refl _ _) | (with_reducible assumption) | (with_reducible refine below_ext' ?_ ?_) | (with_reducible refine Below.alloc ?_ ?_ _) | (with_reducible refine below_drewN ?_ _) | (with_reducible refine Below.drew ?_) | (with_reducible refine Below.setCell ?_ ?_ _) | (with_reducible exact Nat.le_refl _) | (with_reducible refine ext_le _ _ ?_) | (simp; done) | (simp; omega) | omega)))⟩
    · have H2 := Lib.hid (sameFloat_same r2 q2 d2 (fun _ => v2)); clear d2 v2
      go_enter Try.func62, Try.ntmps62
      go_wp2_with fail
      refine (Calls.mono (H1.out _) ?_)
      rintro e w' ⟨rfl, rfl⟩
      go_wp2_with fail
      refine (Calls.mono (H2.out _) ?_)
      rintro e w' ⟨rfl, rfl⟩
      go_wp2_with fail
      go_ret
      exact ⟨rfl, ex_of (by (repeat' (first | (with_reducible exact Below.refl _ _) | (with_reducible assumption) | (with_reducible refine below_ext' ?_ ?_) | (with_reducible refine Below.alloc ?_ ?_ _) | (with_reducible refine below_drewN ?_ _) | (with_reducible refine Below.drew ?_) | (with_reducible refine Below.setCell ?_ ?_ _) | (with_reducible exact Nat.le_refl _) | (with_reducible refine ext_le _ _ ?_) | (simp; done) | (simp; omega) | omega)))⟩
set_option maxRecDepth 100000 in
set_option maxHeartbeats 4000000 in
theorem eqTickS_any (A B : Option Addr) (n c d : Nat) (T : Nat → Tk) (hn : n ≤ 1048576) (w : World) (hT : RdT w A n T) (hU : RdT w B n T) :
    Calls Try.prog 27 #[.slice A n c, .slice B n d] w fun e w' => e = .returned (.bool true) ∧ ∃ x, w' = ext w x := by
  have HT := Lib.hid hT; have HU := Lib.hid hU; clear hT hU
  go_enter Try.func27, Try.ntmps27
  go_wp2
  go_loopg [5] n (fun gg s5 wr => ∃ kk : Nat, kk ≤ n ∧ n - kk ≤ gg ∧ s5 = .int .i64 kk ∧ Aside (Below w.heap.size w wr))
  case atStart => exact ⟨0, Nat.zero_le _, by omega, rfl, Below.refl _ _⟩
  case round =>
    obtain ⟨kk, hkk, hg, rfl, BW⟩ := hrel
    by_cases hlt : kk < n
    · have hltz : (kk : Int) < (n : Int) := by omega
      obtain ⟨b1, o1, rfl, t0, t1, t2⟩ := (HT.out.below BW.out) kk hlt
      obtain ⟨b2, o2, rfl, u0, u1, u2⟩ := (HU.out.below BW.out) kk hlt
      have l1 : b1 < wr.heap.size := World.block_lt_of_cell? wr _ t0
      have l2 : b2 < wr.heap.size := World.block_lt_of_cell? wr _ u0
      have hcall := fun W => eqTick_any (T kk).li (T kk).gu (T kk).he W
      generalize (T kk).li = li at t0 u0 hcall; generalize (T kk).gu = gu at t1 u1 hcall; generalize (T kk).he = he at t2 u2 hcall
      go_wp2
      refine wp_region_ex (by kernel_rfl) (by kernel_rfl) ?_
      repeat (go_big_quiet_step ((go_at_call 62; exact Calls.ex_of (hcall _))))
      refine wpQuiet_nil ?_
      intro _ hw'
      obtain ⟨xq, hw''⟩ := hw'
      subst hw''
      go_wp2
      go_roundg (n - (kk + 1))
      case measure => omega
      case rel => exact ⟨kk + 1, by omega, by omega, by go_num, (show Aside _ from below_ext' BW.out BW.out.size)⟩
    · have hltz : ¬ (kk : Int) < (n : Int) := by omega
      have : kk = n := by omega
      subst this
      go_wp2
      go_ret
      exact ⟨rfl, ex_of BW.out⟩
end Go.Proofs.Ytbelopcfmjgfiaa
