/- Contracts: spec's l05Ok, l05Asked. No condition. -/
import Derived.Test.YtbelopcfmjgfiaaAsk
import Derived.BigQuiet
namespace Go.Proofs.Ytbelopcfmjgfiaa
open Go Go.RowKit Go.BigFrame
attribute [local go_sem] binOp_flt binOp_fgt binOp_feq binOp_fne binOp_fle binOp_fge faRes_some run_fadd run_fsub run_fmul run_fdiv run_ofI run_store_float run_neg run_min1 ext_cell ext_frozen ext_lt ext_setCell ext_drew ext_drewN
theorem fgt_fle {x y : Nat} (hx : partB x = true) (hy : partB y = true) : fgt x y = !fle x y := by
  have h1 := (part_of hx).1; have h2 := (part_of hy).1
  have e : W 0 < Inf := by decide
  rw [Bool.eq_iff_iff, fgt_iff (Nat.lt_of_le_of_lt h1 e) (Nat.lt_of_le_of_lt h2 e), Bool.not_eq_true', ← Bool.not_eq_true, fle_iff (Nat.lt_of_le_of_lt h1 e) (Nat.lt_of_le_of_lt h2 e)]; omega
set_option maxRecDepth 100000 in
set_option maxHeartbeats 16000000 in
theorem l05Ok_any (b o : Nat) (lo hi wi : Nat) (st de ca : Int) (hs0 : -128 ≤ st) (hs1 : st ≤ 127) (hd0 : -128 ≤ de) (hd1 : de ≤ 127) (hc0 : -128 ≤ ca) (hc1 : ca ≤ 127) (w : World) (hC : ControlAt w b o lo hi wi st de ca) :
    Calls Try.prog 95 #[.pointer (some ⟨b, o, none⟩)] w fun e w' => e = .returned (.bool (vControl lo hi wi st de ca)) ∧ ∃ x, w' = ext w x := by
  have H : Hid (vControl lo hi wi st de ca = (partB lo && (partB hi && (partB wi && (fle lo hi && (inB st 1 64 && (inB de 0 20 && (inB ca 1 20)))))))) := (rfl : vControl lo hi wi st de ca = _)
  have hgt : partB lo = true → partB hi = true → fgt lo hi = !fle lo hi := fgt_fle
  obtain ⟨c0, c1, c2, c3, c4, c5⟩ := hC
  have lb : b < w.heap.size := World.block_lt_of_cell? w _ c0
  rcases cs6 (partB lo) (partB hi) (partB wi) (fle lo hi) (inB st 1 64) (inB de 0 20) with h1 | ⟨h1, h2⟩ | ⟨h1, h2, h3⟩ | ⟨h1, h2, h3, h4⟩ | ⟨h1, h2, h3, h4, h5⟩ | ⟨h1, h2, h3, h4, h5, h6⟩ | ⟨h1, h2, h3, h4, h5, h6⟩
  all_goals
    (try (have h9 := hgt h1 h2; rw [h4] at h9; first | (rw [Bool.not_true] at h9) | (rw [Bool.not_false] at h9)))
    rw [H.out]
    simp only [h1, Bool.false_and, Bool.true_and]
    (try simp only [h2, Bool.false_and, Bool.true_and])
    (try simp only [h3, Bool.false_and, Bool.true_and])
    (try simp only [h4, Bool.false_and, Bool.true_and])
    (try simp only [h5, Bool.false_and, Bool.true_and])
    (try simp only [h6, Bool.false_and, Bool.true_and])
    clear hgt H
    go_enter Try.func95, Try.ntmps95
    go_wp2
    refine wp_region_ex (by kernel_rfl) (by kernel_rfl) ?_
    repeat (go_big_quiet_step ((first | (go_at_call 75; exact Calls.ex_of_same (l01Part_any _ _)) | (go_at_call 69; exact Calls.ex_of_same (l00In_any _ _ _ _)))))
    refine wpQuiet_nil ?_
    intro _ hw'
    obtain ⟨xq, hw''⟩ := hw'
    subst hw''
    go_wp2_with (first | (go_at_call 69; refine (l00In_any _ _ _ _).mono ?_; rintro e w' ⟨rfl, rfl⟩) | (go_at_call 124; refine (l02Length_any _ _).mono ?_; rintro e w' ⟨rfl, rfl⟩) | (go_at_call 125; refine (l02Tilt_any _ _).mono ?_; rintro e w' ⟨rfl, rfl⟩) | (go_at_call 75; refine (l01Part_any _ _).mono ?_; rintro e w' ⟨rfl, rfl⟩) | (go_at_call 126; refine (l02Up_any _ _).mono ?_; rintro e w' ⟨rfl, rfl⟩))
    go_ret
    exact ⟨rfl, ex_of (by (repeat' (first | (with_reducible exact Below.refl _ _) | (with_reducible assumption) | (with_reducible refine below_ext' ?_ ?_) | (with_reducible refine Below.alloc ?_ ?_ _) | (with_reducible refine below_drewN ?_ _) | (with_reducible refine Below.drew ?_) | (with_reducible refine Below.setCell ?_ ?_ _) | (with_reducible exact Nat.le_refl _) | (with_reducible refine ext_le _ _ ?_) | (simp; done) | (simp; omega) | omega)))⟩
end Go.Proofs.Ytbelopcfmjgfiaa
