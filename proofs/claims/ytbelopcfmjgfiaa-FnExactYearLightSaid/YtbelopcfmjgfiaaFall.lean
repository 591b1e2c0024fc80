/- Contracts: light on windows, slats (both packages). No condition. -/
import Derived.Test.YtbelopcfmjgfiaaSlats
namespace Go.Proofs.Ytbelopcfmjgfiaa
open Go Go.RowKit
attribute [local go_sem] binOp_flt binOp_fgt binOp_feq binOp_fne binOp_fle binOp_fge faRes_some run_fadd run_fsub run_fmul run_fdiv run_ofI run_store_float run_neg run_min1 ext_cell ext_frozen ext_lt ext_setCell ext_drew ext_drewN

set_option maxHeartbeats 400000 in
theorem isUp_any (b o : Nat) (h v : Int) (h0 : 0 ≤ h) (h1 : h < 24) (w : World) (hc : w.cell? ⟨b, o + h.toNat, none⟩ = some (.int .i16 v)) :
    Calls Try.prog 148 #[.pointer (some ⟨b, o, none⟩), .int .i64 h] w fun e w' => e = .returned (.bool (decide (0 < v))) ∧ w = w' := by
  go_enter Try.func148, Try.ntmps148
  go_wp2
  go_ret
  exact ⟨rfl, rfl⟩

set_option maxHeartbeats 400000 in
theorem fall_any (b o : Nat) (h v t f : Int) (h0 : 0 ≤ h) (h1 : h < 24) (hv0 : -64 ≤ v) (hv1 : v ≤ 64) (ht0 : 0 ≤ t) (ht1 : t ≤ 255) (hf0 : -1000 ≤ f) (hf1 : f ≤ 1000) (w : World)
    (hc : w.cell? ⟨b, o + h.toNat, none⟩ = some (.int .i16 v)) (hd : w.cell? ⟨b, o + 24 + h.toNat, none⟩ = some (.int .i16 t)) :
    Calls Try.prog 141 #[.pointer (some ⟨b, o, none⟩), .int .i64 h, .int .i64 f] w fun e w' => e = .returned (.float .f32 (fallF v t f)) ∧ ∃ n, w' = w.drewN n := by
  have H : Hid (fallF v t f = if v ≤ 0 then 0 else atl0 (mulv (cosine v) (cosine (t - f)))) := (rfl : fallF v t f = _)
  obtain ⟨m1, m2, m3⟩ := fall_mul v t f
  have hle := fle0_not (Nat.lt_of_le_of_lt m2 W0_lt)
  clear m2 m3
  have HL := Lib.hid hle
  clear hle
  by_cases hup : 0 < v
  · go_enter Try.func141, Try.ntmps141
    go_wp2_with (go_at_call 148; refine (isUp_any b o h v h0 h1 _ hc).mono ?_; rintro e w' ⟨rfl, rfl⟩)
    go_quiet (first
      | (go_at_call 150; exact Calls.quiet_of ((CosineOf_any _ _).mono fun _ _ ⟨he, hw⟩ => ⟨he, 0, hw.symm⟩))
      | (go_at_call 149; exact Calls.quiet_of ((atLeast0_any _ HL.out _).mono fun _ _ ⟨he, hw⟩ => ⟨he, 0, hw.symm⟩)))
    go_wp2
    go_ret
    exact ⟨by rw [H.out, if_neg (by omega)]; rfl, _, rfl⟩
  · have hdec : decide (0 < v) = false := by simpa using hup
    go_enter Try.func141, Try.ntmps141
    go_wp2_with (go_at_call 148; refine (isUp_any b o h v h0 h1 _ hc).mono ?_; rw [hdec]; rintro e w' ⟨rfl, rfl⟩)
    go_ret
    exact ⟨by rw [H.out, if_pos (by omega)]; rfl, 0, rfl⟩

set_option maxHeartbeats 400000 in
theorem l01Fall_any (b o : Nat) (h v t f : Int) (h0 : 0 ≤ h) (h1 : h < 24) (hv0 : -64 ≤ v) (hv1 : v ≤ 64) (ht0 : 0 ≤ t) (ht1 : t ≤ 255) (hf0 : -1000 ≤ f) (hf1 : f ≤ 1000) (w : World)
    (hc : w.cell? ⟨b, o + h.toNat, none⟩ = some (.int .i16 v)) (hd : w.cell? ⟨b, o + 24 + h.toNat, none⟩ = some (.int .i16 t)) :
    Calls Try.prog 136 #[.pointer (some ⟨b, o, none⟩), .int .i64 h, .int .i64 f] w fun e w' => e = .returned (.float .f32 (fallF v t f)) ∧ ∃ n, w' = w.drewN n := by
  have H : Hid (fallF v t f = if v ≤ 0 then 0 else atl0 (mulv (cosine v) (cosine (t - f)))) := (rfl : fallF v t f = _)
  have HA : Hid (∀ x, atl0 x = if fgt x 0 = true then x else 0) := fun x => (rfl : atl0 x = _)
  obtain ⟨m1, m2, m3⟩ := fall_mul v t f
  clear m2 m3
  by_cases hup : 0 < v
  · cases h2 : fgt (mulv (cosine v) (cosine (t - f))) 0
    all_goals
      go_enter Try.func136, Try.ntmps136
      go_wp2
      go_quiet ((go_at_call 145; exact Calls.quiet_of ((l01Cosine_any _ _).mono fun _ _ ⟨he, hw⟩ => ⟨he, 0, hw.symm⟩)))
      go_wp2
      go_ret
      exact ⟨by rw [H.out, if_neg (by omega), HA.out, h2]; rfl, _, rfl⟩
  · go_enter Try.func136, Try.ntmps136
    go_wp2
    go_ret
    exact ⟨by rw [H.out, if_pos (by omega)]; rfl, 0, rfl⟩

set_option maxHeartbeats 400000 in
theorem blocked_any (sl : Int) (wd gp : Nat) (ti : Int) (sh : Nat) (h : Int) (hw : Len wd) (hg : Len gp) (h0 : 1 ≤ h) (h1 : h ≤ 64) (ht0 : -64 ≤ ti) (ht1 : ti ≤ 64) (w : World) :
    Calls Try.prog 146 #[.agg #[.int .i8 sl, .float .f32 wd, .float .f32 gp, .int .i16 ti, .float .f32 sh], .int .i64 h] w fun e w' => e = .returned (.float .f32 (blkF wd gp ti h)) ∧ ∃ x, w' = ext w x := by
  have H : Hid (blkF wd gp ti h = if feq (cosine h) 0 = true then 1065353216 else min1 (divv (mulv wd (sizeF (sine (h + ti)))) (mulv gp (cosine h)))) := (rfl : blkF wd gp ti h = _)
  have HS := Lib.hid (size_sine (h + ti))
  cases hc : feq (cosine h) 0
  · obtain ⟨e1, e2, e3, e4⟩ := blk_steps hw hg ti h0 h1 hc
    clear hw hg
    go_enter Try.func146, Try.ntmps146
    go_wp2_with (first
      | (go_at_call 154; refine (SineOf_any _ _).mono ?_; rintro e w' ⟨rfl, rfl⟩)
      | (go_at_call 150; refine (CosineOf_any _ _).mono ?_; rintro e w' ⟨rfl, rfl⟩)
      | (go_at_call 153; refine (sizeOf_any _ HS.out _).mono ?_; rintro e w' ⟨rfl, rfl⟩))
    go_ret
    exact ⟨by rw [H.out, hc]; rfl, ex_of ((Below.refl _ _).alloc (Nat.le_refl _) _)⟩
  · clear hw hg
    go_enter Try.func146, Try.ntmps146
    go_wp2_with (first
      | (go_at_call 154; refine (SineOf_any _ _).mono ?_; rintro e w' ⟨rfl, rfl⟩)
      | (go_at_call 150; refine (CosineOf_any _ _).mono ?_; rintro e w' ⟨rfl, rfl⟩)
      | (go_at_call 153; refine (sizeOf_any _ HS.out _).mono ?_; rintro e w' ⟨rfl, rfl⟩))
    go_ret
    exact ⟨by rw [H.out, hc]; rfl, ex_of ((Below.refl _ _).alloc (Nat.le_refl _) _)⟩

set_option maxHeartbeats 400000 in
theorem open_any (sl : Int) (wd gp : Nat) (ti : Int) (sh : Nat) (h : Int) (hw : Len wd) (hg : Len gp) (h0 : 1 ≤ h) (h1 : h ≤ 64) (ht0 : -64 ≤ ti) (ht1 : ti ≤ 64) (w : World) :
    Calls Try.prog 147 #[.agg #[.int .i8 sl, .float .f32 wd, .float .f32 gp, .int .i16 ti, .float .f32 sh], .int .i64 h] w fun e w' => e = .returned (.float .f32 (openF wd gp ti h)) ∧ ∃ x, w' = ext w x := by
  have e1 := (open_step hw hg ti h0 h1).1
  have HW := Lib.hid hw; have HG := Lib.hid hg; clear hw hg
  go_enter Try.func147, Try.ntmps147
  go_wp2_with (go_at_call 146; refine (blocked_any sl wd gp ti sh h HW.out HG.out h0 h1 ht0 ht1 _).mono ?_; rintro e w' ⟨rfl, x, rfl⟩)
  go_ret
  exact ⟨rfl, ex_of (below_ext' ((Below.refl _ _).alloc (Nat.le_refl _) _) (by simp))⟩
end Go.Proofs.Ytbelopcfmjgfiaa
