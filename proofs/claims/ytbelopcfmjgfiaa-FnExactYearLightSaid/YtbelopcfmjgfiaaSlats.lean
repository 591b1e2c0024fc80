/- Contracts: sizes, light on windows, slats (both packages). No condition. -/
import Derived.Test.YtbelopcfmjgfiaaSine
namespace Go.Proofs.Ytbelopcfmjgfiaa
open Go Go.RowKit
attribute [local go_sem] binOp_flt binOp_fgt binOp_feq binOp_fne binOp_fle binOp_fge faRes_some run_fadd run_fsub run_fmul run_fdiv run_ofI run_store_float run_neg run_min1 ext_cell ext_frozen ext_lt ext_setCell ext_drew ext_drewN

set_option maxHeartbeats 400000 in
theorem SineQ_any (a : Int) (h0 : 0 ≤ a) (h1 : a ≤ 64) (w : World) : Calls Try.prog 154 #[.int .i64 a] w fun e w' => e = .returned (.float .f32 (sineT a)) ∧ w = w' := by
  obtain ⟨x, y, p0, p, q0, q, e1, e2, e3, e4, e5, e6, e7⟩ := sineQ_steps (sineQ_some h0 h1)
  go_enter Try.func154, Try.ntmps154
  go_wp2_with (go_at_call 155; refine (rest_any a _).mono ?_; rw [show a % 256 = a by omega]; rintro e w' ⟨rfl, rfl⟩)
  go_ret
  exact ⟨rfl, rfl⟩

set_option maxHeartbeats 400000 in
theorem SineOf_any (n : Int) (w : World) : Calls Try.prog 154 #[.int .i64 n] w fun e w' => e = .returned (.float .f32 (sine n)) ∧ w = w' := by
  have H : Hid (sine n = sineM (n % 256)) := (rfl : sine n = sineM (n % 256))
  have hn0 : 0 ≤ n % 256 := by omega
  have hn1 : n % 256 < 256 := by omega
  by_cases h1 : n % 256 ≤ 64
  · obtain ⟨x, y, p0, p, q0, q, e1, e2, e3, e4, e5, e6, e7⟩ := sineQ_steps (sineQ_some hn0 h1)
    have HT : Hid (sine n = sineT (n % 256)) := by show sine n = _; rw [H.out, sineM, if_neg (by omega), if_neg (by omega), if_neg (by omega)]
    generalize hm : n % 256 = m at *
    have HM := Lib.hid hm; clear hm
    go_enter Try.func154, Try.ntmps154
    go_wp2_with (go_at_call 155; refine (rest_any n _).mono ?_; rw [HM.out]; rintro e w' ⟨rfl, rfl⟩)
    go_ret
    exact ⟨by rw [HT.out]; rfl, rfl⟩
  · generalize hm : n % 256 = m at *
    have HM := Lib.hid hm; clear hm
    by_cases h2 : m ≤ 128
    · go_enter Try.func154, Try.ntmps154
      go_wp2_with (first
        | (go_at_call 155; refine (rest_any n _).mono ?_; rw [HM.out]; rintro e w' ⟨rfl, rfl⟩)
        | (go_at_call 154; refine (SineQ_any _ (by omega) (by omega) _).mono ?_; rintro e w' ⟨rfl, rfl⟩))
      go_ret
      exact ⟨by rw [H.out, sineM, if_neg (by omega), if_neg (by omega), if_pos (by omega)]; rfl, rfl⟩
    · by_cases h3 : m ≤ 192
      · have hs := neg_sine_some (a := m - 128) (by omega) (by omega)
        go_enter Try.func154, Try.ntmps154
        go_wp2_with (first
          | (go_at_call 155; refine (rest_any n _).mono ?_; rw [HM.out]; rintro e w' ⟨rfl, rfl⟩)
          | (go_at_call 154; refine (SineQ_any _ (by omega) (by omega) _).mono ?_; rintro e w' ⟨rfl, rfl⟩))
        go_ret
        exact ⟨by rw [H.out, sineM, if_neg (by omega), if_pos (by omega)]; rfl, rfl⟩
      · have hs := neg_sine_some (a := 256 - m) (by omega) (by omega)
        go_enter Try.func154, Try.ntmps154
        go_wp2_with (first
          | (go_at_call 155; refine (rest_any n _).mono ?_; rw [HM.out]; rintro e w' ⟨rfl, rfl⟩)
          | (go_at_call 154; refine (SineQ_any _ (by omega) (by omega) _).mono ?_; rintro e w' ⟨rfl, rfl⟩))
        go_ret
        exact ⟨by rw [H.out, sineM, if_pos (by omega)]; rfl, rfl⟩

set_option maxHeartbeats 400000 in
theorem CosineOf_any (n : Int) (w : World) : Calls Try.prog 150 #[.int .i64 n] w fun e w' => e = .returned (.float .f32 (cosine n)) ∧ w = w' := by
  have hn0 : 0 ≤ n % 256 := by omega
  have hn1 : n % 256 < 256 := by omega
  have H : Hid (cosine n = sine (n % 256 + 64)) := (rfl : cosine n = sine (n % 256 + 64))
  generalize hm : n % 256 = m at *
  have HM := Lib.hid hm; clear hm
  go_enter Try.func150, Try.ntmps150
  go_wp2_with (first
    | (go_at_call 155; refine (rest_any n _).mono ?_; rw [HM.out]; rintro e w' ⟨rfl, rfl⟩)
    | (go_at_call 154; refine (SineOf_any _ _).mono ?_; rintro e w' ⟨rfl, rfl⟩))
  go_ret
  exact ⟨by rw [H.out]; rfl, rfl⟩

set_option maxHeartbeats 400000 in
theorem l01Cosine_any (n : Int) (w : World) : Calls Try.prog 145 #[.int .i64 n] w fun e w' => e = .returned (.float .f32 (cosine n)) ∧ w = w' := by
  have hn0 : 0 ≤ n % 256 := by omega
  have hn1 : n % 256 < 256 := by omega
  have H : Hid (cosine n = sine (n % 256 + 64)) := (rfl : cosine n = sine (n % 256 + 64))
  generalize hm : n % 256 = m at *
  have HM := Lib.hid hm; clear hm
  go_enter Try.func145, Try.ntmps145
  go_wp2_with (first
    | (go_at_call 151; refine (l01Angle_any n _).mono ?_; rw [HM.out]; rintro e w' ⟨rfl, rfl⟩)
    | (go_at_call 144; refine (l01Sine_any _ _).mono ?_; rintro e w' ⟨rfl, rfl⟩))
  go_ret
  exact ⟨by rw [H.out]; rfl, rfl⟩

set_option maxHeartbeats 400000 in
theorem sizeOf_any (x : Nat) (h : flt x 0 = true → fsub 0 x = some (neg x)) (w : World) : Calls Try.prog 153 #[.float .f32 x] w fun e w' => e = .returned (.float .f32 (sizeF x)) ∧ w = w' := by
  have H : Hid (sizeF x = if flt x 0 = true then neg x else x) := (rfl : sizeF x = _)
  cases h1 : flt x 0
  · clear h
    go_enter Try.func153, Try.ntmps153
    go_wp2
    go_ret
    exact ⟨by rw [H.out, h1]; rfl, rfl⟩
  · have h2 := h h1
    clear h
    go_enter Try.func153, Try.ntmps153
    go_wp2
    go_ret
    exact ⟨by rw [H.out, h1]; rfl, rfl⟩

set_option maxHeartbeats 400000 in
theorem l01Size_any (x : Nat) (w : World) : Calls Try.prog 143 #[.float .f32 x] w fun e w' => e = .returned (.float .f32 (sizeF x)) ∧ w = w' := by
  have H : Hid (sizeF x = if flt x 0 = true then neg x else x) := (rfl : sizeF x = _)
  cases h1 : flt x 0
  · go_enter Try.func143, Try.ntmps143
    go_wp2
    go_ret
    exact ⟨by rw [H.out, h1]; rfl, rfl⟩
  · go_enter Try.func143, Try.ntmps143
    go_wp2
    go_ret
    exact ⟨by rw [H.out, h1]; rfl, rfl⟩

set_option maxHeartbeats 400000 in
theorem atLeast0_any (x : Nat) (h : fle x 0 = !fgt x 0) (w : World) : Calls Try.prog 149 #[.float .f32 x] w fun e w' => e = .returned (.float .f32 (atl0 x)) ∧ w = w' := by
  have H : Hid (atl0 x = if fgt x 0 = true then x else 0) := (rfl : atl0 x = _)
  cases h1 : fgt x 0
  · rw [h1] at h
    go_enter Try.func149, Try.ntmps149
    go_wp2
    go_ret
    exact ⟨by rw [H.out, h1]; rfl, rfl⟩
  · rw [h1] at h
    go_enter Try.func149, Try.ntmps149
    go_wp2
    go_ret
    exact ⟨by rw [H.out, h1]; rfl, rfl⟩
end Go.Proofs.Ytbelopcfmjgfiaa
