/- Contracts of the sines (both packages), and of sizes. No condition. -/
import Derived.Test.YtbelopcfmjgfiaaBase
namespace Go.Proofs.Ytbelopcfmjgfiaa
open Go Go.RowKit
attribute [local go_sem] binOp_flt binOp_fgt binOp_feq binOp_fne binOp_fle binOp_fge faRes_some run_fadd run_fsub run_fmul run_fdiv run_ofI run_store_float run_neg run_min1 ext_cell ext_frozen ext_lt ext_setCell ext_drew ext_drewN

theorem tmod256_b (n : Int) : -256 < n.tmod 256 ∧ n.tmod 256 < 256 := by
  have := Int.tmod_lt_of_pos n (show (0 : Int) < 256 by omega)
  have h2 : (-n).tmod 256 < 256 := Int.tmod_lt_of_pos (-n) (show (0 : Int) < 256 by omega)
  rw [Int.neg_tmod] at h2
  omega
theorem tmod256 (n : Int) : (n.tmod 256 + 256) % 256 = n % 256 := by
  rcases Int.le_total 0 n with h | h
  · rw [Int.tmod_eq_emod_of_nonneg h]; omega
  · have e : n.tmod 256 = -((-n) % 256) := by
      rw [← Int.tmod_eq_emod_of_nonneg (by omega), Int.neg_tmod, Int.neg_neg]
    rw [e]; omega

set_option maxHeartbeats 400000 in
theorem rest_any (n : Int) (w : World) : Calls Try.prog 155 #[.int .i64 n, .int .i64 256] w fun e w' => e = .returned (.int .i64 (n % 256)) ∧ w = w' := by
  have hb := tmod256_b n
  have H := Lib.hid (tmod256 n)
  obtain ⟨hb1, hb2⟩ := hb
  go_enter Try.func155, Try.ntmps155
  go_wp2
  go_ret
  exact ⟨by rw [← H.out]; rfl, rfl⟩

set_option maxHeartbeats 400000 in
theorem l01Angle_any (n : Int) (w : World) : Calls Try.prog 151 #[.int .i64 n] w fun e w' => e = .returned (.int .i64 (n % 256)) ∧ w = w' := by
  have hb := tmod256_b n
  have H := Lib.hid (tmod256 n)
  obtain ⟨hb1, hb2⟩ := hb
  go_enter Try.func151, Try.ntmps151
  go_wp2
  go_ret
  exact ⟨by rw [← H.out]; rfl, rfl⟩

set_option maxHeartbeats 400000 in
theorem l01Quarter_any (a : Int) (h0 : 0 ≤ a) (h1 : a ≤ 64) (w : World) : Calls Try.prog 152 #[.int .i64 a] w fun e w' => e = .returned (.float .f32 (sineT a)) ∧ w = w' := by
  obtain ⟨x, y, p0, p, q0, q, e1, e2, e3, e4, e5, e6, e7⟩ := sineQ_steps (sineQ_some h0 h1)
  go_enter Try.func152, Try.ntmps152
  go_wp2
  go_ret
  exact ⟨rfl, rfl⟩

set_option maxHeartbeats 400000 in
theorem l01Sine_any (n : Int) (w : World) : Calls Try.prog 144 #[.int .i64 n] w fun e w' => e = .returned (.float .f32 (sine n)) ∧ w = w' := by
  have H : Hid (sine n = sineM (n % 256)) := (rfl : sine n = sineM (n % 256))
  have hn0 : 0 ≤ n % 256 := by omega
  have hn1 : n % 256 < 256 := by omega
  generalize hm : n % 256 = m at *
  have HM := Lib.hid hm; clear hm
  by_cases h1 : m ≤ 64
  · go_enter Try.func144, Try.ntmps144
    go_wp2_with (first
      | (go_at_call 151; refine (l01Angle_any n _).mono ?_; rw [HM.out]; rintro e w' ⟨rfl, rfl⟩)
      | (go_at_call 152; refine (l01Quarter_any _ (by omega) (by omega) _).mono ?_; rintro e w' ⟨rfl, rfl⟩))
    go_ret
    exact ⟨by rw [H.out, sineM, if_neg (by omega), if_neg (by omega), if_neg (by omega)]; rfl, rfl⟩
  · by_cases h2 : m ≤ 128
    · go_enter Try.func144, Try.ntmps144
      go_wp2_with (first
        | (go_at_call 151; refine (l01Angle_any n _).mono ?_; rw [HM.out]; rintro e w' ⟨rfl, rfl⟩)
        | (go_at_call 152; refine (l01Quarter_any _ (by omega) (by omega) _).mono ?_; rintro e w' ⟨rfl, rfl⟩))
      go_ret
      exact ⟨by rw [H.out, sineM, if_neg (by omega), if_neg (by omega), if_pos (by omega)]; rfl, rfl⟩
    · by_cases h3 : m ≤ 192
      · have hs := neg_sine_some (a := m - 128) (by omega) (by omega)
        go_enter Try.func144, Try.ntmps144
        go_wp2_with (first
          | (go_at_call 151; refine (l01Angle_any n _).mono ?_; rw [HM.out]; rintro e w' ⟨rfl, rfl⟩)
          | (go_at_call 152; refine (l01Quarter_any _ (by omega) (by omega) _).mono ?_; rintro e w' ⟨rfl, rfl⟩))
        go_ret
        exact ⟨by rw [H.out, sineM, if_neg (by omega), if_pos (by omega)]; rfl, rfl⟩
      · have hs := neg_sine_some (a := 256 - m) (by omega) (by omega)
        go_enter Try.func144, Try.ntmps144
        go_wp2_with (first
          | (go_at_call 151; refine (l01Angle_any n _).mono ?_; rw [HM.out]; rintro e w' ⟨rfl, rfl⟩)
          | (go_at_call 152; refine (l01Quarter_any _ (by omega) (by omega) _).mono ?_; rintro e w' ⟨rfl, rfl⟩))
        go_ret
        exact ⟨by rw [H.out, sineM, if_pos (by omega)]; rfl, rfl⟩
end Go.Proofs.Ytbelopcfmjgfiaa
