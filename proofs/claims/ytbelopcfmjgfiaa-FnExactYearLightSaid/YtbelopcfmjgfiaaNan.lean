/- Whole numbers as float32 are no NaN. No condition. -/
import Derived.Test.YtbelopcfmjgfiaaWiden
namespace Go.Proofs.Ytbelopcfmjgfiaa
open Go
/-! ### no NaN -/
theorem s_hi : Ieee.single.infRung = 2139095040 := by decide
theorem s_hs : Ieee.single.signWeight = 2147483648 := by decide
theorem nearest_rung (neg : Bool) (m : Nat) (p : Int) : ∃ r, r ≤ Ieee.single.infRung ∧ Ieee.single.nearest neg m p = Ieee.single.word neg r := by
  unfold Ieee.Format.nearest
  by_cases hz : m = 0
  · exact ⟨0, Nat.zero_le _, by rw [if_pos hz]⟩
  · rw [if_neg hz]; exact ⟨_, Nat.min_le_right _ _, rfl⟩
theorem single_ok {r : Nat} (neg : Bool) (h : r ≤ Ieee.single.infRung) : (Ieee.single.read (Ieee.single.word neg r)).isNaN = false := by
  have hr : r < Ieee.single.signWeight := by rw [s_hs]; rw [s_hi] at h; omega
  obtain ⟨e1, e2⟩ := read_word_gen Ieee.single.signWeight r neg hr
  unfold Ieee.Format.read Ieee.Format.word
  simp only [e1, e2]
  split
  · rfl
  · split
    · rfl
    · rw [if_pos (by omega)]; rfl
theorem ofI_ok (n : Int) : isN (ofI n) = false := by
  obtain ⟨r, hr, he⟩ := nearest_rung (decide (n < 0)) n.natAbs 0
  have e : ofI n = Ieee.single.word (decide (n < 0)) r := he
  unfold isN
  rw [e]; exact single_ok _ hr
theorem fne_self {x : Nat} (h : isN x = false) : fne x x = false := by
  unfold isN FloatKind.decode FloatKind.format at h
  unfold fne FloatKind.format Ieee.Format.order
  revert h
  cases Ieee.single.read x <;> simp [Ieee.Datum.isNaN, Ieee.Datum.order]
end Go.Proofs.Ytbelopcfmjgfiaa
