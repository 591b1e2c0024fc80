/- Rounding in single precision: the values of words that have no sign bit, and how the nearest word stands to them. No condition. -/
import Derived.Test.YtbelopcfmjgfiaaPure
namespace Go.Proofs.Ytbelopcfmjgfiaa
open Go

/-- The value of a word without a sign bit, below infinity, in units of 2^-149. -/
def V (w : Nat) : Nat := if w < 8388608 then w else (8388608 + w % 8388608) * 2 ^ (w / 8388608 - 1)

theorem V_step (w : Nat) : V w < V (w + 1) := by
  unfold V
  by_cases h : w + 1 < 8388608
  · rw [if_pos h, if_pos (by omega)]; omega
  · by_cases h2 : w < 8388608
    · have e : w + 1 = 8388608 := by omega
      rw [if_pos h2, if_neg h, e]; simp; omega
    · rw [if_neg h2, if_neg h]
      by_cases h3 : w % 8388608 = 8388607
      · have e1 : (w + 1) % 8388608 = 0 := by omega
        have e2 : (w + 1) / 8388608 - 1 = (w / 8388608 - 1) + 1 := by omega
        rw [e1, e2, h3, Nat.pow_succ]
        have : 0 < 2 ^ (w / 8388608 - 1) := Nat.two_pow_pos _
        omega
      · have e1 : (w + 1) % 8388608 = w % 8388608 + 1 := by omega
        have e2 : (w + 1) / 8388608 = w / 8388608 := by omega
        rw [e1, e2, ← Nat.add_assoc, Nat.add_mul (8388608 + w % 8388608) 1]
        have : 0 < 2 ^ (w / 8388608 - 1) := Nat.two_pow_pos _
        omega
theorem V_mono {w w' : Nat} (h : w ≤ w') : V w ≤ V w' := by
  induction h with
  | refl => exact Nat.le_refl _
  | step _ ih => exact Nat.le_trans ih (Nat.le_of_lt (V_step _))
theorem V_lt {w w' : Nat} (h : w < w') : V w < V w' := Nat.lt_of_lt_of_le (V_step w) (V_mono h)
theorem V_le_iff {w w' : Nat} : V w ≤ V w' ↔ w ≤ w' := ⟨fun h => by
  rcases Nat.lt_or_ge w' w with h1 | h1
  · have := V_lt h1; omega
  · exact h1, V_mono⟩
theorem V_zero : V 0 = 0 := by simp [V]
/-- The word of a kept significand and its place. -/
theorem V_rung {L k : Nat} (hk : k ≤ 16777216) (h : L = 0 ∨ 8388608 ≤ k) : V (L * 8388608 + k) = k * 2 ^ L := by
  unfold V
  by_cases h1 : k < 8388608
  · have h0 : L = 0 := by omega
    subst h0
    rw [if_pos (by omega)]; simp
  · rw [if_neg (by omega)]
    by_cases h2 : k = 16777216
    · subst h2
      have e1 : (L * 8388608 + 16777216) % 8388608 = 0 := by omega
      have e2 : (L * 8388608 + 16777216) / 8388608 - 1 = L + 1 := by omega
      rw [e1, e2, Nat.pow_succ]; omega
    · have e1 : (L * 8388608 + k) % 8388608 = k - 8388608 := by omega
      have e2 : (L * 8388608 + k) / 8388608 - 1 = L := by omega
      rw [e1, e2, show 8388608 + (k - 8388608) = k by omega]

/-! ### 'cut' rounds to the nearest whole number -/
theorem cut_le {n d k : Nat} (s : Bool) (h : n ≤ k * 2 ^ d) : Ieee.Toward.even.cut s n d ≤ k := by
  unfold Ieee.Toward.cut
  simp only [Nat.one_shiftLeft]
  by_cases hd : d ≤ n.log2 + 2
  · rw [Nat.min_eq_left hd]
    have hg : 0 < 2 ^ d := Nat.two_pow_pos _
    generalize 2 ^ d = g at *
    have hdm := Nat.div_add_mod n g
    have hlt := Nat.mod_lt n hg
    by_cases h0 : n / g < k
    · have : (decide (g < 2 * (n % g)) || (g == 2 * (n % g) && n / g % 2 == 1)).toNat ≤ 1 := Bool.toNat_le _
      omega
    · have hk : n / g ≤ k := Nat.div_le_of_le_mul (by rw [Nat.mul_comm]; exact h)
      have e : n / g = k := by omega
      have hr : n % g = 0 := by rw [e, Nat.mul_comm] at hdm; omega
      rw [hr, decide_eq_false (show ¬ g < 2 * 0 by omega), beq_eq_false_iff_ne.2 (show g ≠ 2 * 0 by omega)]
      simp only [Bool.false_and, Bool.or_false, Bool.toNat_false]; omega
  · rw [Nat.min_eq_right (by omega)]
    have hlt : n < 2 ^ (n.log2 + 1) := Nat.lt_log2_self
    have e : 2 ^ (n.log2 + 2) = 2 * 2 ^ (n.log2 + 1) := by rw [Nat.pow_succ, Nat.mul_comm]
    rw [e]
    generalize 2 ^ (n.log2 + 1) = g at *
    have h1 : n / (2 * g) = 0 := Nat.div_eq_of_lt (by omega)
    have h2 : n % (2 * g) = n := Nat.mod_eq_of_lt (by omega)
    rw [h1, h2, decide_eq_false (show ¬ 2 * g < 2 * n by omega), beq_eq_false_iff_ne.2 (show 2 * g ≠ 2 * n by omega)]
    simp
theorem cut_ge {n d k : Nat} (s : Bool) (h : k * 2 ^ d ≤ n) : k ≤ Ieee.Toward.even.cut s n d := by
  unfold Ieee.Toward.cut
  simp only [Nat.one_shiftLeft]
  by_cases hd : d ≤ n.log2 + 2
  · rw [Nat.min_eq_left hd]
    have hg : 0 < 2 ^ d := Nat.two_pow_pos _
    have : k ≤ n / 2 ^ d := (Nat.le_div_iff_mul_le hg).2 h
    omega
  · have hlt : n < 2 ^ (n.log2 + 1) := Nat.lt_log2_self
    have h2 : 2 ^ (n.log2 + 1) ≤ 2 ^ d := Nat.pow_le_pow_right (by omega) (by omega)
    rcases Nat.eq_zero_or_pos k with h0 | h0
    · subst h0; exact Nat.zero_le _
    · have : 2 ^ d ≤ k * 2 ^ d := Nat.le_mul_of_pos_left _ h0
      omega

/-! ### the nearest word -/
theorem single_vals : Ieee.single.fractionBits = 23 ∧ Ieee.single.leastPlace = -149 ∧ Ieee.single.binade = 8388608 ∧ Ieee.single.infRung = 2139095040 ∧ Ieee.single.signWeight = 2147483648 := by
  decide +kernel

/-- The parts of 'nearest' in units of 2^-149: P is the place, L that of the last digit kept. -/
theorem nearest_eq (s : Bool) {mag : Nat} (hm : mag ≠ 0) (P : Int) : Ieee.single.nearest s mag (P - 149) =
    Ieee.single.word s (min ((max (P + mag.log2 - 23) 0).toNat * 8388608 + Ieee.Toward.even.cut s (mag <<< (P - max (P + mag.log2 - 23) 0).toNat) (max (P + mag.log2 - 23) 0 - P).toNat) 2139095040) := by
  obtain ⟨e1, e2, e3, e4, e5⟩ := single_vals
  unfold Ieee.Format.nearest
  rw [if_neg hm]
  simp only [e1, e2, e3, e4]
  have a1 : max (P - 149 + (mag.log2 : Int) - ((23 : Nat) : Int)) (-149) = max (P + mag.log2 - 23) 0 - 149 := by omega
  rw [a1]
  have a2 : (P - 149 - (max (P + (mag.log2 : Int) - 23) 0 - 149)) = P - max (P + mag.log2 - 23) 0 := by omega
  have a3 : (max (P + (mag.log2 : Int) - 23) 0 - 149 - (P - 149)) = max (P + mag.log2 - 23) 0 - P := by omega
  have a4 : (max (P + (mag.log2 : Int) - 23) 0 - 149 - -149) = max (P + mag.log2 - 23) 0 := by omega
  rw [a2, a3, a4]

/-- The rung: at most w if the exact value is at most w's; at least w if it is at least w's. 'E · 2^d = n', 'n' cut by d digits. -/
theorem log2_bounds {n : Nat} (h : n ≠ 0) : 2 ^ n.log2 ≤ n ∧ n < 2 ^ (n.log2 + 1) := ⟨Nat.log2_self_le h, Nat.lt_log2_self⟩

/-- The exact value 'mag · 2^P' against 'v' (units of 2^-149), without fractions. -/
def Le (mag : Nat) (P : Int) (v : Nat) : Prop := mag * 2 ^ P.toNat ≤ v * 2 ^ (-P).toNat
def Ge (mag : Nat) (P : Int) (v : Nat) : Prop := v * 2 ^ (-P).toNat ≤ mag * 2 ^ P.toNat

/-- The kept significand is bounded. -/
theorem kept_bounds (s : Bool) {mag : Nat} (hm : mag ≠ 0) (P : Int) (L : Nat) (hL : (L : Int) = max (P + mag.log2 - 23) 0) :
    Ieee.Toward.even.cut s (mag <<< (P - L).toNat) ((L : Int) - P).toNat ≤ 16777216 ∧ (L = 0 ∨ 8388608 ≤ Ieee.Toward.even.cut s (mag <<< (P - L).toNat) ((L : Int) - P).toNat) := by
  obtain ⟨h1, h2⟩ := log2_bounds hm
  rw [Nat.shiftLeft_eq]
  constructor
  · refine cut_le s ?_
    have e : (16777216 : Nat) = 2 ^ 24 := by decide
    rw [e, ← Nat.pow_add]
    calc mag * 2 ^ (P - (L : Int)).toNat ≤ 2 ^ (mag.log2 + 1) * 2 ^ (P - (L : Int)).toNat := Nat.mul_le_mul_right _ (Nat.le_of_lt h2)
      _ = 2 ^ (mag.log2 + 1 + (P - (L : Int)).toNat) := (Nat.pow_add ..).symm
      _ ≤ 2 ^ (24 + ((L : Int) - P).toNat) := Nat.pow_le_pow_right (by omega) (by omega)
  · rcases Nat.eq_zero_or_pos L with h0 | h0
    · exact .inl h0
    · refine .inr (cut_ge s ?_)
      have e : (8388608 : Nat) = 2 ^ 23 := by decide
      rw [e, ← Nat.pow_add]
      calc 2 ^ (23 + ((L : Int) - P).toNat) ≤ 2 ^ (mag.log2 + (P - (L : Int)).toNat) := Nat.pow_le_pow_right (by omega) (by omega)
        _ = 2 ^ mag.log2 * 2 ^ (P - (L : Int)).toNat := by rw [Nat.pow_add]
        _ ≤ mag * 2 ^ (P - (L : Int)).toNat := Nat.mul_le_mul_right _ h1

/-- Scaling a comparison of 'mag · 2^P' with 'k · 2^L' to whole numbers. -/
theorem Le.scale {mag k L : Nat} {P : Int} (h : Le mag P (k * 2 ^ L)) : mag * 2 ^ (P - L).toNat ≤ k * 2 ^ ((L : Int) - P).toNat := by
  unfold Le at h
  -- multiply both sides by one power of two
  have key : mag * 2 ^ (P - (L : Int)).toNat * 2 ^ (P.toNat + (((L : Int) - P)).toNat) ≤ k * 2 ^ ((L : Int) - P).toNat * 2 ^ (P.toNat + (((L : Int) - P)).toNat) := by
    have e1 : mag * 2 ^ (P - (L : Int)).toNat * 2 ^ (P.toNat + ((L : Int) - P).toNat) = mag * 2 ^ P.toNat * 2 ^ ((P - (L : Int)).toNat + ((L : Int) - P).toNat) := by
      rw [Nat.mul_assoc, Nat.mul_assoc, ← Nat.pow_add, ← Nat.pow_add]; congr 2; omega
    have e2 : k * 2 ^ ((L : Int) - P).toNat * 2 ^ (P.toNat + ((L : Int) - P).toNat) = k * 2 ^ L * 2 ^ (-P).toNat * 2 ^ ((P - (L : Int)).toNat + ((L : Int) - P).toNat) := by
      rw [Nat.mul_assoc, Nat.mul_assoc, Nat.mul_assoc, ← Nat.pow_add, ← Nat.pow_add, ← Nat.pow_add]; congr 2; omega
    rw [e1, e2]
    exact Nat.mul_le_mul_right _ h
  exact Nat.le_of_mul_le_mul_right key (Nat.two_pow_pos _)
theorem Ge.scale {mag k L : Nat} {P : Int} (h : Ge mag P (k * 2 ^ L)) : k * 2 ^ ((L : Int) - P).toNat ≤ mag * 2 ^ (P - L).toNat := by
  unfold Ge at h
  have key : k * 2 ^ ((L : Int) - P).toNat * 2 ^ (P.toNat + (((L : Int) - P)).toNat) ≤ mag * 2 ^ (P - (L : Int)).toNat * 2 ^ (P.toNat + (((L : Int) - P)).toNat) := by
    have e1 : mag * 2 ^ (P - (L : Int)).toNat * 2 ^ (P.toNat + ((L : Int) - P).toNat) = mag * 2 ^ P.toNat * 2 ^ ((P - (L : Int)).toNat + ((L : Int) - P).toNat) := by
      rw [Nat.mul_assoc, Nat.mul_assoc, ← Nat.pow_add, ← Nat.pow_add]; congr 2; omega
    have e2 : k * 2 ^ ((L : Int) - P).toNat * 2 ^ (P.toNat + ((L : Int) - P).toNat) = k * 2 ^ L * 2 ^ (-P).toNat * 2 ^ ((P - (L : Int)).toNat + ((L : Int) - P).toNat) := by
      rw [Nat.mul_assoc, Nat.mul_assoc, Nat.mul_assoc, ← Nat.pow_add, ← Nat.pow_add, ← Nat.pow_add]; congr 2; omega
    rw [e1, e2]
    exact Nat.mul_le_mul_right _ h
  exact Nat.le_of_mul_le_mul_right key (Nat.two_pow_pos _)

theorem Le.mono {mag : Nat} {P : Int} {v v' : Nat} (h : Le mag P v) (hv : v ≤ v') : Le mag P v' := Nat.le_trans h (Nat.mul_le_mul_right _ hv)
theorem Ge.mono {mag : Nat} {P : Int} {v v' : Nat} (h : Ge mag P v) (hv : v' ≤ v) : Ge mag P v' := Nat.le_trans (Nat.mul_le_mul_right _ hv) h

/-- The rung of a number that is not zero. -/
def rungOf (s : Bool) (mag : Nat) (P : Int) : Nat :=
  min ((max (P + mag.log2 - 23) 0).toNat * 8388608 + Ieee.Toward.even.cut s (mag <<< (P - max (P + mag.log2 - 23) 0).toNat) (max (P + mag.log2 - 23) 0 - P).toNat) 2139095040

theorem rungOf_le (s : Bool) {mag : Nat} (hm : mag ≠ 0) (P : Int) {w : Nat} (h : Le mag P (V w)) : rungOf s mag P ≤ w := by
  unfold rungOf
  obtain ⟨L, hL⟩ : ∃ L : Nat, (L : Int) = max (P + mag.log2 - 23) 0 := ⟨(max (P + (mag.log2 : Int) - 23) 0).toNat, by omega⟩
  rw [← hL]
  obtain ⟨k1, k2⟩ := kept_bounds s hm P L hL
  have hkd : Ieee.Toward.even.cut s (mag <<< (P - L).toNat) ((L : Int) - P).toNat = Ieee.Toward.even.cut s (mag <<< (P - L).toNat) ((L : Int) - P).toNat := rfl
  generalize hk : Ieee.Toward.even.cut s (mag <<< (P - L).toNat) ((L : Int) - P).toNat = k at *
  clear hkd
  rw [Int.toNat_natCast]
  refine Nat.le_trans (Nat.min_le_left _ _) ?_
  rcases Nat.lt_or_ge w (L * 8388608 + k) with hlt | hge
  · exfalso
    rw [Nat.shiftLeft_eq] at hk
    have hk0 : 0 < k := by
      rcases k2 with h0 | h0
      · subst h0; omega
      · omega
    by_cases hk3 : L ≠ 0 ∧ k = 8388608
    · -- the least significand of its binade: nothing was rounded up to it
      obtain ⟨hl, rfl⟩ := hk3
      have hv : V w < 8388608 * 2 ^ L := by
        have := V_lt hlt
        rw [V_rung k1 (.inr (Nat.le_refl _))] at this
        exact this
      obtain ⟨g1, g2⟩ := log2_bounds hm
      have hge : Ge mag P (8388608 * 2 ^ L) := by
        unfold Ge
        have e : (8388608 : Nat) = 2 ^ 23 := by decide
        rw [e, ← Nat.pow_add, ← Nat.pow_add]
        calc 2 ^ (23 + L + (-P).toNat) ≤ 2 ^ (mag.log2 + P.toNat) := Nat.pow_le_pow_right (by omega) (by omega)
          _ = 2 ^ mag.log2 * 2 ^ P.toNat := by rw [Nat.pow_add]
          _ ≤ mag * 2 ^ P.toNat := Nat.mul_le_mul_right _ g1
      have h5 : 8388608 * 2 ^ L * 2 ^ (-P).toNat ≤ V w * 2 ^ (-P).toNat := Nat.le_trans hge h
      have := Nat.le_of_mul_le_mul_right h5 (Nat.two_pow_pos _)
      omega
    · have hv : V w ≤ (k - 1) * 2 ^ L := by
        have h1 : V w ≤ V (L * 8388608 + (k - 1)) := V_mono (by omega)
        rw [V_rung (by omega) (by omega)] at h1
        exact h1
      have hs := (h.mono hv).scale
      have := cut_le s hs
      omega
  · exact hge

theorem rungOf_ge (s : Bool) {mag : Nat} (hm : mag ≠ 0) (P : Int) {w : Nat} (hw : w ≤ 2139095040) (h : Ge mag P (V w)) : w ≤ rungOf s mag P := by
  unfold rungOf
  obtain ⟨L, hL⟩ : ∃ L : Nat, (L : Int) = max (P + mag.log2 - 23) 0 := ⟨(max (P + (mag.log2 : Int) - 23) 0).toNat, by omega⟩
  rw [← hL]
  obtain ⟨k1, k2⟩ := kept_bounds s hm P L hL
  generalize hk : Ieee.Toward.even.cut s (mag <<< (P - L).toNat) ((L : Int) - P).toNat = k at *
  rw [Int.toNat_natCast]
  refine Nat.le_min.2 ⟨?_, hw⟩
  rcases Nat.lt_or_ge (L * 8388608 + k) w with hlt | hge
  · exfalso
    rw [Nat.shiftLeft_eq] at hk
    have hv : (k + 1) * 2 ^ L ≤ V w := by
      have h1 : V (L * 8388608 + k + 1) ≤ V w := V_mono hlt
      refine Nat.le_trans ?_ h1
      by_cases hk4 : k = 16777216
      · subst hk4
        rw [show L * 8388608 + 16777216 + 1 = (L + 1) * 8388608 + 8388609 by omega, V_rung (by omega) (.inr (by omega)), Nat.pow_succ]
        have : 0 < 2 ^ L := Nat.two_pow_pos _
        omega
      · rw [Nat.add_assoc, V_rung (by omega) (by omega)]
        exact Nat.le_refl _
    have hs := (h.mono hv).scale
    have := cut_ge s hs
    omega
  · exact hge

/-! ### reading words -/
def Inf : Nat := 2139095040
theorem Inf_eq : Inf = 2139095040 := rfl
/-- What a word stands for: 'm · 2^(P-149)' with value V w, or its negation. -/
theorem read_small {w : Nat} (h : w < Inf) : ∃ (m : Nat) (P : Nat), Ieee.single.read w = .number false m ((P : Int) - 149) ∧ m * 2 ^ P = V w := by
  rw [Inf_eq] at h
  obtain ⟨e1, e2, e3, e4, e5⟩ := single_vals
  unfold Ieee.Format.read
  simp only [e2, e3, e4, e5]
  have a1 : w / 2147483648 % 2 = 0 := by omega
  have a2 : w % 2147483648 = w := by omega
  rw [a1, a2]
  by_cases hb : w < 8388608
  · rw [if_pos hb]
    exact ⟨w, 0, rfl, by simp [V, hb]⟩
  · rw [if_neg hb, if_pos h]
    refine ⟨8388608 + w % 8388608, w / 8388608 - 1, ?_, by simp [V, hb]⟩
    rw [show (-149 : Int) + ((w / 8388608 - 1 : Nat) : Int) = ((w / 8388608 - 1 : Nat) : Int) - 149 by omega]
    rfl
theorem read_neg {w : Nat} (h : w < Inf) : ∃ (m : Nat) (P : Nat), Ieee.single.read (2147483648 + w) = .number true m ((P : Int) - 149) ∧ m * 2 ^ P = V w := by
  rw [Inf_eq] at h
  obtain ⟨e1, e2, e3, e4, e5⟩ := single_vals
  unfold Ieee.Format.read
  simp only [e2, e3, e4, e5]
  have a1 : (2147483648 + w) / 2147483648 % 2 = 1 := by omega
  have a2 : (2147483648 + w) % 2147483648 = w := by omega
  rw [a1, a2]
  by_cases hb : w < 8388608
  · rw [if_pos hb]
    exact ⟨w, 0, rfl, by simp [V, hb]⟩
  · rw [if_neg hb, if_pos h]
    refine ⟨8388608 + w % 8388608, w / 8388608 - 1, ?_, by simp [V, hb]⟩
    rw [show (-149 : Int) + ((w / 8388608 - 1 : Nat) : Int) = ((w / 8388608 - 1 : Nat) : Int) - 149 by omega]
    rfl
theorem nearest_zero (s : Bool) (P : Int) : Ieee.single.nearest s 0 P = Ieee.single.word s 0 := by simp [Ieee.Format.nearest]
theorem word_false (r : Nat) : Ieee.single.word false r = r := rfl
theorem word_true (r : Nat) : Ieee.single.word true r = 2147483648 + r := by
  show (if true then Ieee.single.signWeight + r else r) = _
  rw [single_vals.2.2.2.2]; rfl
/-- The nearest word, by its rung (a rung of 0 for 0). -/
def rung (s : Bool) (mag : Nat) (P : Int) : Nat := if mag = 0 then 0 else rungOf s mag P
theorem nearest_word (s : Bool) (mag : Nat) (P : Int) : Ieee.single.nearest s mag (P - 149) = Ieee.single.word s (rung s mag P) := by
  unfold rung
  by_cases h : mag = 0
  · subst h; rw [nearest_zero, if_pos rfl]
  · rw [if_neg h, nearest_eq s h]; rfl
theorem rung_le (s : Bool) {mag : Nat} {P : Int} {w : Nat} (h : Le mag P (V w)) : rung s mag P ≤ w := by
  unfold rung; split
  · exact Nat.zero_le _
  · rename_i h0; exact rungOf_le s h0 P h
theorem rung_ge (s : Bool) {mag : Nat} {P : Int} {w : Nat} (hw : w ≤ Inf) (h : Ge mag P (V w)) : w ≤ rung s mag P := by
  unfold rung; split
  · rename_i h0
    subst h0
    unfold Ge at h
    rw [Nat.zero_mul] at h
    have h1 : 0 < 2 ^ (-P).toNat := Nat.two_pow_pos _
    have h2 : V w = 0 := by
      rcases Nat.eq_zero_or_pos (V w) with h3 | h3
      · exact h3
      · have := Nat.mul_pos h3 h1; omega
    have h3 : V w ≤ V 0 := by rw [h2]; exact Nat.zero_le _
    exact V_le_iff.1 h3
  · rename_i h0; exact rungOf_ge s h0 P hw h
theorem rung_inf (s : Bool) (mag : Nat) (P : Int) : rung s mag P ≤ Inf := by
  unfold rung rungOf; split
  · exact Nat.zero_le _
  · exact Nat.min_le_right _ _

/-! ### operations on words without sign bits -/
theorem pow_mid (a b c d e : Nat) (h : c + e = d) : a * 2 ^ c * (b * 2 ^ e) = a * b * 2 ^ d := by
  rw [Nat.mul_mul_mul_comm, ← Nat.pow_add, h]
/-- Comparing with any common scale. -/
theorem Le_scale {M : Nat} {Q : Int} {v : Nat} (c e : Nat) (he : (e : Int) = Q + c) : Le M Q v ↔ M * 2 ^ e ≤ v * 2 ^ c := by
  unfold Le
  constructor
  · intro h
    have key : M * 2 ^ e * 2 ^ (-Q).toNat ≤ v * 2 ^ c * 2 ^ (-Q).toNat := by
      have h1 := Nat.mul_le_mul_right (2 ^ c) h
      have e1 : M * 2 ^ e * 2 ^ (-Q).toNat = M * 2 ^ Q.toNat * 2 ^ c := by
        rw [Nat.mul_assoc, Nat.mul_assoc, ← Nat.pow_add, ← Nat.pow_add]; congr 2; omega
      have e2 : v * 2 ^ c * 2 ^ (-Q).toNat = v * 2 ^ (-Q).toNat * 2 ^ c := by
        rw [Nat.mul_assoc, Nat.mul_assoc, ← Nat.pow_add, ← Nat.pow_add]; congr 2; omega
      rw [e1, e2]; exact h1
    exact Nat.le_of_mul_le_mul_right key (Nat.two_pow_pos _)
  · intro h
    have key : M * 2 ^ Q.toNat * 2 ^ c ≤ v * 2 ^ (-Q).toNat * 2 ^ c := by
      have h1 := Nat.mul_le_mul_right (2 ^ (-Q).toNat) h
      have e1 : M * 2 ^ e * 2 ^ (-Q).toNat = M * 2 ^ Q.toNat * 2 ^ c := by
        rw [Nat.mul_assoc, Nat.mul_assoc, ← Nat.pow_add, ← Nat.pow_add]; congr 2; omega
      have e2 : v * 2 ^ c * 2 ^ (-Q).toNat = v * 2 ^ (-Q).toNat * 2 ^ c := by
        rw [Nat.mul_assoc, Nat.mul_assoc, ← Nat.pow_add, ← Nat.pow_add]; congr 2; omega
      rw [← e1, ← e2]; exact h1
    exact Nat.le_of_mul_le_mul_right key (Nat.two_pow_pos _)
theorem Ge_scale {M : Nat} {Q : Int} {v : Nat} (c e : Nat) (he : (e : Int) = Q + c) : Ge M Q v ↔ v * 2 ^ c ≤ M * 2 ^ e := by
  unfold Ge
  constructor
  · intro h
    have key : v * 2 ^ c * 2 ^ (-Q).toNat ≤ M * 2 ^ e * 2 ^ (-Q).toNat := by
      have h1 := Nat.mul_le_mul_right (2 ^ c) h
      have e1 : M * 2 ^ e * 2 ^ (-Q).toNat = M * 2 ^ Q.toNat * 2 ^ c := by
        rw [Nat.mul_assoc, Nat.mul_assoc, ← Nat.pow_add, ← Nat.pow_add]; congr 2; omega
      have e2 : v * 2 ^ c * 2 ^ (-Q).toNat = v * 2 ^ (-Q).toNat * 2 ^ c := by
        rw [Nat.mul_assoc, Nat.mul_assoc, ← Nat.pow_add, ← Nat.pow_add]; congr 2; omega
      rw [e1, e2]; exact h1
    exact Nat.le_of_mul_le_mul_right key (Nat.two_pow_pos _)
  · intro h
    have key : v * 2 ^ (-Q).toNat * 2 ^ c ≤ M * 2 ^ Q.toNat * 2 ^ c := by
      have h1 := Nat.mul_le_mul_right (2 ^ (-Q).toNat) h
      have e1 : M * 2 ^ e * 2 ^ (-Q).toNat = M * 2 ^ Q.toNat * 2 ^ c := by
        rw [Nat.mul_assoc, Nat.mul_assoc, ← Nat.pow_add, ← Nat.pow_add]; congr 2; omega
      have e2 : v * 2 ^ c * 2 ^ (-Q).toNat = v * 2 ^ (-Q).toNat * 2 ^ c := by
        rw [Nat.mul_assoc, Nat.mul_assoc, ← Nat.pow_add, ← Nat.pow_add]; congr 2; omega
      rw [← e1, ← e2]; exact h1
    exact Nat.le_of_mul_le_mul_right key (Nat.two_pow_pos _)
theorem f32_format : FloatKind.f32.format = Ieee.single := rfl

theorem mul_eq {x y : Nat} (hx : x < Inf) (hy : y < Inf) : ∃ (M : Nat) (Q : Int), fmul x y = some (rung false M Q) ∧ (∀ v, V x * V y ≤ v * 2 ^ 149 → Le M Q v) ∧ (∀ v, v * 2 ^ 149 ≤ V x * V y → Ge M Q v) := by
  obtain ⟨m, P, h1, h2⟩ := read_small hx
  obtain ⟨n, P', h3, h4⟩ := read_small hy
  have hp : m * 2 ^ P * (n * 2 ^ P') = m * n * 2 ^ (P + P') := pow_mid m n P (P + P') P' rfl
  rw [h2, h4] at hp
  refine ⟨m * n, (P : Int) + P' - 149, ?_, ?_, ?_⟩
  · unfold fmul Ieee.Format.mul
    rw [f32_format, h1, h3]
    simp only [Ieee.Datum.product, Option.map_some, Ieee.Format.write, Bool.bne_false]
    rw [show (P : Int) - 149 + ((P' : Int) - 149) = ((P : Int) + P' - 149) - 149 by omega, nearest_word, word_false]
  · intro v hv
    rw [hp] at hv
    exact (Le_scale 149 (P + P') (by omega)).2 hv
  · intro v hv
    rw [hp] at hv
    exact (Ge_scale 149 (P + P') (by omega)).2 hv

/-! ### signed words -/
/-- The magnitude of a word, and whether it has its sign bit. -/
def mg (w : Nat) : Nat := w % 2147483648
def sg (w : Nat) : Bool := w / 2147483648 % 2 == 1
theorem mg_small {w : Nat} (h : w < Inf) : mg w = w := by rw [Inf_eq] at h; unfold mg; omega
theorem sg_small {w : Nat} (h : w < Inf) : sg w = false := by rw [Inf_eq] at h; unfold sg; rw [show w / 2147483648 % 2 = 0 by omega]; rfl
theorem read_fin {w : Nat} (h : mg w < Inf) : ∃ (m : Nat) (P : Nat), Ieee.single.read w = .number (sg w) m ((P : Int) - 149) ∧ m * 2 ^ P = V (mg w) := by
  rw [Inf_eq] at h
  obtain ⟨e1, e2, e3, e4, e5⟩ := single_vals
  unfold Ieee.Format.read
  simp only [e2, e3, e4, e5]
  show ∃ (m : Nat) (P : Nat), (if mg w < 8388608 then Ieee.Datum.number (sg w) (mg w) (-149) else if mg w < 2139095040 then .number (sg w) (8388608 + mg w % 8388608) (-149 + ((mg w / 8388608 - 1 : Nat) : Int))
    else if mg w = 2139095040 then .infinity (sg w) else .nan (sg w) (mg w - 2139095040)) = .number (sg w) m ((P : Int) - 149) ∧ m * 2 ^ P = V (mg w)
  by_cases hb : mg w < 8388608
  · rw [if_pos hb]
    exact ⟨mg w, 0, rfl, by simp [V, hb]⟩
  · rw [if_neg hb, if_pos h]
    refine ⟨8388608 + mg w % 8388608, mg w / 8388608 - 1, ?_, by simp [V, hb]⟩
    rw [show (-149 : Int) + ((mg w / 8388608 - 1 : Nat) : Int) = ((mg w / 8388608 - 1 : Nat) : Int) - 149 by omega]
/-- The value with its sign. -/
def SV (w : Nat) : Int := if sg w then -(V (mg w) : Int) else (V (mg w) : Int)
theorem SV_small {w : Nat} (h : w < Inf) : SV w = V w := by unfold SV; rw [sg_small h, mg_small h]; rfl
theorem SV_abs (w : Nat) : (SV w).natAbs = V (mg w) := by unfold SV; split <;> omega

theorem signed_eq (s : Bool) (m k : Nat) : Ieee.signed s m k = if s then -((m * 2 ^ k : Nat) : Int) else ((m * 2 ^ k : Nat) : Int) := by
  unfold Ieee.signed; rw [Nat.shiftLeft_eq]
theorem signed_scale {m P b : Nat} (h : b ≤ P) (s : Bool) : Ieee.signed s m (P - b) * ((2 ^ b : Nat) : Int) = if s then -((m * 2 ^ P : Nat) : Int) else ((m * 2 ^ P : Nat) : Int) := by
  rw [signed_eq]
  have e : m * 2 ^ (P - b) * 2 ^ b = m * 2 ^ P := by rw [Nat.mul_assoc, ← Nat.pow_add]; congr 2; omega
  split
  · rw [Int.neg_mul, ← Int.natCast_mul, e]
  · rw [← Int.natCast_mul, e]

/-- The exact sum of two finite words: its value is that of the words' sum. -/
theorem sum_eq {x y : Nat} (hx : mg x < Inf) (hy : mg y < Inf) : ∃ (M : Nat) (Q : Nat) (sn : Bool), fadd x y = some (Ieee.single.word sn (rung sn M Q)) ∧ M * 2 ^ Q = (SV x + SV y).natAbs ∧
    (SV x + SV y < 0 → sn = true) ∧ (0 < SV x + SV y → sn = false) ∧ (SV x + SV y = 0 → sn = (sg x && sg y)) := by
  obtain ⟨m, P, h1, h2⟩ := read_fin hx
  obtain ⟨n, P', h3, h4⟩ := read_fin hy
  have hb : min ((P : Int) - 149) ((P' : Int) - 149) = ((min P P' : Nat) : Int) - 149 := by omega
  have t1 : ((P : Int) - 149 - (((min P P' : Nat) : Int) - 149)).toNat = P - min P P' := by omega
  have t2 : ((P' : Int) - 149 - (((min P P' : Nat) : Int) - 149)).toNat = P' - min P P' := by omega
  have s1 := signed_scale (m := m) (P := P) (b := min P P') (by omega) (sg x)
  have s2 := signed_scale (m := n) (P := P') (b := min P P') (by omega) (sg y)
  rw [h2] at s1
  rw [h4] at s2
  have s1' : Ieee.signed (sg x) m (P - min P P') * ((2 ^ min P P' : Nat) : Int) = SV x := s1
  have s2' : Ieee.signed (sg y) n (P' - min P P') * ((2 ^ min P P' : Nat) : Int) = SV y := s2
  have hsum : (Ieee.signed (sg x) m (P - min P P') + Ieee.signed (sg y) n (P' - min P P')) * ((2 ^ min P P' : Nat) : Int) = SV x + SV y := by rw [Int.add_mul, s1', s2']
  have hpos : (0 : Int) < ((2 ^ min P P' : Nat) : Int) := by have := Nat.two_pow_pos (min P P'); omega
  generalize ht : Ieee.signed (sg x) m (P - min P P') + Ieee.signed (sg y) n (P' - min P P') = t at hsum
  refine ⟨t.natAbs, min P P', if t = 0 then (sg x && sg y) else decide (t < 0), ?_, ?_, ?_, ?_, ?_⟩
  · unfold fadd Ieee.Format.add
    rw [f32_format, h1, h3]
    simp only [Ieee.Datum.sum, Option.map_some, Ieee.Format.write, hb, t1, t2, ht]
    rw [nearest_word]
  · rw [← hsum, Int.natAbs_mul, Int.natAbs_natCast]
  · intro h0
    have h5 : t < 0 := by
      rcases Int.lt_or_le t 0 with h6 | h6
      · exact h6
      · have := Int.mul_nonneg h6 (Int.le_of_lt hpos); omega
    rw [if_neg (by omega)]; simp [h5]
  · intro h0
    have h5 : 0 < t := by
      rcases Int.lt_or_le 0 t with h6 | h6
      · exact h6
      · have := Int.mul_nonpos_of_nonpos_of_nonneg h6 (Int.le_of_lt hpos); omega
    rw [if_neg (by omega)]; simp; omega
  · intro h0
    have h5 : t = 0 := by
      rw [h0] at hsum
      rcases Int.mul_eq_zero.1 hsum with h6 | h6
      · exact h6
      · omega
    rw [if_pos h5]

/-- '-x'. -/
def neg (x : Nat) : Nat := Op.negFloat .f32 x
theorem read_opp {w : Nat} (h : mg w < Inf) : ∃ (m : Nat) (P : Nat), (Ieee.single.read w).opposite = .number (!sg w) m ((P : Int) - 149) ∧ m * 2 ^ P = V (mg w) := by
  obtain ⟨m, P, h1, h2⟩ := read_fin h
  exact ⟨m, P, by rw [h1]; rfl, h2⟩
/-- The exact difference of two finite words. -/
theorem diff_eq {x y : Nat} (hx : mg x < Inf) (hy : mg y < Inf) : ∃ (M : Nat) (Q : Nat) (sn : Bool), fsub x y = some (Ieee.single.word sn (rung sn M Q)) ∧ M * 2 ^ Q = (SV x - SV y).natAbs ∧
    (SV x - SV y < 0 → sn = true) ∧ (0 < SV x - SV y → sn = false) ∧ (SV x - SV y = 0 → sn = (sg x && !sg y)) := by
  obtain ⟨m, P, h1, h2⟩ := read_fin hx
  obtain ⟨n, P', h3, h4⟩ := read_opp hy
  have hb : min ((P : Int) - 149) ((P' : Int) - 149) = ((min P P' : Nat) : Int) - 149 := by omega
  have t1 : ((P : Int) - 149 - (((min P P' : Nat) : Int) - 149)).toNat = P - min P P' := by omega
  have t2 : ((P' : Int) - 149 - (((min P P' : Nat) : Int) - 149)).toNat = P' - min P P' := by omega
  have s1 := signed_scale (m := m) (P := P) (b := min P P') (by omega) (sg x)
  have s2 := signed_scale (m := n) (P := P') (b := min P P') (by omega) (!sg y)
  rw [h2] at s1
  rw [h4] at s2
  have s1' : Ieee.signed (sg x) m (P - min P P') * ((2 ^ min P P' : Nat) : Int) = SV x := s1
  have s2' : Ieee.signed (!sg y) n (P' - min P P') * ((2 ^ min P P' : Nat) : Int) = -SV y := by
    rw [s2]; unfold SV; cases sg y <;> simp
  have hsum : (Ieee.signed (sg x) m (P - min P P') + Ieee.signed (!sg y) n (P' - min P P')) * ((2 ^ min P P' : Nat) : Int) = SV x - SV y := by rw [Int.add_mul, s1', s2']; omega
  have hpos : (0 : Int) < ((2 ^ min P P' : Nat) : Int) := by have := Nat.two_pow_pos (min P P'); omega
  generalize ht : Ieee.signed (sg x) m (P - min P P') + Ieee.signed (!sg y) n (P' - min P P') = t at hsum
  refine ⟨t.natAbs, min P P', if t = 0 then (sg x && !sg y) else decide (t < 0), ?_, ?_, ?_, ?_, ?_⟩
  · unfold fsub Ieee.Format.sub
    rw [f32_format, h1, h3]
    simp only [Ieee.Datum.sum, Option.map_some, Ieee.Format.write, hb, t1, t2, ht]
    rw [nearest_word]
  · rw [← hsum, Int.natAbs_mul, Int.natAbs_natCast]
  · intro h0
    have h5 : t < 0 := by
      rcases Int.lt_or_le t 0 with h6 | h6
      · exact h6
      · have := Int.mul_nonneg h6 (Int.le_of_lt hpos); omega
    rw [if_neg (by omega)]; simp [h5]
  · intro h0
    have h5 : 0 < t := by
      rcases Int.lt_or_le 0 t with h6 | h6
      · exact h6
      · have := Int.mul_nonpos_of_nonpos_of_nonneg h6 (Int.le_of_lt hpos); omega
    rw [if_neg (by omega)]; simp; omega
  · intro h0
    have h5 : t = 0 := by
      rw [h0] at hsum
      rcases Int.mul_eq_zero.1 hsum with h6 | h6
      · exact h6
      · omega
    rw [if_pos h5]

theorem icmp_lt {a b : Int} : compare a b = .lt ↔ a < b := by
  show compareOfLessAndEq a b = .lt ↔ _
  unfold compareOfLessAndEq; split
  · simp_all
  · split <;> simp <;> omega
theorem icmp_eq {a b : Int} : compare a b = .eq ↔ a = b := by
  show compareOfLessAndEq a b = .eq ↔ _
  unfold compareOfLessAndEq; split
  · simp; omega
  · split <;> simp_all
theorem icmp_gt {a b : Int} : compare a b = .gt ↔ b < a := by
  show compareOfLessAndEq a b = .gt ↔ _
  unfold compareOfLessAndEq; split
  · simp; omega
  · split <;> simp <;> omega
/-- How two finite words stand to each other. -/
theorem order_eq {x y : Nat} (hx : mg x < Inf) (hy : mg y < Inf) : Ieee.single.order x y = some (compare (SV x) (SV y)) := by
  obtain ⟨m, P, h1, h2⟩ := read_fin hx
  obtain ⟨n, P', h3, h4⟩ := read_fin hy
  have hb : min ((P : Int) - 149) ((P' : Int) - 149) = ((min P P' : Nat) : Int) - 149 := by omega
  have t1 : ((P : Int) - 149 - (((min P P' : Nat) : Int) - 149)).toNat = P - min P P' := by omega
  have t2 : ((P' : Int) - 149 - (((min P P' : Nat) : Int) - 149)).toNat = P' - min P P' := by omega
  have s1 := signed_scale (m := m) (P := P) (b := min P P') (by omega) (sg x)
  have s2 := signed_scale (m := n) (P := P') (b := min P P') (by omega) (sg y)
  rw [h2] at s1
  rw [h4] at s2
  have s1' : Ieee.signed (sg x) m (P - min P P') * ((2 ^ min P P' : Nat) : Int) = SV x := s1
  have s2' : Ieee.signed (sg y) n (P' - min P P') * ((2 ^ min P P' : Nat) : Int) = SV y := s2
  have hpos : (0 : Int) < ((2 ^ min P P' : Nat) : Int) := by have := Nat.two_pow_pos (min P P'); omega
  unfold Ieee.Format.order
  rw [h1, h3]
  simp only [Ieee.Datum.order, hb, t1, t2]
  generalize Ieee.signed (sg x) m (P - min P P') = a at *
  generalize Ieee.signed (sg y) n (P' - min P P') = b at *
  generalize ((2 ^ min P P' : Nat) : Int) = c at *
  rw [← s1', ← s2']
  congr 1
  rcases Int.lt_trichotomy a b with h | h | h
  · rw [icmp_lt.2 h, icmp_lt.2 (Int.mul_lt_mul_of_pos_right h hpos)]
  · subst h; rw [icmp_eq.2 rfl, icmp_eq.2 rfl]
  · rw [icmp_gt.2 h, icmp_gt.2 (Int.mul_lt_mul_of_pos_right h hpos)]
section
variable {x y : Nat} (hx : mg x < Inf) (hy : mg y < Inf)
include hx hy
theorem flt_iff : flt x y = true ↔ SV x < SV y := by
  unfold flt; rw [f32_format, order_eq hx hy]; simp [icmp_lt]
theorem fgt_iff : fgt x y = true ↔ SV y < SV x := by
  unfold fgt; rw [f32_format, order_eq hx hy]; simp [icmp_gt]
theorem feq_iff : feq x y = true ↔ SV x = SV y := by
  unfold feq; rw [f32_format, order_eq hx hy]; simp
theorem fle_iff : fle x y = true ↔ SV x ≤ SV y := by
  unfold fle; rw [f32_format, order_eq hx hy]; simp only [Option.some_beq_some, Bool.or_eq_true, beq_iff_eq, icmp_lt, icmp_eq]; omega
theorem fge_iff : fge x y = true ↔ SV y ≤ SV x := by
  unfold fge; rw [f32_format, order_eq hx hy]; simp only [Option.some_beq_some, Bool.or_eq_true, beq_iff_eq, icmp_gt, icmp_eq]; omega
end

/-! ### words from 0 to a power of two -/
/-- 'x is a number from 0 to 2^k': no sign bit. -/
def W (k : Nat) : Nat := (127 + k) * 8388608
theorem V_W (k : Nat) : V (W k) = 2 ^ (149 + k) := by
  have e : W k = (126 + k) * 8388608 + 8388608 := by unfold W; omega
  rw [e, V_rung (by omega) (.inr (by omega))]
  have e2 : (8388608 : Nat) = 2 ^ 23 := by decide
  rw [e2, ← Nat.pow_add]; congr 1; omega
theorem W_lt {k : Nat} (hk : k ≤ 127) : W k < Inf := by rw [Inf_eq]; unfold W; omega
theorem lt_Inf {x k : Nat} (hk : k ≤ 127) (h : x ≤ W k) : x < Inf := Nat.lt_of_le_of_lt h (W_lt hk)
theorem V_le_W {x k : Nat} (h : x ≤ W k) : V x ≤ 2 ^ (149 + k) := by rw [← V_W]; exact V_mono h

theorem mul_W {x y a b : Nat} (ha : a ≤ 127) (hb : b ≤ 127) (hx : x ≤ W a) (hy : y ≤ W b) : ∃ r, fmul x y = some r ∧ r ≤ W (a + b) := by
  obtain ⟨M, Q, h1, h2, _⟩ := mul_eq (lt_Inf ha hx) (lt_Inf hb hy)
  refine ⟨_, h1, rung_le _ (h2 _ ?_)⟩
  rw [V_W]
  calc V x * V y ≤ 2 ^ (149 + a) * 2 ^ (149 + b) := Nat.mul_le_mul (V_le_W hx) (V_le_W hy)
    _ = 2 ^ (149 + (a + b)) * 2 ^ 149 := by rw [← Nat.pow_add, ← Nat.pow_add]; congr 1; omega
/-- A product with a number of at most 1 is at most the other one. -/
theorem mul_part {x y : Nat} (hx : x < Inf) (hy : y ≤ W 0) : ∃ r, fmul x y = some r ∧ r ≤ x := by
  obtain ⟨M, Q, h1, h2, _⟩ := mul_eq hx (lt_Inf (by omega) hy)
  refine ⟨_, h1, rung_le _ (h2 _ ?_)⟩
  exact Nat.mul_le_mul_left _ (V_le_W hy)

/-- The sum of two numbers without signs. -/
theorem add_eq {x y : Nat} (hx : x < Inf) (hy : y < Inf) : ∃ (M : Nat) (Q : Nat), fadd x y = some (rung false M Q) ∧ M * 2 ^ Q = V x + V y := by
  obtain ⟨M, Q, sn, h1, h2, h3, h4, h5⟩ := sum_eq (x := x) (y := y) (by rw [mg_small hx]; exact hx) (by rw [mg_small hy]; exact hy)
  rw [SV_small hx, SV_small hy] at h2 h3 h4 h5
  have hs : sn = false := by
    rcases Nat.eq_zero_or_pos (V x + V y) with h | h
    · rw [h5 (by omega), sg_small hx]; rfl
    · exact h4 (by omega)
  subst hs
  rw [word_false] at h1
  exact ⟨M, Q, h1, by rw [h2]; omega⟩
theorem Le_nat {M Q v : Nat} : Le M (Q : Int) v ↔ M * 2 ^ Q ≤ v := by
  unfold Le; rw [show (-(Q : Int)).toNat = 0 by omega, Int.toNat_natCast, Nat.pow_zero, Nat.mul_one]
theorem Ge_nat {M Q v : Nat} : Ge M (Q : Int) v ↔ v ≤ M * 2 ^ Q := by
  unfold Ge; rw [show (-(Q : Int)).toNat = 0 by omega, Int.toNat_natCast, Nat.pow_zero, Nat.mul_one]
theorem add_W {x y a b : Nat} (ha : a ≤ 126) (hb : b ≤ 126) (hx : x ≤ W a) (hy : y ≤ W b) : ∃ r, fadd x y = some r ∧ r ≤ W (max a b + 1) := by
  obtain ⟨M, Q, h1, h2⟩ := add_eq (lt_Inf (by omega) hx) (lt_Inf (by omega) hy)
  refine ⟨_, h1, rung_le _ (Le_nat.2 ?_)⟩
  rw [h2, V_W]
  have e1 : 2 ^ (149 + a) ≤ 2 ^ (149 + max a b) := Nat.pow_le_pow_right (by omega) (by omega)
  have e2 : 2 ^ (149 + b) ≤ 2 ^ (149 + max a b) := Nat.pow_le_pow_right (by omega) (by omega)
  have := V_le_W hx
  have := V_le_W hy
  rw [← Nat.add_assoc, Nat.pow_succ]; omega
/-- A sum is at least its parts. -/
theorem add_ge {x y r : Nat} (hx : x < Inf) (hy : y < Inf) (h : fadd x y = some r) : x ≤ r ∧ y ≤ r := by
  obtain ⟨M, Q, h1, h2⟩ := add_eq hx hy
  rw [h1] at h; injection h with h; subst h
  exact ⟨rung_ge _ (Nat.le_of_lt hx) (Ge_nat.2 (by omega)), rung_ge _ (Nat.le_of_lt hy) (Ge_nat.2 (by omega))⟩
/-- The difference of two numbers without signs, the second one not greater. -/
theorem sub_eq {x y : Nat} (hx : x < Inf) (hy : y ≤ x) : ∃ (M : Nat) (Q : Nat), fsub x y = some (rung false M Q) ∧ M * 2 ^ Q = V x - V y := by
  have hy' : y < Inf := Nat.lt_of_le_of_lt hy hx
  obtain ⟨M, Q, sn, h1, h2, h3, h4, h5⟩ := diff_eq (x := x) (y := y) (by rw [mg_small hx]; exact hx) (by rw [mg_small hy']; exact hy')
  rw [SV_small hx, SV_small hy'] at h2 h3 h4 h5
  have hv := V_mono hy
  have hs : sn = false := by
    rcases Nat.eq_zero_or_pos (V x - V y) with h | h
    · rw [h5 (by omega), sg_small hx]; rfl
    · exact h4 (by omega)
  subst hs
  rw [word_false] at h1
  exact ⟨M, Q, h1, by rw [h2]; omega⟩
theorem sub_le {x y : Nat} (hx : x < Inf) (hy : y ≤ x) : ∃ r, fsub x y = some r ∧ r ≤ x := by
  obtain ⟨M, Q, h1, h2⟩ := sub_eq hx hy
  exact ⟨_, h1, rung_le _ (Le_nat.2 (by omega))⟩
end Go.Proofs.Ytbelopcfmjgfiaa
