/- Products with signs, quotients, whole numbers as float32. No condition. -/
import Derived.Test.YtbelopcfmjgfiaaFloat
namespace Go.Proofs.Ytbelopcfmjgfiaa
open Go

theorem mg_word {s : Bool} {r : Nat} (h : r ≤ Inf) : mg (Ieee.single.word s r) = r := by
  rw [Inf_eq] at h
  cases s
  · rw [word_false]; unfold mg; omega
  · rw [word_true]; unfold mg; omega
theorem sg_word {s : Bool} {r : Nat} (h : r ≤ Inf) : sg (Ieee.single.word s r) = s := by
  rw [Inf_eq] at h
  cases s
  · rw [word_false]; unfold sg; rw [show r / 2147483648 % 2 = 0 by omega]; rfl
  · rw [word_true]; unfold sg; rw [show (2147483648 + r) / 2147483648 % 2 = 1 by omega]; rfl

theorem prod_eq {x y : Nat} (hx : mg x < Inf) (hy : mg y < Inf) : ∃ (M : Nat) (Q : Int), fmul x y = some (Ieee.single.word (sg x ^^ sg y) (rung (sg x ^^ sg y) M Q)) ∧
    (∀ v, V (mg x) * V (mg y) ≤ v * 2 ^ 149 → Le M Q v) ∧ (∀ v, v * 2 ^ 149 ≤ V (mg x) * V (mg y) → Ge M Q v) := by
  obtain ⟨m, P, h1, h2⟩ := read_fin hx
  obtain ⟨n, P', h3, h4⟩ := read_fin hy
  have hp : m * 2 ^ P * (n * 2 ^ P') = m * n * 2 ^ (P + P') := pow_mid m n P (P + P') P' rfl
  rw [h2, h4] at hp
  refine ⟨m * n, (P : Int) + P' - 149, ?_, ?_, ?_⟩
  · unfold fmul Ieee.Format.mul
    rw [f32_format, h1, h3]
    simp only [Ieee.Datum.product, Option.map_some, Ieee.Format.write]
    rw [show (P : Int) - 149 + ((P' : Int) - 149) = ((P : Int) + P' - 149) - 149 by omega, nearest_word]
  · intro v hv
    rw [hp] at hv
    exact (Le_scale 149 (P + P') (by omega)).2 hv
  · intro v hv
    rw [hp] at hv
    exact (Ge_scale 149 (P + P') (by omega)).2 hv

theorem prod_W {x y a b : Nat} (hab : a + b ≤ 127) (hx : mg x ≤ W a) (hy : mg y ≤ W b) : ∃ r, fmul x y = some r ∧ mg r ≤ W (a + b) := by
  obtain ⟨M, Q, h1, h2, _⟩ := prod_eq (lt_Inf (by omega) hx) (lt_Inf (by omega) hy)
  refine ⟨_, h1, ?_⟩
  rw [mg_word (rung_inf _ _ _)]
  refine rung_le _ (h2 _ ?_)
  rw [V_W]
  calc V (mg x) * V (mg y) ≤ 2 ^ (149 + a) * 2 ^ (149 + b) := Nat.mul_le_mul (V_le_W hx) (V_le_W hy)
    _ = 2 ^ (149 + (a + b)) * 2 ^ 149 := by rw [← Nat.pow_add, ← Nat.pow_add]; congr 1; omega

/-- A sum's magnitude. -/
theorem sum_W {x y a b : Nat} (ha : a ≤ 126) (hb : b ≤ 126) (hx : mg x ≤ W a) (hy : mg y ≤ W b) : ∃ r, fadd x y = some r ∧ mg r ≤ W (max a b + 1) := by
  obtain ⟨M, Q, sn, h1, h2, _⟩ := sum_eq (lt_Inf (by omega) hx) (lt_Inf (by omega) hy)
  refine ⟨_, h1, ?_⟩
  rw [mg_word (rung_inf _ _ _)]
  refine rung_le _ (Le_nat.2 ?_)
  rw [h2, V_W]
  have e1 : 2 ^ (149 + a) ≤ 2 ^ (149 + max a b) := Nat.pow_le_pow_right (by omega) (by omega)
  have e2 : 2 ^ (149 + b) ≤ 2 ^ (149 + max a b) := Nat.pow_le_pow_right (by omega) (by omega)
  have h3 := V_le_W hx
  have h4 := V_le_W hy
  rw [← SV_abs] at h3 h4
  rw [← Nat.add_assoc, Nat.pow_succ]; omega
theorem diff_W {x y a b : Nat} (ha : a ≤ 126) (hb : b ≤ 126) (hx : mg x ≤ W a) (hy : mg y ≤ W b) : ∃ r, fsub x y = some r ∧ mg r ≤ W (max a b + 1) := by
  obtain ⟨M, Q, sn, h1, h2, _⟩ := diff_eq (lt_Inf (by omega) hx) (lt_Inf (by omega) hy)
  refine ⟨_, h1, ?_⟩
  rw [mg_word (rung_inf _ _ _)]
  refine rung_le _ (Le_nat.2 ?_)
  rw [h2, V_W]
  have e1 : 2 ^ (149 + a) ≤ 2 ^ (149 + max a b) := Nat.pow_le_pow_right (by omega) (by omega)
  have e2 : 2 ^ (149 + b) ≤ 2 ^ (149 + max a b) := Nat.pow_le_pow_right (by omega) (by omega)
  have h3 := V_le_W hx
  have h4 := V_le_W hy
  rw [← SV_abs] at h3 h4
  rw [← Nat.add_assoc, Nat.pow_succ]; omega

/-- V w is a significand below 2^24 times a power of two. -/
theorem V_form (w : Nat) : ∃ k L, V w = k * 2 ^ L ∧ k < 16777216 := by
  unfold V; split
  · exact ⟨w, 0, by simp, by omega⟩
  · exact ⟨_, _, rfl, by omega⟩

/-- From a strict comparison with a multiple of a power of two to one with the half between. -/
theorem half_le {A B q v T S : Nat} (hS : v * 2 ^ S = B) (hA : q * 2 ^ (T + 1) = A) (hq : 16777216 ≤ 2 * q) (hv : ∃ k L, v = k * 2 ^ L ∧ k < 16777216) (h : A < B) : (2 * q + 1) * 2 ^ T ≤ B := by
  obtain ⟨k, L, rfl, hk⟩ := hv
  subst hS; subst hA
  rw [Nat.mul_assoc, ← Nat.pow_add] at h ⊢
  have hT : 0 < 2 ^ T := Nat.two_pow_pos T
  rcases Nat.lt_or_ge (L + S) T with hlt | hge
  · exfalso
    have h1 : k * 2 ^ (L + S) ≤ 16777216 * 2 ^ T := Nat.mul_le_mul (by omega) (Nat.pow_le_pow_right (by omega) (by omega))
    rw [Nat.pow_succ] at h
    have h2 : 16777216 * 2 ^ T ≤ (2 * q) * 2 ^ T := Nat.mul_le_mul_right _ hq
    have e : q * (2 ^ T * 2) = (2 * q) * 2 ^ T := by rw [Nat.mul_comm (2 ^ T) 2, ← Nat.mul_assoc, Nat.mul_comm q 2]
    omega
  · obtain ⟨j, hj⟩ : ∃ j, L + S = T + j := ⟨L + S - T, by omega⟩
    have hkL : k * 2 ^ (L + S) = k * 2 ^ j * 2 ^ T := by rw [hj, Nat.pow_add, Nat.mul_comm (2 ^ T), ← Nat.mul_assoc]
    rw [hkL] at h ⊢
    rw [Nat.pow_succ] at h
    have e : q * (2 ^ T * 2) = (2 * q) * 2 ^ T := by rw [Nat.mul_comm (2 ^ T) 2, ← Nat.mul_assoc, Nat.mul_comm q 2]
    rw [e] at h
    have h3 := Nat.lt_of_mul_lt_mul_right h
    exact Nat.mul_le_mul_right _ h3
theorem half_ge {B q v T S : Nat} (hS : v * 2 ^ S = B) (hq : 16777216 ≤ 2 * q) (hv : ∃ k L, v = k * 2 ^ L ∧ k < 16777216) (h : B < (q + 1) * 2 ^ (T + 1)) : B ≤ (2 * q + 1) * 2 ^ T := by
  obtain ⟨k, L, rfl, hk⟩ := hv
  subst hS
  rw [Nat.mul_assoc, ← Nat.pow_add] at h ⊢
  have hT : 0 < 2 ^ T := Nat.two_pow_pos T
  rcases Nat.lt_or_ge (L + S) T with hlt | hge
  · have h1 : k * 2 ^ (L + S) ≤ 16777216 * 2 ^ T := Nat.mul_le_mul (by omega) (Nat.pow_le_pow_right (by omega) (by omega))
    have h2 : 16777216 * 2 ^ T ≤ (2 * q + 1) * 2 ^ T := Nat.mul_le_mul_right _ (by omega)
    omega
  · obtain ⟨j, hj⟩ : ∃ j, L + S = T + j := ⟨L + S - T, by omega⟩
    have hkL : k * 2 ^ (L + S) = k * 2 ^ j * 2 ^ T := by rw [hj, Nat.pow_add, Nat.mul_comm (2 ^ T), ← Nat.mul_assoc]
    rw [hkL] at h ⊢
    rw [Nat.pow_succ] at h
    have e : (q + 1) * (2 ^ T * 2) = (2 * q + 2) * 2 ^ T := by rw [Nat.mul_comm (2 ^ T) 2, ← Nat.mul_assoc, Nat.mul_comm (q + 1) 2, Nat.mul_add]
    rw [e] at h
    have h3 := Nat.lt_of_mul_lt_mul_right h
    exact Nat.mul_le_mul_right _ (by omega)

/-- A quotient by a number without sign, not 0. -/
theorem quot_eq {x y : Nat} (hx : mg x < Inf) (hy : y < Inf) (hy0 : 0 < y) : ∃ (M : Nat) (Q : Int), fdiv x y = some (Ieee.single.word (sg x) (rung (sg x) M Q)) ∧
    (∀ w, V (mg x) * 2 ^ 149 ≤ V w * V y → Le M Q (V w)) ∧ (∀ w, V w * V y ≤ V (mg x) * 2 ^ 149 → Ge M Q (V w)) := by
  obtain ⟨m, P, h1, h2⟩ := read_fin hx
  obtain ⟨n, P', h3, h4⟩ := read_small hy
  have hVy : 0 < V y := by have := V_lt hy0; rw [V_zero] at this; exact this
  have hn : n ≠ 0 := by rintro rfl; rw [Nat.zero_mul] at h4; omega
  generalize hmore : (25 : Nat) + n.log2 - m.log2 = more
  generalize hst : ((m * 2 ^ more) % n != 0).toNat = st
  refine ⟨2 * (m * 2 ^ more / n) + st, (P : Int) - P' - more + 148, ?_, ?_, ?_⟩
  · unfold fdiv Ieee.Format.div
    rw [f32_format, h1, h3, single_vals.1]
    simp only [Ieee.Datum.quotient, if_neg hn, Option.map_some, Ieee.Format.write, Bool.bne_false, hmore, Nat.shiftLeft_eq, hst]
    rw [show (P : Int) - 149 - ((P' : Int) - 149) - (more : Int) - 1 = ((P : Int) - P' - more + 148) - 149 by omega, nearest_word]
  all_goals
    intro w hv
    have hVw := V_form w
    generalize V w = v at *
    rw [← h2, ← h4] at hv
    have hdm := Nat.div_add_mod (m * 2 ^ more) n
    have hlt := Nat.mod_lt (m * 2 ^ more) (Nat.pos_of_ne_zero hn)
    generalize hq : m * 2 ^ more / n = q at *
    generalize hr : m * 2 ^ more % n = rem at *
  · refine (Le_scale (P' + more + 1) (P + 149) (by omega)).2 ?_
    have hD : (n * q + rem) * 2 ^ (P + 149) ≤ n * (v * 2 ^ (P' + more)) := by
      rw [hdm]
      have e1 : m * 2 ^ more * 2 ^ (P + 149) = m * 2 ^ P * 2 ^ 149 * 2 ^ more := by
        simp only [Nat.mul_assoc, ← Nat.pow_add]; congr 2; omega
      have e2 : n * (v * 2 ^ (P' + more)) = v * (n * 2 ^ P') * 2 ^ more := by
        rw [Nat.mul_assoc, Nat.mul_assoc, ← Nat.pow_add, Nat.mul_left_comm]
      rw [e1, e2]; exact Nat.mul_le_mul_right _ hv
    rw [Nat.add_mul, Nat.mul_assoc] at hD
    by_cases h0 : rem = 0
    · subst h0
      have hs0 : st = 0 := by rw [← hst]; rfl
      subst hs0
      rw [Nat.zero_mul, Nat.add_zero] at hD
      have h5 := Nat.le_of_mul_le_mul_left hD (Nat.pos_of_ne_zero hn)
      rw [show 2 * q + 0 = 2 * q from rfl, Nat.mul_assoc 2 q, show v * 2 ^ (P' + more + 1) = 2 * (v * 2 ^ (P' + more)) by rw [Nat.pow_succ, ← Nat.mul_assoc, Nat.mul_comm]]
      omega
    · have hs1 : st = 1 := by rw [← hst]; simp [h0]
      subst hs1
      have h5 : q * 2 ^ (P + 149) < v * 2 ^ (P' + more) := by
        refine Nat.lt_of_mul_lt_mul_left (a := n) (Nat.lt_of_lt_of_le ?_ hD)
        have : 0 < rem * 2 ^ (P + 149) := Nat.mul_pos (by omega) (Nat.two_pow_pos _)
        omega
      have hm0 : m ≠ 0 := by rintro rfl; rw [Nat.zero_mul, Nat.zero_mod] at hr; omega
      have hqb : 16777216 ≤ 2 * q := by
        have b1 := (log2_bounds hm0).1
        have b2 := (log2_bounds hn).2
        have : 2 ^ 24 * n ≤ m * 2 ^ more := by
          calc 2 ^ 24 * n ≤ 2 ^ 24 * 2 ^ (n.log2 + 1) := Nat.mul_le_mul_left _ (Nat.le_of_lt b2)
            _ = 2 ^ (24 + (n.log2 + 1)) := (Nat.pow_add ..).symm
            _ ≤ 2 ^ (m.log2 + more) := Nat.pow_le_pow_right (by omega) (by omega)
            _ = 2 ^ m.log2 * 2 ^ more := Nat.pow_add ..
            _ ≤ m * 2 ^ more := Nat.mul_le_mul_right _ b1
        have h6 : 2 ^ 24 ≤ m * 2 ^ more / n := (Nat.le_div_iff_mul_le (Nat.pos_of_ne_zero hn)).2 this
        rw [hq] at h6
        have e : (2 : Nat) ^ 24 = 16777216 := by decide
        omega
      have h7 := half_le (T := P + 148) (S := P' + more) rfl (show q * 2 ^ (P + 148 + 1) = _ from rfl) hqb hVw h5
      have e1 : (2 * q + 1) * 2 ^ (P + 149) = (2 * q + 1) * 2 ^ (P + 148) * 2 := by rw [Nat.mul_assoc, ← Nat.pow_succ]
      have e2 : v * 2 ^ (P' + more + 1) = v * 2 ^ (P' + more) * 2 := by rw [Nat.mul_assoc, ← Nat.pow_succ]
      rw [e1, e2]; omega
  · refine (Ge_scale (P' + more + 1) (P + 149) (by omega)).2 ?_
    have hD : n * (v * 2 ^ (P' + more)) ≤ (n * q + rem) * 2 ^ (P + 149) := by
      rw [hdm]
      have e1 : m * 2 ^ more * 2 ^ (P + 149) = m * 2 ^ P * 2 ^ 149 * 2 ^ more := by
        simp only [Nat.mul_assoc, ← Nat.pow_add]; congr 2; omega
      have e2 : n * (v * 2 ^ (P' + more)) = v * (n * 2 ^ P') * 2 ^ more := by
        rw [Nat.mul_assoc, Nat.mul_assoc, ← Nat.pow_add, Nat.mul_left_comm]
      rw [e1, e2]; exact Nat.mul_le_mul_right _ hv
    by_cases h0 : rem = 0
    · subst h0
      have hs0 : st = 0 := by rw [← hst]; rfl
      subst hs0
      rw [Nat.add_zero, Nat.mul_assoc] at hD
      have h5 := Nat.le_of_mul_le_mul_left hD (Nat.pos_of_ne_zero hn)
      rw [show 2 * q + 0 = 2 * q from rfl, Nat.mul_assoc 2 q, show v * 2 ^ (P' + more + 1) = 2 * (v * 2 ^ (P' + more)) by rw [Nat.pow_succ, ← Nat.mul_assoc, Nat.mul_comm]]
      omega
    · have hs1 : st = 1 := by rw [← hst]; simp [h0]
      subst hs1
      have h5 : v * 2 ^ (P' + more) < (q + 1) * 2 ^ (P + 148 + 1) := by
        refine Nat.lt_of_mul_lt_mul_left (a := n) (Nat.lt_of_le_of_lt hD ?_)
        rw [← Nat.mul_assoc]
        refine Nat.mul_lt_mul_of_pos_right ?_ (Nat.two_pow_pos _)
        rw [Nat.mul_add]; omega
      have hm0 : m ≠ 0 := by rintro rfl; rw [Nat.zero_mul, Nat.zero_mod] at hr; omega
      have hqb : 16777216 ≤ 2 * q := by
        have b1 := (log2_bounds hm0).1
        have b2 := (log2_bounds hn).2
        have : 2 ^ 24 * n ≤ m * 2 ^ more := by
          calc 2 ^ 24 * n ≤ 2 ^ 24 * 2 ^ (n.log2 + 1) := Nat.mul_le_mul_left _ (Nat.le_of_lt b2)
            _ = 2 ^ (24 + (n.log2 + 1)) := (Nat.pow_add ..).symm
            _ ≤ 2 ^ (m.log2 + more) := Nat.pow_le_pow_right (by omega) (by omega)
            _ = 2 ^ m.log2 * 2 ^ more := Nat.pow_add ..
            _ ≤ m * 2 ^ more := Nat.mul_le_mul_right _ b1
        have h6 : 2 ^ 24 ≤ m * 2 ^ more / n := (Nat.le_div_iff_mul_le (Nat.pos_of_ne_zero hn)).2 this
        rw [hq] at h6
        have e : (2 : Nat) ^ 24 = 16777216 := by decide
        omega
      have h7 := half_ge (T := P + 148) (S := P' + more) rfl hqb hVw h5
      have e1 : (2 * q + 1) * 2 ^ (P + 149) = (2 * q + 1) * 2 ^ (P + 148) * 2 := by rw [Nat.mul_assoc, ← Nat.pow_succ]
      have e2 : v * 2 ^ (P' + more + 1) = v * 2 ^ (P' + more) * 2 := by rw [Nat.mul_assoc, ← Nat.pow_succ]
      rw [e1, e2]; omega
/-- A quotient of two numbers without signs, the second one not 0. -/
theorem div_eq {x y : Nat} (hx : x < Inf) (hy : y < Inf) (hy0 : 0 < y) : ∃ (M : Nat) (Q : Int), fdiv x y = some (rung false M Q) ∧
    (∀ w, V x * 2 ^ 149 ≤ V w * V y → Le M Q (V w)) ∧ (∀ w, V w * V y ≤ V x * 2 ^ 149 → Ge M Q (V w)) := by
  obtain ⟨M, Q, h1, h2, h3⟩ := quot_eq (x := x) (by rw [mg_small hx]; exact hx) hy hy0
  rw [mg_small hx] at h2 h3
  rw [sg_small hx, word_false] at h1
  exact ⟨M, Q, h1, h2, h3⟩
theorem quot_le {x y : Nat} (hx : mg x < Inf) (hy : y < Inf) (hy1 : W 0 ≤ y) : ∃ r, fdiv x y = some r ∧ mg r ≤ mg x ∧ sg r = sg x := by
  have h0 : 0 < W 0 := by decide
  obtain ⟨M, Q, h1, h2, _⟩ := quot_eq hx hy (by omega)
  refine ⟨_, h1, ?_, sg_word (rung_inf _ _ _)⟩
  rw [mg_word (rung_inf _ _ _)]
  refine rung_le _ (h2 _ ?_)
  have := V_mono hy1
  rw [V_W] at this
  exact Nat.mul_le_mul_left _ this
/-- A quotient by a number of at least 1 is not greater. -/
theorem div_le {x y : Nat} (hx : x < Inf) (hy : y < Inf) (hy1 : W 0 ≤ y) : ∃ r, fdiv x y = some r ∧ r ≤ x := by
  have h0 : 0 < W 0 := by decide
  obtain ⟨M, Q, h1, h2, _⟩ := div_eq hx hy (by omega)
  refine ⟨_, h1, rung_le _ (h2 _ ?_)⟩
  have := V_mono hy1
  rw [V_W] at this
  exact Nat.mul_le_mul_left _ this

/-! ### what tests say of words -/
/-- Words from 0 to infinity stand as their numbers do. -/
theorem order_inf {x : Nat} (hx : x < Inf) : Ieee.single.order Inf x = some .gt := by
  obtain ⟨m, P, h1, _⟩ := read_small hx
  have h2 : Ieee.single.read Inf = .infinity false := by decide +kernel
  unfold Ieee.Format.order
  rw [h1, h2]; rfl
/-- A word that is at least c and at most d, both without signs, c not 0. -/
theorem between {x c d : Nat} (hx32 : x < 4294967296) (hc0 : 0 < c) (hc : c < Inf) (hd : d < Inf) (h1 : fge x c = true) (h2 : fle x d = true) : c ≤ x ∧ x ≤ d := by
  rcases Nat.lt_or_ge (mg x) Inf with hm | hm
  · have a1 := (fge_iff hm (by rw [mg_small hc]; exact hc)).1 h1
    have a2 := (fle_iff hm (by rw [mg_small hd]; exact hd)).1 h2
    rw [SV_small hc] at a1
    rw [SV_small hd] at a2
    have hV : 0 < V c := by have := V_lt hc0; rw [V_zero] at this; exact this
    have hs : sg x = false := by
      cases hs : sg x
      · rfl
      · unfold SV at a1; rw [hs] at a1; simp at a1; omega
    have hx : x = mg x := by
      unfold sg at hs; unfold mg
      have : x / 2147483648 % 2 ≠ 1 := by intro h; rw [h] at hs; simp at hs
      omega
    unfold SV at a1 a2; rw [hs] at a1 a2
    simp at a1 a2
    rw [hx]
    exact ⟨V_le_iff.1 (by omega), V_le_iff.1 (by omega)⟩
  · exfalso
    have hr : (∃ s, Ieee.single.read x = .infinity s) ∨ ∃ s f, Ieee.single.read x = .nan s f := by
      rw [Inf_eq] at hm
      obtain ⟨e1, e2, e3, e4, e5⟩ := single_vals
      unfold Ieee.Format.read
      simp only [e2, e3, e4, e5]
      unfold mg at hm
      rw [if_neg (by omega), if_neg (by omega)]
      split
      · exact .inl ⟨_, rfl⟩
      · exact .inr ⟨_, _, rfl⟩
    obtain ⟨m, P, g1, _⟩ := read_small hc
    obtain ⟨n, P', g2, _⟩ := read_small hd
    unfold fge at h1
    unfold fle at h2
    rw [f32_format] at h1 h2
    unfold Ieee.Format.order at h1 h2
    rw [g1] at h1
    rw [g2] at h2
    rcases hr with ⟨s, hr⟩ | ⟨s, f, hr⟩
    · rw [hr] at h1 h2
      cases s <;> simp [Ieee.Datum.order] at h1 h2
    · rw [hr] at h1
      simp [Ieee.Datum.order] at h1
/-- A word that is at least 0 and at most d: its magnitude is at most d; a sign bit stands on 0 alone. -/
theorem between0 {x d : Nat} (hd : d < Inf) (h1 : fge x 0 = true) (h2 : fle x d = true) : mg x ≤ d ∧ (sg x = true → mg x = 0) := by
  have hz : (0 : Nat) < Inf := by decide
  rcases Nat.lt_or_ge (mg x) Inf with hm | hm
  · have a1 := (fge_iff hm (by rw [mg_small hz]; exact hz)).1 h1
    have a2 := (fle_iff hm (by rw [mg_small hd]; exact hd)).1 h2
    rw [SV_small hz, V_zero] at a1
    rw [SV_small hd] at a2
    unfold SV at a1 a2
    cases hs : sg x
    · rw [hs] at a2
      simp at a2
      exact ⟨V_le_iff.1 (by omega), by simp⟩
    · rw [hs] at a1
      simp at a1
      have : V (mg x) ≤ V 0 := by rw [V_zero]; omega
      have := V_le_iff.1 this
      exact ⟨by omega, fun _ => by omega⟩
  · exfalso
    have hr : (∃ s, Ieee.single.read x = .infinity s) ∨ ∃ s f, Ieee.single.read x = .nan s f := by
      rw [Inf_eq] at hm
      obtain ⟨e1, e2, e3, e4, e5⟩ := single_vals
      unfold Ieee.Format.read
      simp only [e2, e3, e4, e5]
      unfold mg at hm
      rw [if_neg (by omega), if_neg (by omega)]
      split
      · exact .inl ⟨_, rfl⟩
      · exact .inr ⟨_, _, rfl⟩
    obtain ⟨m, P, g1, _⟩ := read_small hz
    obtain ⟨n, P', g2, _⟩ := read_small hd
    unfold fge at h1
    unfold fle at h2
    rw [f32_format] at h1 h2
    unfold Ieee.Format.order at h1 h2
    rw [g1] at h1
    rw [g2] at h2
    rcases hr with ⟨s, hr⟩ | ⟨s, f, hr⟩
    · rw [hr] at h1 h2
      cases s <;> simp [Ieee.Datum.order] at h1 h2
    · rw [hr] at h1
      simp [Ieee.Datum.order] at h1
/-- '-x' turns the sign bit. -/
theorem neg_eq {x : Nat} (hx : x < 4294967296) : neg x = if x < 2147483648 then x + 2147483648 else x - 2147483648 := by
  have h0 : neg x = x ^^^ 2 ^ 31 := rfl
  rw [h0]
  split
  · rename_i h
    have e := Nat.two_pow_add_eq_or_of_lt (i := 31) (b := x) (by omega) 1
    have e2 : (2 : Nat) ^ 31 = 2147483648 := by decide
    rw [e2, Nat.mul_one] at e
    rw [Nat.add_comm, e]
    refine Nat.eq_of_testBit_eq fun i => ?_
    rw [Nat.testBit_xor, Nat.testBit_or, e2.symm, Nat.testBit_two_pow]
    by_cases hi : 31 = i
    · subst hi; simp [Nat.testBit_lt_two_pow (show x < 2 ^ 31 by omega)]
    · simp [hi]
  · rename_i h
    obtain ⟨m, rfl⟩ : ∃ m, x = 2147483648 + m := ⟨x - 2147483648, by omega⟩
    have e := Nat.two_pow_add_eq_or_of_lt (i := 31) (b := m) (by omega) 1
    have e2 : (2 : Nat) ^ 31 = 2147483648 := by decide
    rw [e2, Nat.mul_one] at e
    rw [show 2147483648 + m - 2147483648 = m by omega, e]
    refine Nat.eq_of_testBit_eq fun i => ?_
    rw [Nat.testBit_xor, Nat.testBit_or, e2.symm, Nat.testBit_two_pow]
    by_cases hi : 31 = i
    · subst hi; simp [Nat.testBit_lt_two_pow (show m < 2 ^ 31 by omega)]
    · simp [hi]
/-- A word of magnitude V w and no sign: w. -/
theorem rung_exact (s : Bool) {M w : Nat} {Q : Int} (hw : w ≤ Inf) (h1 : Le M Q (V w)) (h2 : Ge M Q (V w)) : rung s M Q = w :=
  Nat.le_antisymm (rung_le s h1) (rung_ge s hw h2)
theorem sub0_neg {x : Nat} (hx : x < 4294967296) (hm : mg x < Inf) (h : flt x 0 = true) : fsub 0 x = some (neg x) ∧ neg x = mg x := by
  have hz : (0 : Nat) < Inf := by decide
  have h1 := (flt_iff hm (by rw [mg_small hz]; exact hz)).1 h
  rw [SV_small hz, V_zero] at h1
  obtain ⟨M, Q, sn, g1, g2, g3, g4, g5⟩ := diff_eq (x := 0) (y := x) (by rw [mg_small hz]; exact hz) hm
  rw [SV_small hz, V_zero] at g2 g3 g4 g5
  have hsn : sn = false := g4 (by omega)
  subst hsn
  rw [word_false] at g1
  have hsg : sg x = true := by
    cases hs : sg x
    · unfold SV at h1; rw [hs] at h1; simp at h1; omega
    · rfl
  have hv : M * 2 ^ Q = V (mg x) := by
    rw [g2]; unfold SV; rw [hsg]; simp
  have hr : rung false M Q = mg x := rung_exact _ (Nat.le_of_lt hm) (Le_nat.2 (by omega)) (Ge_nat.2 (by omega))
  have hn : neg x = mg x := by
    rw [neg_eq hx]
    unfold sg at hsg
    have : x / 2147483648 % 2 = 1 := by simpa using hsg
    rw [if_neg (by omega)]; unfold mg; omega
  exact ⟨by rw [g1, hr, hn], hn⟩
end Go.Proofs.Ytbelopcfmjgfiaa
