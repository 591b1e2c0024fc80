/- Plain functions of suns and slats: sines out of a polynomial in single precision, light on windows, what passes. No condition. -/
import Derived.Test.YtbelopcfmjgfiaaFloat2
namespace Go.Proofs.Ytbelopcfmjgfiaa
open Go

/-- The polynomial, from 0 to 64. -/
def sineQ (a : Int) : Option Nat :=
  (fdiv (ofI a) 1115684864).bind fun x => (fmul x x).bind fun y => (fmul y 1033109504).bind fun p0 => (fsub 1059356672 p0).bind fun p =>
    (fmul y p).bind fun q0 => (fsub 1070137344 q0).bind fun q => fmul x q
def sineT (a : Int) : Nat := (sineQ a).getD 0
/-- '0 - x'. -/
def neg0 (x : Nat) : Nat := (fsub 0 x).getD 0
def sineM (m : Int) : Nat :=
  if m > 192 then neg0 (sineT (256 - m)) else if m > 128 then neg0 (sineT (m - 128)) else if m > 64 then sineT (128 - m) else sineT m
def sine (angle : Int) : Nat := sineM (angle % 256)
def cosine (angle : Int) : Nat := sine (angle % 256 + 64)

theorem sineQ_all : ∀ n : Fin 65, sineQ (n.val : Int) = some (sineT (n.val : Int)) ∧ fsub 0 (sineT (n.val : Int)) = some (neg0 (sineT (n.val : Int))) := by
  decide +kernel
theorem sineQ_some {a : Int} (h0 : 0 ≤ a) (h1 : a ≤ 64) : sineQ a = some (sineT a) := by
  obtain ⟨n, rfl⟩ := Int.eq_ofNat_of_zero_le h0
  exact (sineQ_all ⟨n, by omega⟩).1
theorem neg_sine_some {a : Int} (h0 : 0 ≤ a) (h1 : a ≤ 64) : fsub 0 (sineT a) = some (neg0 (sineT a)) := by
  obtain ⟨n, rfl⟩ := Int.eq_ofNat_of_zero_le h0
  exact (sineQ_all ⟨n, by omega⟩).2

/-- The steps of the polynomial. -/
theorem sineQ_steps {a : Int} {r : Nat} (h : sineQ a = some r) : ∃ x y p0 p q0 q, fdiv (ofI a) 1115684864 = some x ∧ fmul x x = some y ∧ fmul y 1033109504 = some p0 ∧
    fsub 1059356672 p0 = some p ∧ fmul y p = some q0 ∧ fsub 1070137344 q0 = some q ∧ fmul x q = some r := by
  simp only [sineQ, Option.bind_eq_some_iff] at h
  obtain ⟨x, h1, y, h2, p0, h3, p, h4, q0, h5, q, h6, h7⟩ := h
  exact ⟨x, y, p0, p, q0, q, h1, h2, h3, h4, h5, h6, h7⟩

theorem sine_q1 {a : Int} (h0 : 0 ≤ a) (h1 : a ≤ 64) : sine a = sineT a := by
  unfold sine sineM; rw [show a % 256 = a by omega, if_neg (by omega), if_neg (by omega), if_neg (by omega)]

/-! ### sizes -/
def sizeF (x : Nat) : Nat := if flt x 0 = true then neg x else x
def min1 (x : Nat) : Nat := if fgt x 1065353216 = true then 1065353216 else x
def atl0 (x : Nat) : Nat := if fgt x 0 = true then x else 0
def addv (x y : Nat) : Nat := (fadd x y).getD 0
def subv (x y : Nat) : Nat := (fsub x y).getD 0
def mulv (x y : Nat) : Nat := (fmul x y).getD 0
def divv (x y : Nat) : Nat := (fdiv x y).getD 0

theorem sineM_all : ∀ n : Fin 256, mg (sineM (n.val : Int)) ≤ W 0 ∧ sineM (n.val : Int) < 4294967296 ∧ sizeF (sineM (n.val : Int)) ≤ W 0 := by decide +kernel
theorem sine_facts (a : Int) : mg (sine a) ≤ W 0 ∧ sine a < 4294967296 ∧ sizeF (sine a) ≤ W 0 := by
  unfold sine
  obtain ⟨n, hn⟩ := Int.eq_ofNat_of_zero_le (show 0 ≤ a % 256 by omega)
  rw [hn]
  exact sineM_all ⟨n, by omega⟩
theorem cosine_facts (a : Int) : mg (cosine a) ≤ W 0 ∧ cosine a < 4294967296 := ⟨(sine_facts _).1, (sine_facts _).2.1⟩
theorem cos_all : ∀ n : Fin 65, n.val ≠ 0 → cosine (n.val : Int) ≤ W 0 ∧ (feq (cosine (n.val : Int)) 0 = false → 1015021568 ≤ cosine (n.val : Int)) := by decide +kernel
theorem cos_facts {h : Int} (h0 : 1 ≤ h) (h1 : h ≤ 64) : cosine h ≤ W 0 ∧ (feq (cosine h) 0 = false → 1015021568 ≤ cosine h) := by
  obtain ⟨n, hn⟩ := Int.eq_ofNat_of_zero_le (show 0 ≤ h by omega)
  subst hn
  exact cos_all ⟨n, by omega⟩ (by show n ≠ 0; omega)
theorem W0_lt : W 0 < Inf := W_lt (by omega)
theorem mg0 : mg 0 < Inf := by decide
theorem size_sine (a : Int) : flt (sine a) 0 = true → fsub 0 (sine a) = some (neg (sine a)) := fun h =>
  (sub0_neg (sine_facts a).2.1 (Nat.lt_of_le_of_lt (sine_facts a).1 W0_lt) h).1
/-- What is finite: at most 0, or greater. -/
theorem fle0_not {x : Nat} (h : mg x < Inf) : fle x 0 = !fgt x 0 := by
  rw [Bool.eq_iff_iff, fle_iff h mg0, Bool.not_eq_true', ← Bool.not_eq_true, fgt_iff h mg0]; omega
theorem atl0_le {x : Nat} (h : mg x ≤ W 0) (hx : x < 4294967296) : atl0 x ≤ W 0 := by
  unfold atl0; split
  · rename_i h1
    have hm := Nat.lt_of_le_of_lt h W0_lt
    have h2 := (fgt_iff hm mg0).1 h1
    have hz : SV 0 = 0 := by decide
    rw [hz] at h2
    have hs : sg x = false := by
      cases hs : sg x
      · rfl
      · unfold SV at h2; rw [hs] at h2; simp at h2; omega
    unfold sg at hs
    have h3 : x / 2147483648 % 2 ≠ 1 := by intro e; rw [e] at hs; simp at hs
    have : x = mg x := by unfold mg; omega
    omega
  · exact Nat.zero_le _

/-! ### light on windows -/
/-- The light of a sun that stands at height v and turn t, on a window faced so. -/
def fallF (v t facing : Int) : Nat := if v ≤ 0 then 0 else atl0 (mulv (cosine v) (cosine (t - facing)))
theorem word_lt {s : Bool} {r : Nat} (h : r ≤ Inf) : Ieee.single.word s r < 4294967296 := by
  rw [Inf_eq] at h
  cases s
  · rw [word_false]; omega
  · rw [word_true]; omega
theorem fall_mul (v t facing : Int) : fmul (cosine v) (cosine (t - facing)) = some (mulv (cosine v) (cosine (t - facing))) ∧ mg (mulv (cosine v) (cosine (t - facing))) ≤ W 0 ∧ mulv (cosine v) (cosine (t - facing)) < 4294967296 := by
  obtain ⟨M, Q, h1, h2, h3⟩ := prod_eq (lt_Inf (by omega) (cosine_facts v).1) (lt_Inf (by omega) (cosine_facts (t - facing)).1)
  obtain ⟨r, g1, g2⟩ := prod_W (a := 0) (b := 0) (by omega) (cosine_facts v).1 (cosine_facts (t - facing)).1
  rw [h1] at g1; injection g1 with g1
  unfold mulv
  rw [h1]
  exact ⟨rfl, by simp only [Option.getD_some]; rw [g1]; exact g2, word_lt (rung_inf _ _ _)⟩
theorem fallF_le (v t facing : Int) : fallF v t facing ≤ W 0 := by
  unfold fallF; split
  · exact Nat.zero_le _
  · exact atl0_le (fall_mul v t facing).2.1 (fall_mul v t facing).2.2

/-! ### slats -/
def blkF (wd gp : Nat) (ti h : Int) : Nat := if feq (cosine h) 0 = true then 1065353216 else min1 (divv (mulv wd (sizeF (sine (h + ti)))) (mulv gp (cosine h)))
def openF (wd gp : Nat) (ti h : Int) : Nat := subv 1065353216 (blkF wd gp ti h)
def bounF (wd gp : Nat) (ti : Int) (sh : Nat) (h : Int) : Nat := divv (mulv (mulv (blkF wd gp ti h) sh) (openF wd gp ti 1)) 1073741824
def passF (wd gp : Nat) (ti : Int) (sh : Nat) (h : Int) : Nat := addv (openF wd gp ti h) (bounF wd gp ti sh h)
def winF (wd gp : Nat) (ti : Int) (sh : Nat) (v t facing : Int) : Nat := if v ≤ 0 then 0 else mulv (fallF v t facing) (passF wd gp ti sh v)

/-- Lengths, and parts. -/
def Len (x : Nat) : Prop := 1031798784 ≤ x ∧ x ≤ W 6
def Part (x : Nat) : Prop := mg x ≤ W 0 ∧ (sg x = true → mg x = 0)

theorem fgt_inf {x : Nat} (hx : x ≤ Inf) : (fgt x 1065353216 = true ∧ 1065353216 < x) ∨ (fgt x 1065353216 = false ∧ x ≤ 1065353216) := by
  have h1 : (1065353216 : Nat) < Inf := by decide
  rcases Nat.lt_or_ge x Inf with h | h
  · rcases Nat.lt_or_ge 1065353216 x with h2 | h2
    · refine .inl ⟨(fgt_iff (by rw [mg_small h]; exact h) (by rw [mg_small h1]; exact h1)).2 ?_, h2⟩
      rw [SV_small h, SV_small h1]
      have := V_lt h2; omega
    · refine .inr ⟨?_, h2⟩
      rw [← Bool.not_eq_true, fgt_iff (by rw [mg_small h]; exact h) (by rw [mg_small h1]; exact h1), SV_small h, SV_small h1]
      have := V_mono h2; omega
  · have e : x = Inf := by omega
    subst e
    refine .inl ⟨?_, h1⟩
    unfold fgt; rw [f32_format, order_inf h1]; rfl
theorem min1_le {x : Nat} (hx : x ≤ Inf) : min1 x ≤ W 0 := by
  have e : W 0 = 1065353216 := by decide
  unfold min1
  rcases fgt_inf hx with ⟨h1, h2⟩ | ⟨h1, h2⟩
  · rw [if_pos h1, e]; exact Nat.le_refl _
  · rw [h1, e]; simpa using h2

theorem blk_steps {wd gp : Nat} (hw : Len wd) (hg : Len gp) (ti : Int) {h : Int} (h0 : 1 ≤ h) (h1 : h ≤ 64) (hc : feq (cosine h) 0 = false) :
    fmul wd (sizeF (sine (h + ti))) = some (mulv wd (sizeF (sine (h + ti)))) ∧ fmul gp (cosine h) = some (mulv gp (cosine h)) ∧
    fdiv (mulv wd (sizeF (sine (h + ti)))) (mulv gp (cosine h)) = some (divv (mulv wd (sizeF (sine (h + ti)))) (mulv gp (cosine h))) ∧
    divv (mulv wd (sizeF (sine (h + ti)))) (mulv gp (cosine h)) ≤ Inf := by
  obtain ⟨c1, c2⟩ := cos_facts h0 h1
  have c3 := c2 hc
  obtain ⟨p, p1, p2⟩ := mul_W (a := 6) (b := 0) (by omega) (by omega) hw.2 (sine_facts (h + ti)).2.2
  obtain ⟨q, q1, q2⟩ := mul_W (a := 6) (b := 0) (by omega) (by omega) hg.2 c1
  obtain ⟨M, Q, r1, r2, r3⟩ := mul_eq (lt_Inf (by omega) hg.2) (lt_Inf (by omega) c1)
  have hq : 0 < q := by
    rw [q1] at r1; injection r1 with r1
    have v1 : V 1031798784 = 2 ^ 145 := by decide +kernel
    have v2 : V 1015021568 = 2 ^ 143 := by decide +kernel
    have v3 : V 981467136 = 2 ^ 139 := by decide +kernel
    have g1 := V_mono hg.1
    have g2 := V_mono c3
    have : 981467136 ≤ rung false M Q := rung_ge _ (by decide) (r3 _ (by
      calc V 981467136 * 2 ^ 149 = V 1031798784 * V 1015021568 := by rw [v1, v2, v3]
        _ ≤ V gp * V (cosine h) := Nat.mul_le_mul g1 g2))
    omega
  obtain ⟨M', Q', d1, _, _⟩ := div_eq (lt_Inf (by omega) p2) (lt_Inf (by omega) q2) hq
  have e1 : mulv wd (sizeF (sine (h + ti))) = p := by unfold mulv; rw [p1]; rfl
  have e2 : mulv gp (cosine h) = q := by unfold mulv; rw [q1]; rfl
  have e3 : divv p q = rung false M' Q' := by unfold divv; rw [d1, Option.getD_some]
  rw [e1, e2, e3]
  exact ⟨p1, q1, d1, rung_inf _ _ _⟩
theorem blkF_le {wd gp : Nat} (hw : Len wd) (hg : Len gp) (ti : Int) {h : Int} (h0 : 1 ≤ h) (h1 : h ≤ 64) : blkF wd gp ti h ≤ W 0 := by
  unfold blkF
  cases hc : feq (cosine h) 0
  · rw [if_neg (by decide)]; exact min1_le (blk_steps hw hg ti h0 h1 hc).2.2.2
  · rw [if_pos rfl]; exact (by decide : 1065353216 ≤ W 0)
theorem open_step {wd gp : Nat} (hw : Len wd) (hg : Len gp) (ti : Int) {h : Int} (h0 : 1 ≤ h) (h1 : h ≤ 64) : fsub 1065353216 (blkF wd gp ti h) = some (openF wd gp ti h) ∧ openF wd gp ti h ≤ W 0 := by
  obtain ⟨r, h2, h3⟩ := sub_le (x := 1065353216) (y := blkF wd gp ti h) (by decide) (blkF_le hw hg ti h0 h1)
  unfold openF subv
  rw [h2]
  exact ⟨rfl, h3⟩
theorem pass_steps {wd gp : Nat} (hw : Len wd) (hg : Len gp) (ti : Int) {sh : Nat} (hs : Part sh) {h : Int} (h0 : 1 ≤ h) (h1 : h ≤ 64) :
    fmul (blkF wd gp ti h) sh = some (mulv (blkF wd gp ti h) sh) ∧ fmul (mulv (blkF wd gp ti h) sh) (openF wd gp ti 1) = some (mulv (mulv (blkF wd gp ti h) sh) (openF wd gp ti 1)) ∧
    fdiv (mulv (mulv (blkF wd gp ti h) sh) (openF wd gp ti 1)) 1073741824 = some (bounF wd gp ti sh h) ∧ fadd (openF wd gp ti h) (bounF wd gp ti sh h) = some (passF wd gp ti sh h) ∧
    mg (bounF wd gp ti sh h) ≤ W 0 ∧ mg (passF wd gp ti sh h) ≤ W 1 := by
  have hb := blkF_le hw hg ti h0 h1
  have ho := (open_step hw hg ti (h := 1) (by omega) (by omega)).2
  have ho' := (open_step hw hg ti h0 h1).2
  have small : ∀ x, x ≤ W 0 → mg x ≤ W 0 := fun x hx => by rw [mg_small (Nat.lt_of_le_of_lt hx W0_lt)]; exact hx
  obtain ⟨a, a1, a2⟩ := prod_W (a := 0) (b := 0) (by omega) (small _ hb) hs.1
  obtain ⟨b, b1, b2⟩ := prod_W (a := 0) (b := 0) (by omega) a2 (small _ ho)
  obtain ⟨c, c1, c2, c3⟩ := quot_le (x := b) (y := 1073741824) (Nat.lt_of_le_of_lt b2 W0_lt) (by decide) (by decide)
  have e1 : mulv (blkF wd gp ti h) sh = a := by unfold mulv; rw [a1]; rfl
  have e2 : mulv a (openF wd gp ti 1) = b := by unfold mulv; rw [b1]; rfl
  have e3 : bounF wd gp ti sh h = c := by unfold bounF divv; rw [e1, e2, c1]; rfl
  obtain ⟨d, d1, d2⟩ := sum_W (a := 0) (b := 0) (by omega) (by omega) (small _ ho') (Nat.le_trans c2 b2)
  have e4 : passF wd gp ti sh h = d := by unfold passF addv; rw [e3, d1]; rfl
  rw [e1, e2, e3, e4]
  exact ⟨a1, b1, c1, d1, Nat.le_trans c2 b2, d2⟩
theorem win_step {wd gp : Nat} (hw : Len wd) (hg : Len gp) (ti : Int) {sh : Nat} (hs : Part sh) (v t facing : Int) (h0 : 1 ≤ v) (h1 : v ≤ 64) :
    fmul (fallF v t facing) (passF wd gp ti sh v) = some (mulv (fallF v t facing) (passF wd gp ti sh v)) ∧ mg (mulv (fallF v t facing) (passF wd gp ti sh v)) ≤ W 1 := by
  have hf := fallF_le v t facing
  obtain ⟨r, h2, h3⟩ := prod_W (a := 0) (b := 1) (by omega) (by rw [mg_small (Nat.lt_of_le_of_lt hf W0_lt)]; exact hf) (pass_steps hw hg ti hs h0 h1).2.2.2.2.2
  unfold mulv; rw [h2]; exact ⟨rfl, h3⟩
end Go.Proofs.Ytbelopcfmjgfiaa
