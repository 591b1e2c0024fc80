/- Plain functions of days and years: sums in single precision, which are never less than 0; the first of the greatest. No condition. -/
import Derived.Test.YtbelopcfmjgfiaaSunPure
import Derived.Test.YtbelopcfmjgfiaaValidPure
namespace Go.Proofs.Ytbelopcfmjgfiaa
open Go
/-- At least 0 (-0 too). -/
def NN (x : Nat) : Prop := sg x = true → mg x = 0
theorem V0 : V 0 = 0 := by decide
theorem nn_small {x : Nat} (h : x < Inf) : NN x := fun hs => by rw [sg_small h] at hs; cases hs
theorem nn_SV {x : Nat} (h : NN x) : 0 ≤ SV x := by
  unfold SV; split
  · rename_i hs; rw [h hs, V0]; decide
  · omega
theorem nn_word {s : Bool} {r : Nat} (hr : r ≤ Inf) (h : s = true → r = 0) : NN (Ieee.single.word s r) := fun hs => by
  rw [sg_word hr] at hs; rw [mg_word hr]; exact h hs
theorem nn_mul {x y r : Nat} (hx : mg x < Inf) (hy : mg y < Inf) (nx : NN x) (ny : NN y) (h : fmul x y = some r) : NN r := by
  obtain ⟨M, Q, h1, h2, _⟩ := prod_eq hx hy
  rw [h] at h1; injection h1 with h1; subst h1
  refine nn_word (rung_inf _ _ _) fun hs => ?_
  have hz : V (mg x) * V (mg y) = 0 := by
    cases h3 : sg x with
    | true => rw [nx h3, V0, Nat.zero_mul]
    | false =>
      cases h4 : sg y with
      | true => rw [ny h4, V0, Nat.mul_zero]
      | false => rw [h3, h4] at hs; cases hs
  have := rung_le (sg x ^^ sg y) (w := 0) (h2 0 (by rw [hz]; exact Nat.zero_le _))
  omega
theorem nn_add {x y r : Nat} (hx : mg x < Inf) (hy : mg y < Inf) (nx : NN x) (ny : NN y) (h : fadd x y = some r) : NN r := by
  obtain ⟨M, Q, sn, h1, h2, h3, h4, h5⟩ := sum_eq hx hy
  rw [h] at h1; injection h1 with h1; subst h1
  have := nn_SV nx; have := nn_SV ny
  refine nn_word (rung_inf _ _ _) fun hs => ?_
  have hz : SV x + SV y = 0 := by
    rcases Int.lt_trichotomy (SV x + SV y) 0 with h6 | h6 | h6
    · omega
    · exact h6
    · rw [h4 h6] at hs; cases hs
  rw [hz] at h2
  have hle : rung sn M Q ≤ 0 := rung_le sn (Le_nat.2 (by rw [h2]; exact Nat.zero_le _))
  omega
theorem nn_quot {x y r : Nat} (hx : mg x < Inf) (hy : y < Inf) (hy1 : W 0 ≤ y) (nx : NN x) (h : fdiv x y = some r) : NN r := by
  obtain ⟨q, h1, h2, h3⟩ := quot_le hx hy hy1
  rw [h] at h1; injection h1 with h1; subst h1
  intro hs
  rw [h3] at hs
  have := nx hs; omega
theorem nn_fall (v t fc : Int) : NN (fallF v t fc) := nn_small (Nat.lt_of_le_of_lt (fallF_le v t fc) W0_lt)
theorem nn_part {x : Nat} (h : Part x) : NN x := h.2
theorem nn_pass {wd gp : Nat} (hw : Len wd) (hg : Len gp) (ti : Int) {sh : Nat} (hs : Part sh) {h : Int} (h0 : 1 ≤ h) (h1 : h ≤ 64) : NN (passF wd gp ti sh h) := by
  obtain ⟨a1, a2, a3, a4, a5, a6⟩ := pass_steps hw hg ti hs h0 h1
  have hb := blkF_le hw hg ti h0 h1
  have ho := (open_step hw hg ti (h := 1) (by omega) (by omega)).2
  have ho' := (open_step hw hg ti h0 h1).2
  have small : ∀ x, x ≤ W 0 → mg x < Inf := fun x hx => by rw [mg_small (Nat.lt_of_le_of_lt hx W0_lt)]; exact Nat.lt_of_le_of_lt hx W0_lt
  have n1 := nn_mul (small _ hb) (Nat.lt_of_le_of_lt hs.1 W0_lt) (nn_small (Nat.lt_of_le_of_lt hb W0_lt)) (nn_part hs) a1
  obtain ⟨r, r1, r2⟩ := prod_W (a := 0) (b := 0) (by omega) (show mg (blkF wd gp ti h) ≤ W 0 by rw [mg_small (Nat.lt_of_le_of_lt hb W0_lt)]; exact hb) hs.1
  rw [a1] at r1; injection r1 with r1; rw [← r1] at r2
  have n2 := nn_mul (Nat.lt_of_le_of_lt r2 W0_lt) (small _ ho) n1 (nn_small (Nat.lt_of_le_of_lt ho W0_lt)) a2
  obtain ⟨q, q1, q2⟩ := prod_W (a := 0) (b := 0) (by omega) r2 (show mg (openF wd gp ti 1) ≤ W 0 by rw [mg_small (Nat.lt_of_le_of_lt ho W0_lt)]; exact ho)
  rw [a2] at q1; injection q1 with q1; rw [← q1] at q2
  have n3 := nn_quot (Nat.lt_of_le_of_lt q2 W0_lt) (by decide) (by decide) n2 a3
  exact nn_add (small _ ho') (Nat.lt_of_le_of_lt a5 W0_lt) (nn_small (Nat.lt_of_le_of_lt ho' W0_lt)) n3 a4
/-- What passes in an hour: finite, at least 0. -/
theorem win_facts {wd gp : Nat} (hw : Len wd) (hg : Len gp) (ti : Int) {sh : Nat} (hs : Part sh) (v t fc : Int) (h1 : v ≤ 64) : mg (winF wd gp ti sh v t fc) ≤ W 1 ∧ NN (winF wd gp ti sh v t fc) := by
  unfold winF
  split
  · exact ⟨Nat.zero_le _, nn_small (by rw [Inf_eq]; omega)⟩
  · obtain ⟨e1, e2⟩ := win_step hw hg ti hs v t fc (by omega) h1
    refine ⟨e2, nn_mul ?_ ?_ (nn_fall v t fc) (nn_pass hw hg ti hs (by omega) h1) e1⟩
    · have h := fallF_le v t fc
      rw [mg_small (Nat.lt_of_le_of_lt h W0_lt)]; exact Nat.lt_of_le_of_lt h W0_lt
    · exact lt_Inf (by omega) (pass_steps hw hg ti hs (show 1 ≤ v by omega) h1).2.2.2.2.2
/-- A sum, from 0 on. -/
def sumF (g : Nat → Nat) : Nat → Nat
  | 0 => 0
  | k + 1 => addv (sumF g k) (g k)
theorem sumF_bound {g : Nat → Nat} {a n : Nat} (hn : a + n ≤ 120) (hg : ∀ k, k < n → mg (g k) ≤ W a) : ∀ k, k ≤ n → mg (sumF g k) ≤ W (a + k)
  | 0, _ => by show mg 0 ≤ _; rw [show mg 0 = 0 by decide]; exact Nat.zero_le _
  | k + 1, h => by
    obtain ⟨r, h1, h2⟩ := sum_W (a := a + k) (b := a) (by omega) (by omega) (sumF_bound hn hg k (by omega)) (hg k (by omega))
    show mg (addv _ _) ≤ _
    unfold addv
    rw [h1, Option.getD_some, ← Nat.add_assoc]
    rw [Nat.max_eq_left (by omega)] at h2
    exact h2
theorem sumF_step {g : Nat → Nat} {a n : Nat} (hn : a + n ≤ 120) (hg : ∀ k, k < n → mg (g k) ≤ W a) {k : Nat} (hk : k < n) : fadd (sumF g k) (g k) = some (sumF g (k + 1)) := by
  obtain ⟨r, h1, _⟩ := sum_W (a := a + k) (b := a) (by omega) (by omega) (sumF_bound hn hg k (by omega)) (hg k hk)
  show _ = some (addv _ _)
  unfold addv
  rw [h1]; rfl
theorem sumF_nn {g : Nat → Nat} {a n : Nat} (hn : a + n ≤ 120) (hg : ∀ k, k < n → mg (g k) ≤ W a) (hp : ∀ k, k < n → NN (g k)) : ∀ k, k ≤ n → NN (sumF g k)
  | 0, _ => nn_small (by show 0 < Inf; rw [Inf_eq]; omega)
  | k + 1, h => nn_add (lt_Inf (by omega) (sumF_bound hn hg k (by omega))) (lt_Inf (by omega) (hg k (by omega))) (sumF_nn hn hg hp k (by omega)) (hp k (by omega)) (sumF_step hn hg (by omega))
/-- What passes in a day; the hours' heights are f 0, f 1, .., their turns f 24, f 25, .. -/
def dayG (f : Nat → Int) (wd gp : Nat) (ti : Int) (sh : Nat) (fc : Int) (k : Nat) : Nat := winF wd gp ti sh (f k) (f (24 + k)) fc
def dayF (f : Nat → Int) (wd gp : Nat) (ti : Int) (sh : Nat) (fc : Int) : Nat := sumF (dayG f wd gp ti sh fc) 24
/-- What passes in a year. -/
def yearF (S : Nat → Nat → Int) (n : Nat) (wd gp : Nat) (ti : Int) (sh : Nat) (fc : Int) : Nat := sumF (fun i => dayF (S i) wd gp ti sh fc) n
section
variable {wd gp : Nat} (hw : Len wd) (hg : Len gp) (ti : Int) {sh : Nat} (hs : Part sh) (fc : Int)
include hw hg hs
theorem dayG_facts {f : Nat → Int} (hf : ∀ k, k < 24 → f k ≤ 64) : ∀ k, k < 24 → mg (dayG f wd gp ti sh fc k) ≤ W 1 ∧ NN (dayG f wd gp ti sh fc k) :=
  fun k hk => win_facts hw hg ti hs (f k) (f (24 + k)) fc (hf k hk)
theorem dayG_step {f : Nat → Int} (hf : ∀ k, k < 24 → f k ≤ 64) {k : Nat} (hk : k < 24) : fadd (sumF (dayG f wd gp ti sh fc) k) (dayG f wd gp ti sh fc k) = some (sumF (dayG f wd gp ti sh fc) (k + 1)) :=
  sumF_step (a := 1) (n := 24) (by omega) (fun k hk => (dayG_facts hw hg ti hs fc hf k hk).1) hk
theorem dayF_facts {f : Nat → Int} (hf : ∀ k, k < 24 → f k ≤ 64) : mg (dayF f wd gp ti sh fc) ≤ W 25 ∧ NN (dayF f wd gp ti sh fc) :=
  ⟨sumF_bound (a := 1) (n := 24) (by omega) (fun k hk => (dayG_facts hw hg ti hs fc hf k hk).1) 24 (Nat.le_refl _),
   sumF_nn (a := 1) (n := 24) (by omega) (fun k hk => (dayG_facts hw hg ti hs fc hf k hk).1) (fun k hk => (dayG_facts hw hg ti hs fc hf k hk).2) 24 (Nat.le_refl _)⟩
theorem yearF_step {S : Nat → Nat → Int} {n : Nat} (hn : n ≤ 12) (hf : ∀ i, i < n → ∀ k, k < 24 → S i k ≤ 64) {i : Nat} (hi : i < n) :
    fadd (sumF (fun i => dayF (S i) wd gp ti sh fc) i) (dayF (S i) wd gp ti sh fc) = some (sumF (fun i => dayF (S i) wd gp ti sh fc) (i + 1)) :=
  sumF_step (g := fun i => dayF (S i) wd gp ti sh fc) (a := 25) (n := n) (by omega) (fun k hk => (dayF_facts hw hg ti hs fc (hf k hk)).1) hi
theorem yearF_facts {S : Nat → Nat → Int} {n : Nat} (hn : n ≤ 12) (hf : ∀ i, i < n → ∀ k, k < 24 → S i k ≤ 64) : mg (yearF S n wd gp ti sh fc) ≤ W 37 ∧ NN (yearF S n wd gp ti sh fc) := by
  have h1 : ∀ k, k < n → mg (dayF (S k) wd gp ti sh fc) ≤ W 25 := fun k hk => (dayF_facts hw hg ti hs fc (hf k hk)).1
  have h2 : ∀ k, k < n → NN (dayF (S k) wd gp ti sh fc) := fun k hk => (dayF_facts hw hg ti hs fc (hf k hk)).2
  exact ⟨Nat.le_trans (sumF_bound (g := fun i => dayF (S i) wd gp ti sh fc) (a := 25) (n := n) (by omega) h1 n (Nat.le_refl _)) (by unfold W; omega),
    sumF_nn (g := fun i => dayF (S i) wd gp ti sh fc) (a := 25) (n := n) (by omega) h1 h2 n (Nat.le_refl _)⟩
end
/-- Greater than -1. -/
theorem nn_gt {x : Nat} (hx : mg x < Inf) (h : NN x) : fgt x 3212836864 = true := by
  have h1 : mg 3212836864 < Inf := by decide
  have h2 : SV 3212836864 < 0 := by decide +kernel
  rw [fgt_iff hx h1]
  have := nn_SV h; omega
/-- The first of the greatest among F 0, .., F k, and this. -/
def bestF (F : Nat → Nat) : Nat → Nat × Nat
  | 0 => (0, F 0)
  | k + 1 => if fgt (F (k + 1)) (bestF F k).2 = true then (k + 1, F (k + 1)) else bestF F k
theorem bestF_le (F : Nat → Nat) : ∀ k, (bestF F k).1 ≤ k
  | 0 => Nat.le_refl _
  | k + 1 => by unfold bestF; split; exact Nat.le_refl _; exact Nat.le_succ_of_le (bestF_le F k)
theorem bestF_val (F : Nat → Nat) : ∀ k, (bestF F k).2 = F (bestF F k).1
  | 0 => rfl
  | k + 1 => by unfold bestF; split; rfl; exact bestF_val F k
end Go.Proofs.Ytbelopcfmjgfiaa
