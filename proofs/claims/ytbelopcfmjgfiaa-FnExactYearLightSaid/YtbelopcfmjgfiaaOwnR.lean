/- Slices that a call has made, by their own blocks. No condition. -/
import Derived.Test.YtbelopcfmjgfiaaApart
import Derived.Laws.AppendOwn
import Derived.Deep.AppendLies
import Derived.Laws.OwnMore
namespace Go.Proofs.Ytbelopcfmjgfiaa
open Go Go.RowKit
/-! ### what a call has made -/
/-- The slice A of n elements (one cell each) lies in a block of its own from B on; its first kk elements are f 0, f 1, .. -/
def OwnK (w : World) (B : Nat) (A : Option Addr) (n : Nat) (t : TypeId) (kk : Nat) (f : Nat → Value) : Prop :=
  n = 0 ∨ ∃ g cur, B ≤ g ∧ A = some ⟨g, 0, none⟩ ∧ w.heap[g]? = some (.cells cur t (0, 0)) ∧ n ≤ cur.size ∧ ∀ j, j < kk → cur[j]? = some (f j)
def Own (w : World) (B : Nat) (A : Option Addr) (n : Nat) (t : TypeId) (f : Nat → Value) : Prop := OwnK w B A n t n f
/-- The block that a slice's address names. -/
def blk (A : Option Addr) (j : Nat) : Prop := ∃ o, A = some ⟨j, o, none⟩
section
variable {w w' : World} {B n kk : Nat} {A : Option Addr} {t : TypeId} {f : Nat → Value}
theorem Own.start (h : Own w B A n t f) (f' : Nat → Value) : OwnK w B A n t 0 f' := by
  rcases h with h | ⟨g, cur, h1, h2, h3, h4, h5⟩
  · exact .inl h
  · exact .inr ⟨g, cur, h1, h2, h3, h4, fun j hj => absurd hj (Nat.not_lt_zero _)⟩
theorem OwnK.at (h : OwnK w B A n t kk f) (hk : kk < n) : ∃ g, A = some ⟨g, 0, none⟩ ∧ B ≤ g ∧ g < w.heap.size ∧ (∃ y, w.cell? ⟨g, kk, none⟩ = some y) ∧ w.frozen? ⟨g, kk, none⟩ = false ∧ OwnK (w.setCell ⟨g, kk, none⟩ (f kk)) B A n t (kk + 1) f := by
  rcases h with h | ⟨g, cur, h1, h2, h3, h4, h5⟩
  · omega
  · have hlt : g < w.heap.size := by
      rcases Nat.lt_or_ge g w.heap.size with h6 | h6
      · exact h6
      · rw [Array.getElem?_eq_none h6] at h3; cases h3
    refine ⟨g, h2, h1, hlt, ⟨cur[kk]'(by omega), ?_⟩, frozen_of_row _ _ _ _ _ h3, .inr ⟨g, cur.setIfInBounds kk (f kk), h1, h2, ?_, by simpa using h4, fun j hj => ?_⟩⟩
    · rw [cell_of_row w g kk cur t (0, 0) h3]; exact Array.getElem?_eq_getElem (by omega)
    · simp [World.setCell, Array.getElem?_modify, h3]
    · rcases Nat.lt_succ_iff_lt_or_eq.1 hj with h6 | h6
      · rw [Array.getElem?_setIfInBounds_ne (by omega)]; exact h5 j h6
      · subst h6; rw [Array.getElem?_setIfInBounds_self_of_lt (by omega)]
theorem Own.rd (h : Own w B A n t f) : Rd w A n f := by
  intro k hk
  rcases h with h | ⟨g, cur, h1, h2, h3, h4, h5⟩
  · omega
  · refine ⟨g, 0, h2, ?_⟩
    rw [cell_of_row w g (0 + k) cur t (0, 0) h3, Nat.zero_add]; exact h5 k hk
theorem Own.block (h : Own w B A n t f) (hs : ∀ j, j < w.heap.size → blk A j → w'.heap[j]? = w.heap[j]?) : Own w' B A n t f := by
  rcases h with h | ⟨g, cur, h1, h2, h3, h4, h5⟩
  · exact .inl h
  · have hlt : g < w.heap.size := by
      rcases Nat.lt_or_ge g w.heap.size with h6 | h6
      · exact h6
      · rw [Array.getElem?_eq_none h6] at h3; cases h3
    exact .inr ⟨g, cur, h1, h2, (hs g hlt ⟨0, h2⟩).trans h3, h4, h5⟩
theorem Own.below (h : Own w B A n t f) (hb : Below w.heap.size w w') : Own w' B A n t f := h.block fun j hj _ => hb.block j hj
theorem Own.lower (h : Own w B A n t f) {B' : Nat} (hb : B' ≤ B) : Own w B' A n t f := by
  rcases h with h | ⟨g, cur, h1, h2⟩
  · exact .inl h
  · exact .inr ⟨g, cur, by omega, h2⟩
theorem Own.ge (h : Own w B A n t f) (hn : 0 < n) {j : Nat} (hj : blk A j) : B ≤ j := by
  obtain ⟨o, ho⟩ := hj
  rcases h with h | ⟨g, cur, h1, h2, _⟩
  · omega
  · rw [ho] at h2; injection h2 with h2; injection h2 with h2; omega
theorem Own.lt (h : Own w B A n t f) (hn : 0 < n) {j : Nat} (hj : blk A j) : j < w.heap.size := by
  obtain ⟨o, ho⟩ := hj
  rcases h with h | ⟨g, cur, h1, h2, h3, _⟩
  · omega
  · rw [ho] at h2; injection h2 with h2; injection h2 with h2; subst h2
    rcases Nat.lt_or_ge j w.heap.size with h6 | h6
    · exact h6
    · rw [Array.getElem?_eq_none h6] at h3; cases h3
theorem Own.congr (h : Own w B A n t f) {f' : Nat → Value} (he : ∀ k, k < n → f k = f' k) : Own w B A n t f' := by
  rcases h with h | ⟨g, cur, h1, h2, h3, h4, h5⟩
  · exact .inl h
  · exact .inr ⟨g, cur, h1, h2, h3, h4, fun j hj => by rw [h5 j hj, he j hj]⟩
theorem Own.of_row {base : Nat} {v : Value} {xs : List Value} (h : w.ownsRow base t 1 v n xs) (hf : ∀ k, k < n → xs[k]? = some (f k)) : ∃ A c, v = .slice A n c ∧ Own w base A n t f := by
  rcases h.2 with ⟨e1, e2⟩ | ⟨g, cap, cur, hv, hb, hg, h1, h2, h3, h4⟩
  · subst e2; exact ⟨none, 0, e1, .inl rfl⟩
  · refine ⟨_, cap, hv, .inr ⟨g, cur, hb, rfl, hg, by omega, fun j hj => ?_⟩⟩
    have h5 := hf j hj
    rw [← h4, Nat.mul_one, List.getElem?_take_of_lt hj] at h5
    simpa using h5
end
theorem size_of_block {w : World} {b : Nat} {o : Obj} (h : w.heap[b]? = some o) : b < w.heap.size := by
  rcases Nat.lt_or_ge b w.heap.size with h1 | h1
  · exact h1
  · rw [Array.getElem?_eq_none h1] at h; cases h
def owns (A : Option Addr) (j : Nat) : Prop := (Value.slice A 0 0).ownBlock = some j
theorem own_eq (A : Option Addr) (n c : Nat) : (Value.slice A n c).ownBlock = (Value.slice A 0 0).ownBlock := by cases A <;> rfl
section
variable {base n c m B : Nat} {t : TypeId} {A : Option Addr} {xs : List Value} {w w' wr : World}
theorem own_same (h : w.ownsRow base t 1 (.slice A n c) n xs) (hs : ∀ j, owns A j → w'.heap[j]? = w.heap[j]?) : w'.ownsRow base t 1 (.slice A n c) n xs := by
  refine ⟨h.1, ?_⟩
  rcases h.2 with h1 | ⟨g, cap, cur, hv, hb, hg, h2⟩
  · exact .inl h1
  · refine .inr ⟨g, cap, cur, hv, hb, (hs g ?_).trans hg, h2⟩
    unfold owns; rw [← own_eq A n c, hv]; rfl
theorem own_lt (h : wr.ownsRow B t 1 (.slice A m c) m xs) {j : Nat} (hj : owns A j) : B ≤ j ∧ j < wr.heap.size := h.lt j (by rw [own_eq]; exact hj)
theorem own_below (h : w.ownsRow base t 1 (.slice A n c) n xs) (hb : Below w.heap.size w w') : w'.ownsRow base t 1 (.slice A n c) n xs :=
  own_same h fun j hj => hb.block j (own_lt h hj).2
end
theorem own_new (W0 : World) (t : TypeId) {B : Nat} (hB : B ≤ W0.heap.size) : (W0.alloc (.cells #[] t)).ownsRow B t 1 (.slice (some ⟨W0.heap.size, 0, none⟩) 0 0) 0 [] :=
  ⟨rfl, .inr ⟨W0.heap.size, 0, #[], rfl, hB, heap_alloc_new _ _, Nat.le_refl _, Nat.zero_le _, rfl, rfl⟩⟩
end Go.Proofs.Ytbelopcfmjgfiaa
