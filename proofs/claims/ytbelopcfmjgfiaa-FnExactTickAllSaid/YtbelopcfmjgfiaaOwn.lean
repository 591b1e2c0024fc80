/- Slices that a call has made, by their own blocks. No condition. -/
import Derived.Test.YtbelopcfmjgfiaaRun
import Derived.Laws.AppendOwn
namespace Go.Proofs.Ytbelopcfmjgfiaa
open Go Go.RowKit
/-! ### what a call has made -/
/-- The slice A of n elements (one cell each) lies in a block of its own from B on; its first kk elements are f 0, f 1, .. -/
def OwnK (w : World) (B : Nat) (A : Option Addr) (n : Nat) (t : TypeId) (kk : Nat) (f : Nat → Value) : Prop :=
  n = 0 ∨ ∃ g cur, B ≤ g ∧ A = some ⟨g, 0, none⟩ ∧ w.heap[g]? = some (.cells cur t (0, 0)) ∧ n ≤ cur.size ∧ ∀ j, j < kk → cur[j]? = some (f j)
def Own (w : World) (B : Nat) (A : Option Addr) (n : Nat) (t : TypeId) (f : Nat → Value) : Prop := OwnK w B A n t n f
/-- The block that a slice's address names. -/
def blk (A : Option Addr) (j : Nat) : Prop := ∃ o, A = some ⟨j, o, none⟩
section
variable {w w' : World} {B n kk : Nat} {A : Option Addr} {t : TypeId} {f : Nat → Value}
theorem Own.start (h : Own w B A n t f) (f' : Nat → Value) : OwnK w B A n t 0 f' := by
  rcases h with h | ⟨g, cur, h1, h2, h3, h4, h5⟩
  · exact .inl h
  · exact .inr ⟨g, cur, h1, h2, h3, h4, fun j hj => absurd hj (Nat.not_lt_zero _)⟩
theorem OwnK.at (h : OwnK w B A n t kk f) (hk : kk < n) : ∃ g, A = some ⟨g, 0, none⟩ ∧ B ≤ g ∧ g < w.heap.size ∧ (∃ y, w.cell? ⟨g, kk, none⟩ = some y) ∧ w.frozen? ⟨g, kk, none⟩ = false ∧ OwnK (w.setCell ⟨g, kk, none⟩ (f kk)) B A n t (kk + 1) f := by
  rcases h with h | ⟨g, cur, h1, h2, h3, h4, h5⟩
  · omega
  · have hlt : g < w.heap.size := by
      rcases Nat.lt_or_ge g w.heap.size with h6 | h6
      · exact h6
      · rw [Array.getElem?_eq_none h6] at h3; cases h3
    refine ⟨g, h2, h1, hlt, ⟨cur[kk]'(by omega), ?_⟩, frozen_of_row _ _ _ _ _ h3, .inr ⟨g, cur.setIfInBounds kk (f kk), h1, h2, ?_, by simpa using h4, fun j hj => ?_⟩⟩
    · rw [cell_of_row w g kk cur t (0, 0) h3]; exact Array.getElem?_eq_getElem (by omega)
    · simp [World.setCell, Array.getElem?_modify, h3]
    · rcases Nat.lt_succ_iff_lt_or_eq.1 hj with h6 | h6
      · rw [Array.getElem?_setIfInBounds_ne (by omega)]; exact h5 j h6
      · subst h6; rw [Array.getElem?_setIfInBounds_self_of_lt (by omega)]
theorem Own.rd (h : Own w B A n t f) : Rd w A n f := by
  intro k hk
  rcases h with h | ⟨g, cur, h1, h2, h3, h4, h5⟩
  · omega
  · refine ⟨g, 0, h2, ?_⟩
    rw [cell_of_row w g (0 + k) cur t (0, 0) h3, Nat.zero_add]; exact h5 k hk
theorem Own.block (h : Own w B A n t f) (hs : ∀ j, j < w.heap.size → blk A j → w'.heap[j]? = w.heap[j]?) : Own w' B A n t f := by
  rcases h with h | ⟨g, cur, h1, h2, h3, h4, h5⟩
  · exact .inl h
  · have hlt : g < w.heap.size := by
      rcases Nat.lt_or_ge g w.heap.size with h6 | h6
      · exact h6
      · rw [Array.getElem?_eq_none h6] at h3; cases h3
    exact .inr ⟨g, cur, h1, h2, (hs g hlt ⟨0, h2⟩).trans h3, h4, h5⟩
theorem Own.below (h : Own w B A n t f) (hb : Below w.heap.size w w') : Own w' B A n t f := h.block fun j hj _ => hb.block j hj
theorem Own.lower (h : Own w B A n t f) {B' : Nat} (hb : B' ≤ B) : Own w B' A n t f := by
  rcases h with h | ⟨g, cur, h1, h2⟩
  · exact .inl h
  · exact .inr ⟨g, cur, by omega, h2⟩
theorem Own.ge (h : Own w B A n t f) (hn : 0 < n) {j : Nat} (hj : blk A j) : B ≤ j := by
  obtain ⟨o, ho⟩ := hj
  rcases h with h | ⟨g, cur, h1, h2, _⟩
  · omega
  · rw [ho] at h2; injection h2 with h2; injection h2 with h2; omega
theorem Own.lt (h : Own w B A n t f) (hn : 0 < n) {j : Nat} (hj : blk A j) : j < w.heap.size := by
  obtain ⟨o, ho⟩ := hj
  rcases h with h | ⟨g, cur, h1, h2, h3, _⟩
  · omega
  · rw [ho] at h2; injection h2 with h2; injection h2 with h2; subst h2
    rcases Nat.lt_or_ge j w.heap.size with h6 | h6
    · exact h6
    · rw [Array.getElem?_eq_none h6] at h3; cases h3
theorem Own.congr (h : Own w B A n t f) {f' : Nat → Value} (he : ∀ k, k < n → f k = f' k) : Own w B A n t f' := by
  rcases h with h | ⟨g, cur, h1, h2, h3, h4, h5⟩
  · exact .inl h
  · exact .inr ⟨g, cur, h1, h2, h3, h4, fun j hj => by rw [h5 j hj, he j hj]⟩
theorem Own.of_row {base : Nat} {v : Value} {xs : List Value} (h : w.ownsRow base t 1 v n xs) (hf : ∀ k, k < n → xs[k]? = some (f k)) : ∃ A c, v = .slice A n c ∧ Own w base A n t f := by
  rcases h.2 with ⟨e1, e2⟩ | ⟨g, cap, cur, hv, hb, hg, h1, h2, h3, h4⟩
  · subst e2; exact ⟨none, 0, e1, .inl rfl⟩
  · refine ⟨_, cap, hv, .inr ⟨g, cur, hb, rfl, hg, by omega, fun j hj => ?_⟩⟩
    have h5 := hf j hj
    rw [← h4, Nat.mul_one, List.getElem?_take_of_lt hj] at h5
    simpa using h5
theorem apart_refl (X : Nat → Prop) (w : World) : Apart X w w := ⟨rfl, rfl, rfl, Nat.le_refl _, fun _ _ _ => rfl⟩
theorem Apart.trans {X : Nat → Prop} {a b c : World} (h : Apart X a b) (k : Apart X b c) : Apart X a c :=
  ⟨k.os.trans h.os, k.tape.trans h.tape, k.output.trans h.output, Nat.le_trans h.size k.size, fun i hi hx => (k.block i (Nat.lt_of_lt_of_le hi h.size) hx).trans (h.block i hi hx)⟩
theorem Apart.set {X : Nat → Prop} {a b : World} (h : Apart X a b) {p : Addr} (hp : X p.block) (v : Value) : Apart X a (b.setCell p v) :=
  ⟨h.os, h.tape, h.output, by simpa [World.setCell] using h.size, fun i hi hx => by
    have hne : ¬ p.block = i := fun e => hx (e ▸ hp)
    simp only [World.setCell, Array.getElem?_modify, if_neg hne]
    exact h.block i hi hx⟩
theorem apart_alloc {X : Nat → Prop} {a b : World} (h : Apart X a b) (o : Obj) : Apart X a (b.alloc o) :=
  ⟨h.os, h.tape, h.output, Nat.le_trans h.size (by simp), fun i hi hx => (Below.heap_alloc b o i (Nat.lt_of_lt_of_le hi h.size)).trans (h.block i hi hx)⟩
theorem apart_drew {X : Nat → Prop} {a b : World} (h : Apart X a b) : Apart X a b.drew := ⟨h.os, h.tape, h.output, h.size, h.block⟩
theorem Apart.mono {X Y : Nat → Prop} {a b : World} (h : Apart X a b) (hx : ∀ j, X j → Y j) : Apart Y a b :=
  ⟨h.os, h.tape, h.output, h.size, fun i hi hy => h.block i hi (fun hX => hy (hx i hX))⟩
theorem Apart.of_below {X : Nat → Prop} {a b : World} (h : Below a.heap.size a b) : Apart X a b := ⟨h.os, h.tape, h.output, h.size, fun i hi _ => h.block i hi⟩
/-- A change of new blocks alone. -/
theorem below_apart {X : Nat → Prop} {b : World} (h : Below w.heap.size w w') (k : Apart X w' b) (hX : ∀ j, X j → w.heap.size ≤ j) : Below w.heap.size w b := Apart.to_below h k hX
end
theorem RdT.block {w w' : World} {A : Option Addr} {n : Nat} {T : Nat → Tk} (h : RdT w A n T) (hs : ∀ j, j < w.heap.size → blk A j → w'.heap[j]? = w.heap[j]?) : RdT w' A n T := fun k hk => by
  obtain ⟨b, o, e, hc⟩ := h k hk
  exact ⟨b, o, e, hc.block (hs b hc.lt ⟨o, e⟩)⟩
end Go.Proofs.Ytbelopcfmjgfiaa
