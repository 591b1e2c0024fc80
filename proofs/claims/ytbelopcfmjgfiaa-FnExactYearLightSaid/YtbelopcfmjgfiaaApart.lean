/- Worlds of which some blocks alone have changed. No condition. -/
import Derived.Test.YtbelopcfmjgfiaaBase
namespace Go.Proofs.Ytbelopcfmjgfiaa
open Go Go.RowKit
/-- All blocks of w but those of X are as they were. -/
structure Apart (X : Nat → Prop) (w w' : World) : Prop where
  os : w'.os = w.os
  tape : w'.tape = w.tape
  output : w'.output = w.output
  size : w.heap.size ≤ w'.heap.size
  block : ∀ k, k < w.heap.size → ¬ X k → w'.heap[k]? = w.heap[k]?
theorem Apart.below {X : Nat → Prop} {w a b : World} {B : Nat} (h : Below B w a) (hB : w.heap.size ≤ B) (k : Apart X a b) : Apart X w b :=
  ⟨k.os.trans h.os, k.tape.trans h.tape, k.output.trans h.output, Nat.le_trans h.size k.size, fun i hi hx => (k.block i (Nat.lt_of_lt_of_le hi h.size) hx).trans (h.block i (by omega))⟩
theorem Apart.to_below {X : Nat → Prop} {w a b : World} (h : Below w.heap.size w a) (k : Apart X a b) (hX : ∀ j, X j → w.heap.size ≤ j) : Below w.heap.size w b :=
  ⟨k.os.trans h.os, k.tape.trans h.tape, k.output.trans h.output, Nat.le_trans h.size k.size, fun i hi => (k.block i (Nat.lt_of_lt_of_le hi h.size) (fun hx => absurd (hX i hx) (by omega))).trans (h.block i hi)⟩
theorem Apart.cell {X : Nat → Prop} {w w' : World} (h : Apart X w w') {b o : Nat} (hb : b < w.heap.size) (hx : ¬ X b) : w'.cell? ⟨b, o, none⟩ = w.cell? ⟨b, o, none⟩ := by
  simp only [World.cell?, h.block b hb hx]
theorem Apart.frozen {X : Nat → Prop} {w w' : World} (h : Apart X w w') {b o : Nat} (hb : b < w.heap.size) (hx : ¬ X b) : w'.frozen? ⟨b, o, none⟩ = w.frozen? ⟨b, o, none⟩ := by
  simp only [World.frozen?, h.block b hb hx]
section
variable {w w' : World}
theorem apart_refl (X : Nat → Prop) (w : World) : Apart X w w := ⟨rfl, rfl, rfl, Nat.le_refl _, fun _ _ _ => rfl⟩
theorem Apart.trans {X : Nat → Prop} {a b c : World} (h : Apart X a b) (k : Apart X b c) : Apart X a c :=
  ⟨k.os.trans h.os, k.tape.trans h.tape, k.output.trans h.output, Nat.le_trans h.size k.size, fun i hi hx => (k.block i (Nat.lt_of_lt_of_le hi h.size) hx).trans (h.block i hi hx)⟩
theorem Apart.set {X : Nat → Prop} {a b : World} (h : Apart X a b) {p : Addr} (hp : X p.block) (v : Value) : Apart X a (b.setCell p v) :=
  ⟨h.os, h.tape, h.output, by simpa [World.setCell] using h.size, fun i hi hx => by
    have hne : ¬ p.block = i := fun e => hx (e ▸ hp)
    simp only [World.setCell, Array.getElem?_modify, if_neg hne]
    exact h.block i hi hx⟩
theorem apart_alloc {X : Nat → Prop} {a b : World} (h : Apart X a b) (o : Obj) : Apart X a (b.alloc o) :=
  ⟨h.os, h.tape, h.output, Nat.le_trans h.size (by simp), fun i hi hx => (Below.heap_alloc b o i (Nat.lt_of_lt_of_le hi h.size)).trans (h.block i hi hx)⟩
theorem apart_drew {X : Nat → Prop} {a b : World} (h : Apart X a b) : Apart X a b.drew := ⟨h.os, h.tape, h.output, h.size, h.block⟩
theorem Apart.mono {X Y : Nat → Prop} {a b : World} (h : Apart X a b) (hx : ∀ j, X j → Y j) : Apart Y a b :=
  ⟨h.os, h.tape, h.output, h.size, fun i hi hy => h.block i hi (fun hX => hy (hx i hX))⟩
theorem Apart.of_below {X : Nat → Prop} {a b : World} (h : Below a.heap.size a b) : Apart X a b := ⟨h.os, h.tape, h.output, h.size, fun i hi _ => h.block i hi⟩
/-- A change of new blocks alone. -/
theorem below_apart {X : Nat → Prop} {b : World} (h : Below w.heap.size w w') (k : Apart X w' b) (hX : ∀ j, X j → w.heap.size ≤ j) : Below w.heap.size w b := Apart.to_below h k hX
end
end Go.Proofs.Ytbelopcfmjgfiaa
