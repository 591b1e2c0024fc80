/- Sizes of worlds that have grown. No condition. -/
import Derived.Test.YtbelopcfmjgfiaaBase
namespace Go.Proofs.Ytbelopcfmjgfiaa
open Go Go.RowKit
section
variable {w : World} {b : Nat}
theorem le_alloc (h : b ≤ w.heap.size) (o : Obj) : b ≤ (w.alloc o).heap.size := Nat.le_trans h (by simp)
theorem le_set (h : b ≤ w.heap.size) (p : Addr) (v : Value) : b ≤ (w.setCell p v).heap.size := by simpa [World.setCell] using h
theorem le_drew (h : b ≤ w.heap.size) : b ≤ w.drew.heap.size := h
theorem le_drewN (h : b ≤ w.heap.size) (n : Nat) : b ≤ (w.drewN n).heap.size := h
end
end Go.Proofs.Ytbelopcfmjgfiaa
