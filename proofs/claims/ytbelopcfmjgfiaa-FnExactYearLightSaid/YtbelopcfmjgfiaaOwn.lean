/- Ticks behind a change of some blocks. No condition. -/
import Derived.Test.YtbelopcfmjgfiaaOwnR
import Derived.Test.YtbelopcfmjgfiaaRun
namespace Go.Proofs.Ytbelopcfmjgfiaa
open Go Go.RowKit
theorem RdT.block {w w' : World} {A : Option Addr} {n : Nat} {T : Nat → Tk} (h : RdT w A n T) (hs : ∀ j, j < w.heap.size → blk A j → w'.heap[j]? = w.heap[j]?) : RdT w' A n T := fun k hk => by
  obtain ⟨b, o, e, hc⟩ := h k hk
  exact ⟨b, o, e, hc.block (hs b hc.lt ⟨o, e⟩)⟩
end Go.Proofs.Ytbelopcfmjgfiaa
