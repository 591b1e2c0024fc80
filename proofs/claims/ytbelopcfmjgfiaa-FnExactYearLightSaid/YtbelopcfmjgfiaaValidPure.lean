/- What is valid, as plain tests. No condition. -/
import Derived.Test.YtbelopcfmjgfiaaSunPure
namespace Go.Proofs.Ytbelopcfmjgfiaa
open Go
def inB (n lo hi : Int) : Bool := decide (lo ≤ n) && decide (n ≤ hi)
def lenB (x : Nat) : Bool := fge x 1031798784 && fle x 1115684864
def partB (x : Nat) : Bool := fge x 0 && fle x 1065353216
def plainB (x : Nat) : Bool := fge x 3380609024 && fle x 1233125376
def vBlind (sl : Int) (wd gp : Nat) (ti : Int) (sh : Nat) : Bool := inB sl 1 60 && (lenB wd && (lenB gp && (inB ti (-64) 64 && partB sh)))
def vControl (lo hi wi : Nat) (st de ca : Int) : Bool := partB lo && (partB hi && (partB wi && (fle lo hi && (inB st 1 64 && (inB de 0 20 && inB ca 1 20)))))
def vState (ti wa sm : Int) : Bool := inB ti (-64) 64 && (inB wa 0 20 && inB sm 0 20)
def vTick (li gu : Nat) (he : Int) : Bool := partB li && (partB gu && inB he 1 64)
theorem inB_iff {n lo hi : Int} : inB n lo hi = true ↔ lo ≤ n ∧ n ≤ hi := by unfold inB; simp
theorem len_of {x : Nat} (hx : x < 4294967296) (h : lenB x = true) : Len x := by
  unfold lenB at h
  rw [Bool.and_eq_true] at h
  have e : W 6 = 1115684864 := by decide
  have := between hx (by decide) (by decide) (by decide) h.1 h.2
  exact ⟨this.1, by rw [e]; exact this.2⟩
theorem part_of {x : Nat} (h : partB x = true) : Part x := by
  unfold partB at h
  rw [Bool.and_eq_true] at h
  have e : W 0 = 1065353216 := by decide
  have := between0 (by decide) h.1 h.2
  exact ⟨by rw [e]; exact this.1, this.2⟩
end Go.Proofs.Ytbelopcfmjgfiaa
