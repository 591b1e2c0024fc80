/- A tick, as a plain function. No condition. -/
import Derived.Test.YtbelopcfmjgfiaaValidPure
namespace Go.Proofs.Ytbelopcfmjgfiaa
open Go
/-- A state: tilt, wait, storm. -/
structure St where
  ti : Int
  wa : Int
  sm : Int
/-- How long the storm lasts behind a tick. -/
def stormF (wi : Nat) (ca : Int) (gu : Nat) (sm : Int) : Int := if fgt gu wi = true then ca else if 0 < sm then sm - 1 else sm
def insideF (wd gp sh : Nat) (ti : Int) (li : Nat) (he : Int) : Nat := mulv li (passF wd gp ti sh he)
def tiltF (lo hi : Nat) (st : Int) (ti : Int) (inside : Nat) : Int := if fgt inside hi = true then min (ti + st) 64 else if flt inside lo = true then max (ti - st) (-64) else ti
/-- The state behind a tick. -/
def tickF (lo hi wi : Nat) (st de ca : Int) (wd gp sh : Nat) (s : St) (li gu : Nat) (he : Int) : St :=
  if 0 < stormF wi ca gu s.sm then ⟨s.ti, s.wa, stormF wi ca gu s.sm⟩
  else if 0 < s.wa then ⟨s.ti, s.wa - 1, stormF wi ca gu s.sm⟩
  else if tiltF lo hi st s.ti (insideF wd gp sh s.ti li he) = s.ti then ⟨s.ti, s.wa, stormF wi ca gu s.sm⟩
  else ⟨tiltF lo hi st s.ti (insideF wd gp sh s.ti li he), de, stormF wi ca gu s.sm⟩
def lightF (wi : Nat) (ca : Int) (wd gp sh : Nat) (s : St) (li gu : Nat) (he : Int) : Nat := if 0 < stormF wi ca gu s.sm then li else insideF wd gp sh s.ti li he
def upF (wi : Nat) (ca : Int) (s : St) (gu : Nat) : Bool := decide (0 < stormF wi ca gu s.sm)
theorem inside_step {wd gp sh : Nat} {ti : Int} {li : Nat} {he : Int} (hw : Len wd) (hg : Len gp) (hs : Part sh) (hl : Part li) (h0 : 1 ≤ he) (h1 : he ≤ 64) :
    fmul li (passF wd gp ti sh he) = some (insideF wd gp sh ti li he) := by
  obtain ⟨r, h2, h3⟩ := prod_W (a := 0) (b := 1) (by omega) hl.1 (pass_steps hw hg ti hs h0 h1).2.2.2.2.2
  unfold insideF mulv; rw [h2]; rfl
end Go.Proofs.Ytbelopcfmjgfiaa
