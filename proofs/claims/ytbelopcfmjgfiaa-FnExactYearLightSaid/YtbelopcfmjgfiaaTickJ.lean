/- Contracts: a tick, whole (impl's, spec's), and that it keeps a state valid. No condition. -/
import Derived.Test.YtbelopcfmjgfiaaTickB1
import Derived.Test.YtbelopcfmjgfiaaTickB2
namespace Go.Proofs.Ytbelopcfmjgfiaa
open Go Go.RowKit
/-- A state that is valid. -/
structure StOk (s : St) : Prop where
  t0 : -64 ≤ s.ti
  t1 : s.ti ≤ 64
  w0 : 0 ≤ s.wa
  w1 : s.wa ≤ 20
  s0 : 0 ≤ s.sm
  s1 : s.sm ≤ 20
def St.v (s : St) : Value := .agg #[.int .i16 s.ti, .int .i8 s.wa, .int .i8 s.sm]
/-- What all ticks need of a control and of a blind. -/
structure RunOk (lo hi wi : Nat) (st de ca : Int) (wd gp sh : Nat) : Prop where
  st0 : 1 ≤ st
  st1 : st ≤ 64
  de0 : 0 ≤ de
  de1 : de ≤ 20
  ca0 : 1 ≤ ca
  ca1 : ca ≤ 20
  hw : Len wd
  hg : Len gp
  hs : Part sh
theorem storm_nonneg {wi : Nat} {ca : Int} (hc : 1 ≤ ca) (hc1 : ca ≤ 20) (gu : Nat) {sm : Int} (h : 0 ≤ sm) (h1 : sm ≤ 20) : 0 ≤ stormF wi ca gu sm ∧ stormF wi ca gu sm ≤ 20 := by
  unfold stormF; split <;> (try split) <;> omega
theorem tilt_range (lo hi : Nat) {st ti : Int} (i : Nat) (h0 : 1 ≤ st) (ht0 : -64 ≤ ti) (ht1 : ti ≤ 64) : -64 ≤ tiltF lo hi st ti i ∧ tiltF lo hi st ti i ≤ 64 := by
  unfold tiltF; split <;> (try split) <;> omega
theorem tick_ok {lo hi wi : Nat} {st de ca : Int} {wd gp sh : Nat} (R : RunOk lo hi wi st de ca wd gp sh) {s : St} (S : StOk s) (li gu : Nat) (he : Int) :
    StOk (tickF lo hi wi st de ca wd gp sh s li gu he) := by
  obtain ⟨t0, t1, w0, w1, s0, s1⟩ := S
  obtain ⟨a0, a1⟩ := storm_nonneg (wi := wi) R.ca0 R.ca1 gu s0 s1
  obtain ⟨b0, b1⟩ := tilt_range lo hi (insideF wd gp sh s.ti li he) R.st0 t0 t1
  have := R.de0; have := R.de1
  unfold tickF
  split
  · exact ⟨t0, t1, w0, w1, a0, a1⟩
  · split
    · exact ⟨t0, t1, by show 0 ≤ s.wa - 1; omega, by show s.wa - 1 ≤ 20; omega, a0, a1⟩
    · split
      · exact ⟨t0, t1, w0, w1, a0, a1⟩
      · exact ⟨b0, b1, R.de0, R.de1, a0, a1⟩

set_option maxHeartbeats 1000000 in
theorem tick_any {b o : Nat} {lo hi wi : Nat} {st de ca : Int} (sl : Int) {wd gp : Nat} (ti : Int) {sh : Nat} (R : RunOk lo hi wi st de ca wd gp sh) {s : St} (S : StOk s) {li gu : Nat} {he : Int} (hl : Part li) (hh0 : 1 ≤ he) (hh1 : he ≤ 64) 
    (w : World) (hC : ControlAt w b o lo hi wi st de ca) :
    Calls Try.prog 108 #[.pointer (some ⟨b, o, none⟩), .agg #[.int .i8 sl, .float .f32 wd, .float .f32 gp, .int .i16 ti, .float .f32 sh], s.v, .agg #[.float .f32 li, .float .f32 gu, .int .i8 he]] w fun e w' =>
      e = .returned (.tuple #[(tickF lo hi wi st de ca wd gp sh s li gu he).v, .float .f32 (lightF wi ca wd gp sh s li gu he), .bool (upF wi ca s gu)]) ∧ ∃ x, w' = ext w x := by
  obtain ⟨ti', wa, sm⟩ := s
  obtain ⟨t0, t1, w0, w1, s0, s1⟩ := S
  obtain ⟨st0, st1, de0, de1, ca0, ca1, hw, hg, hs⟩ := R
  dsimp only at t0 t1 w0 w1 s0 s1
  unfold St.v
  cases hgu : fgt gu wi with
  | true =>
    have e : stormF wi ca gu sm = ca := by unfold stormF; rw [if_pos hgu]
    have e1 : 0 < ca := by omega
    simp only [tickF, lightF, e, e1, if_pos, upF, decide_true]
    exact tick_A1 b o lo hi wi st de ca sl wd gp ti sh sm wa ti' li gu he (hgu := hgu) (hca := e1) (hC := hC)  w
  | false =>
    by_cases h0 : 1 < sm
    · have e : stormF wi ca gu sm = sm - 1 := by unfold stormF; rw [if_neg (by rw [hgu]; decide), if_pos (by omega)]
      have e1 : 0 < sm - 1 := by omega
      simp only [tickF, lightF, e, e1, if_pos, upF, decide_true]
      exact tick_A2 b o lo hi wi st de ca sl wd gp ti sh sm wa ti' li gu he (hgu := hgu) (h0 := h0) (h1 := s1) (hC := hC)  w
    · have e : stormF wi ca gu sm = 0 := by
        unfold stormF; rw [if_neg (by rw [hgu]; decide)]; split <;> omega
      simp only [tickF, lightF, e, Int.lt_irrefl, if_neg, not_false_eq_true, upF, decide_false]
      have hsm : sm = 0 ∨ sm = 1 := by omega
      by_cases hwa : 0 < wa
      · simp only [hwa, if_pos]
        rcases hsm with rfl | rfl
        · exact tick_B2W b o lo hi wi st de ca sl wd gp ti sh wa ti' li gu he (hgu := hgu) (hw := hw) (hg := hg) (hs := hs) (hl := hl) (hh0 := hh0) (hh1 := hh1) (ht0 := t0) (ht1 := t1) (hst0 := st0) (hst1 := st1) (hwa := hwa) (hwb := w1) (hC := hC)  w
        · exact tick_B1W b o lo hi wi st de ca sl wd gp ti sh wa ti' li gu he (hgu := hgu) (hw := hw) (hg := hg) (hs := hs) (hl := hl) (hh0 := hh0) (hh1 := hh1) (ht0 := t0) (ht1 := t1) (hst0 := st0) (hst1 := st1) (hwa := hwa) (hwb := w1) (hC := hC)  w
      · have hwa0 : wa = 0 := by omega
        subst hwa0
        simp only [Int.lt_irrefl, if_neg, not_false_eq_true]
        cases h1 : fgt (insideF wd gp sh ti' li he) hi with
        | true =>
          by_cases hx : ti' + st ≤ 64
          · have e2 : tiltF lo hi st ti' (insideF wd gp sh ti' li he) = ti' + st := by unfold tiltF; rw [if_pos h1]; omega
            have e3 : ¬ ti' + st = ti' := by omega
            simp only [e2, e3, if_neg, not_false_eq_true]
            rcases hsm with rfl | rfl
            · exact tick_B2Ga b o lo hi wi st de ca sl wd gp ti sh ti' li gu he (hgu := hgu) (hw := hw) (hg := hg) (hs := hs) (hl := hl) (hh0 := hh0) (hh1 := hh1) (ht0 := t0) (ht1 := t1) (hst0 := st0) (hst1 := st1) (hn1 := h1) (hx := hx) (hC := hC)  w
            · exact tick_B1Ga b o lo hi wi st de ca sl wd gp ti sh ti' li gu he (hgu := hgu) (hw := hw) (hg := hg) (hs := hs) (hl := hl) (hh0 := hh0) (hh1 := hh1) (ht0 := t0) (ht1 := t1) (hst0 := st0) (hst1 := st1) (hn1 := h1) (hx := hx) (hC := hC)  w
          · have e2 : tiltF lo hi st ti' (insideF wd gp sh ti' li he) = 64 := by unfold tiltF; rw [if_pos h1]; omega
            simp only [e2]
            by_cases hy : ti' = 64
            · subst hy
              rw [if_pos rfl]
              rcases hsm with rfl | rfl
              · exact tick_B2Gc b o lo hi wi st de ca sl wd gp ti sh  li gu he (hgu := hgu) (hw := hw) (hg := hg) (hs := hs) (hl := hl) (hh0 := hh0) (hh1 := hh1) (ht0 := t0) (ht1 := t1) (hst0 := st0) (hst1 := st1) (hn1 := h1) (hC := hC)  w
              · exact tick_B1Gc b o lo hi wi st de ca sl wd gp ti sh  li gu he (hgu := hgu) (hw := hw) (hg := hg) (hs := hs) (hl := hl) (hh0 := hh0) (hh1 := hh1) (ht0 := t0) (ht1 := t1) (hst0 := st0) (hst1 := st1) (hn1 := h1) (hC := hC)  w
            · rw [if_neg (fun h => hy h.symm)]
              rcases hsm with rfl | rfl
              · exact tick_B2Gb b o lo hi wi st de ca sl wd gp ti sh ti' li gu he (hgu := hgu) (hw := hw) (hg := hg) (hs := hs) (hl := hl) (hh0 := hh0) (hh1 := hh1) (ht0 := t0) (ht1 := t1) (hst0 := st0) (hst1 := st1) (hn1 := h1) (hx := by omega) (hy := by omega) (hC := hC)  w
              · exact tick_B1Gb b o lo hi wi st de ca sl wd gp ti sh ti' li gu he (hgu := hgu) (hw := hw) (hg := hg) (hs := hs) (hl := hl) (hh0 := hh0) (hh1 := hh1) (ht0 := t0) (ht1 := t1) (hst0 := st0) (hst1 := st1) (hn1 := h1) (hx := by omega) (hy := by omega) (hC := hC)  w
        | false =>
          have n1 : ¬ fgt (insideF wd gp sh ti' li he) hi = true := by rw [h1]; decide
          cases h2 : flt (insideF wd gp sh ti' li he) lo with
          | false =>
            have n2 : ¬ flt (insideF wd gp sh ti' li he) lo = true := by rw [h2]; decide
            have e2 : tiltF lo hi st ti' (insideF wd gp sh ti' li he) = ti' := by unfold tiltF; rw [if_neg n1, if_neg n2]
            simp only [e2]
            rcases hsm with rfl | rfl
            · exact tick_B2N b o lo hi wi st de ca sl wd gp ti sh ti' li gu he (hgu := hgu) (hw := hw) (hg := hg) (hs := hs) (hl := hl) (hh0 := hh0) (hh1 := hh1) (ht0 := t0) (ht1 := t1) (hst0 := st0) (hst1 := st1) (hn1 := h1) (hn2 := h2) (hC := hC)  w
            · exact tick_B1N b o lo hi wi st de ca sl wd gp ti sh ti' li gu he (hgu := hgu) (hw := hw) (hg := hg) (hs := hs) (hl := hl) (hh0 := hh0) (hh1 := hh1) (ht0 := t0) (ht1 := t1) (hst0 := st0) (hst1 := st1) (hn1 := h1) (hn2 := h2) (hC := hC)  w
          | true =>
            by_cases hx : -64 ≤ ti' - st
            · have e2 : tiltF lo hi st ti' (insideF wd gp sh ti' li he) = ti' - st := by unfold tiltF; rw [if_neg n1, if_pos h2]; omega
              have e3 : ¬ ti' - st = ti' := by omega
              simp only [e2, e3, if_neg, not_false_eq_true]
              rcases hsm with rfl | rfl
              · exact tick_B2La b o lo hi wi st de ca sl wd gp ti sh ti' li gu he (hgu := hgu) (hw := hw) (hg := hg) (hs := hs) (hl := hl) (hh0 := hh0) (hh1 := hh1) (ht0 := t0) (ht1 := t1) (hst0 := st0) (hst1 := st1) (hn1 := h1) (hn2 := h2) (hx := hx) (hC := hC)  w
              · exact tick_B1La b o lo hi wi st de ca sl wd gp ti sh ti' li gu he (hgu := hgu) (hw := hw) (hg := hg) (hs := hs) (hl := hl) (hh0 := hh0) (hh1 := hh1) (ht0 := t0) (ht1 := t1) (hst0 := st0) (hst1 := st1) (hn1 := h1) (hn2 := h2) (hx := hx) (hC := hC)  w
            · have e2 : tiltF lo hi st ti' (insideF wd gp sh ti' li he) = -64 := by unfold tiltF; rw [if_neg n1, if_pos h2]; omega
              simp only [e2]
              by_cases hy : ti' = -64
              · subst hy
                rw [if_pos rfl]
                rcases hsm with rfl | rfl
                · exact tick_B2Lc b o lo hi wi st de ca sl wd gp ti sh  li gu he (hgu := hgu) (hw := hw) (hg := hg) (hs := hs) (hl := hl) (hh0 := hh0) (hh1 := hh1) (ht0 := t0) (ht1 := t1) (hst0 := st0) (hst1 := st1) (hn1 := h1) (hn2 := h2) (hC := hC)  w
                · exact tick_B1Lc b o lo hi wi st de ca sl wd gp ti sh  li gu he (hgu := hgu) (hw := hw) (hg := hg) (hs := hs) (hl := hl) (hh0 := hh0) (hh1 := hh1) (ht0 := t0) (ht1 := t1) (hst0 := st0) (hst1 := st1) (hn1 := h1) (hn2 := h2) (hC := hC)  w
              · rw [if_neg (fun h => hy h.symm)]
                rcases hsm with rfl | rfl
                · exact tick_B2Lb b o lo hi wi st de ca sl wd gp ti sh ti' li gu he (hgu := hgu) (hw := hw) (hg := hg) (hs := hs) (hl := hl) (hh0 := hh0) (hh1 := hh1) (ht0 := t0) (ht1 := t1) (hst0 := st0) (hst1 := st1) (hn1 := h1) (hn2 := h2) (hx := by omega) (hy := by omega) (hC := hC)  w
                · exact tick_B1Lb b o lo hi wi st de ca sl wd gp ti sh ti' li gu he (hgu := hgu) (hw := hw) (hg := hg) (hs := hs) (hl := hl) (hh0 := hh0) (hh1 := hh1) (ht0 := t0) (ht1 := t1) (hst0 := st0) (hst1 := st1) (hn1 := h1) (hn2 := h2) (hx := by omega) (hy := by omega) (hC := hC)  w
end Go.Proofs.Ytbelopcfmjgfiaa
