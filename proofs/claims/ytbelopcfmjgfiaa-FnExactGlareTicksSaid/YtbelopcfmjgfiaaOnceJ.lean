/- Contract: a tick of spec, whole. No condition. -/
import Derived.Test.YtbelopcfmjgfiaaOnceB1
import Derived.Test.YtbelopcfmjgfiaaOnceB2
import Derived.Test.YtbelopcfmjgfiaaTickJ
namespace Go.Proofs.Ytbelopcfmjgfiaa
open Go Go.RowKit
set_option maxHeartbeats 1000000 in
theorem once_any {b o : Nat} {lo hi wi : Nat} {st de ca : Int} (sl : Int) {wd gp : Nat} (ti : Int) {sh : Nat} (R : RunOk lo hi wi st de ca wd gp sh) {s : St} (S : StOk s) {li gu : Nat} {he : Int} (hl : Part li) (hh0 : 1 ≤ he) (hh1 : he ≤ 64) {tb t_ : Nat}
    (w : World) (hC : ControlAt w b o lo hi wi st de ca)(hT : TickAt w tb t_ li gu he) :
    Calls Try.prog 57 #[.pointer (some ⟨b, o, none⟩), .agg #[.int .i8 sl, .float .f32 wd, .float .f32 gp, .int .i16 ti, .float .f32 sh], s.v, .pointer (some ⟨tb, t_, none⟩)] w fun e w' =>
      e = .returned (.tuple #[(tickF lo hi wi st de ca wd gp sh s li gu he).v, .float .f32 (lightF wi ca wd gp sh s li gu he)]) ∧ ∃ x, w' = ext w x := by
  obtain ⟨ti', wa, sm⟩ := s
  obtain ⟨t0, t1, w0, w1, s0, s1⟩ := S
  obtain ⟨st0, st1, de0, de1, ca0, ca1, hw, hg, hs⟩ := R
  dsimp only at t0 t1 w0 w1 s0 s1
  unfold St.v
  cases hgu : fgt gu wi with
  | true =>
    have e : stormF wi ca gu sm = ca := by unfold stormF; rw [if_pos hgu]
    have e1 : 0 < ca := by omega
    simp only [tickF, lightF, e, e1, if_pos]
    exact once_A1 b o tb t_ lo hi wi st de ca sl wd gp ti sh sm wa ti' li gu he (hgu := hgu) (hca := e1) (hC := hC) (hT := hT) w
  | false =>
    by_cases h0 : 1 < sm
    · have e : stormF wi ca gu sm = sm - 1 := by unfold stormF; rw [if_neg (by rw [hgu]; decide), if_pos (by omega)]
      have e1 : 0 < sm - 1 := by omega
      simp only [tickF, lightF, e, e1, if_pos]
      exact once_A2 b o tb t_ lo hi wi st de ca sl wd gp ti sh sm wa ti' li gu he (hgu := hgu) (h0 := h0) (h1 := s1) (hC := hC) (hT := hT) w
    · have e : stormF wi ca gu sm = 0 := by
        unfold stormF; rw [if_neg (by rw [hgu]; decide)]; split <;> omega
      simp only [tickF, lightF, e, Int.lt_irrefl, if_neg, not_false_eq_true]
      have hsm : sm = 0 ∨ sm = 1 := by omega
      by_cases hwa : 0 < wa
      · simp only [hwa, if_pos]
        rcases hsm with rfl | rfl
        · exact once_B2W b o tb t_ lo hi wi st de ca sl wd gp ti sh wa ti' li gu he (hgu := hgu) (hw := hw) (hg := hg) (hs := hs) (hl := hl) (hh0 := hh0) (hh1 := hh1) (ht0 := t0) (ht1 := t1) (hst0 := st0) (hst1 := st1) (hwa := hwa) (hwb := w1) (hC := hC) (hT := hT) w
        · exact once_B1W b o tb t_ lo hi wi st de ca sl wd gp ti sh wa ti' li gu he (hgu := hgu) (hw := hw) (hg := hg) (hs := hs) (hl := hl) (hh0 := hh0) (hh1 := hh1) (ht0 := t0) (ht1 := t1) (hst0 := st0) (hst1 := st1) (hwa := hwa) (hwb := w1) (hC := hC) (hT := hT) w
      · have hwa0 : wa = 0 := by omega
        subst hwa0
        simp only [Int.lt_irrefl, if_neg, not_false_eq_true]
        cases h1 : fgt (insideF wd gp sh ti' li he) hi with
        | true =>
          by_cases hx : ti' + st ≤ 64
          · have e2 : tiltF lo hi st ti' (insideF wd gp sh ti' li he) = ti' + st := by unfold tiltF; rw [if_pos h1]; omega
            have e3 : ¬ ti' + st = ti' := by omega
            simp only [e2, e3, if_neg, not_false_eq_true]
            rcases hsm with rfl | rfl
            · exact once_B2Ga b o tb t_ lo hi wi st de ca sl wd gp ti sh ti' li gu he (hgu := hgu) (hw := hw) (hg := hg) (hs := hs) (hl := hl) (hh0 := hh0) (hh1 := hh1) (ht0 := t0) (ht1 := t1) (hst0 := st0) (hst1 := st1) (hn1 := h1) (hx := hx) (hC := hC) (hT := hT) w
            · exact once_B1Ga b o tb t_ lo hi wi st de ca sl wd gp ti sh ti' li gu he (hgu := hgu) (hw := hw) (hg := hg) (hs := hs) (hl := hl) (hh0 := hh0) (hh1 := hh1) (ht0 := t0) (ht1 := t1) (hst0 := st0) (hst1 := st1) (hn1 := h1) (hx := hx) (hC := hC) (hT := hT) w
          · have e2 : tiltF lo hi st ti' (insideF wd gp sh ti' li he) = 64 := by unfold tiltF; rw [if_pos h1]; omega
            simp only [e2]
            by_cases hy : ti' = 64
            · subst hy
              rw [if_pos rfl]
              rcases hsm with rfl | rfl
              · exact once_B2Gc b o tb t_ lo hi wi st de ca sl wd gp ti sh  li gu he (hgu := hgu) (hw := hw) (hg := hg) (hs := hs) (hl := hl) (hh0 := hh0) (hh1 := hh1) (ht0 := t0) (ht1 := t1) (hst0 := st0) (hst1 := st1) (hn1 := h1) (hC := hC) (hT := hT) w
              · exact once_B1Gc b o tb t_ lo hi wi st de ca sl wd gp ti sh  li gu he (hgu := hgu) (hw := hw) (hg := hg) (hs := hs) (hl := hl) (hh0 := hh0) (hh1 := hh1) (ht0 := t0) (ht1 := t1) (hst0 := st0) (hst1 := st1) (hn1 := h1) (hC := hC) (hT := hT) w
            · rw [if_neg (fun h => hy h.symm)]
              rcases hsm with rfl | rfl
              · exact once_B2Gb b o tb t_ lo hi wi st de ca sl wd gp ti sh ti' li gu he (hgu := hgu) (hw := hw) (hg := hg) (hs := hs) (hl := hl) (hh0 := hh0) (hh1 := hh1) (ht0 := t0) (ht1 := t1) (hst0 := st0) (hst1 := st1) (hn1 := h1) (hx := by omega) (hy := by omega) (hC := hC) (hT := hT) w
              · exact once_B1Gb b o tb t_ lo hi wi st de ca sl wd gp ti sh ti' li gu he (hgu := hgu) (hw := hw) (hg := hg) (hs := hs) (hl := hl) (hh0 := hh0) (hh1 := hh1) (ht0 := t0) (ht1 := t1) (hst0 := st0) (hst1 := st1) (hn1 := h1) (hx := by omega) (hy := by omega) (hC := hC) (hT := hT) w
        | false =>
          have n1 : ¬ fgt (insideF wd gp sh ti' li he) hi = true := by rw [h1]; decide
          cases h2 : flt (insideF wd gp sh ti' li he) lo with
          | false =>
            have n2 : ¬ flt (insideF wd gp sh ti' li he) lo = true := by rw [h2]; decide
            have e2 : tiltF lo hi st ti' (insideF wd gp sh ti' li he) = ti' := by unfold tiltF; rw [if_neg n1, if_neg n2]
            simp only [e2]
            rcases hsm with rfl | rfl
            · exact once_B2N b o tb t_ lo hi wi st de ca sl wd gp ti sh ti' li gu he (hgu := hgu) (hw := hw) (hg := hg) (hs := hs) (hl := hl) (hh0 := hh0) (hh1 := hh1) (ht0 := t0) (ht1 := t1) (hst0 := st0) (hst1 := st1) (hn1 := h1) (hn2 := h2) (hC := hC) (hT := hT) w
            · exact once_B1N b o tb t_ lo hi wi st de ca sl wd gp ti sh ti' li gu he (hgu := hgu) (hw := hw) (hg := hg) (hs := hs) (hl := hl) (hh0 := hh0) (hh1 := hh1) (ht0 := t0) (ht1 := t1) (hst0 := st0) (hst1 := st1) (hn1 := h1) (hn2 := h2) (hC := hC) (hT := hT) w
          | true =>
            by_cases hx : -64 ≤ ti' - st
            · have e2 : tiltF lo hi st ti' (insideF wd gp sh ti' li he) = ti' - st := by unfold tiltF; rw [if_neg n1, if_pos h2]; omega
              have e3 : ¬ ti' - st = ti' := by omega
              simp only [e2, e3, if_neg, not_false_eq_true]
              rcases hsm with rfl | rfl
              · exact once_B2La b o tb t_ lo hi wi st de ca sl wd gp ti sh ti' li gu he (hgu := hgu) (hw := hw) (hg := hg) (hs := hs) (hl := hl) (hh0 := hh0) (hh1 := hh1) (ht0 := t0) (ht1 := t1) (hst0 := st0) (hst1 := st1) (hn1 := h1) (hn2 := h2) (hx := hx) (hC := hC) (hT := hT) w
              · exact once_B1La b o tb t_ lo hi wi st de ca sl wd gp ti sh ti' li gu he (hgu := hgu) (hw := hw) (hg := hg) (hs := hs) (hl := hl) (hh0 := hh0) (hh1 := hh1) (ht0 := t0) (ht1 := t1) (hst0 := st0) (hst1 := st1) (hn1 := h1) (hn2 := h2) (hx := hx) (hC := hC) (hT := hT) w
            · have e2 : tiltF lo hi st ti' (insideF wd gp sh ti' li he) = -64 := by unfold tiltF; rw [if_neg n1, if_pos h2]; omega
              simp only [e2]
              by_cases hy : ti' = -64
              · subst hy
                rw [if_pos rfl]
                rcases hsm with rfl | rfl
                · exact once_B2Lc b o tb t_ lo hi wi st de ca sl wd gp ti sh  li gu he (hgu := hgu) (hw := hw) (hg := hg) (hs := hs) (hl := hl) (hh0 := hh0) (hh1 := hh1) (ht0 := t0) (ht1 := t1) (hst0 := st0) (hst1 := st1) (hn1 := h1) (hn2 := h2) (hC := hC) (hT := hT) w
                · exact once_B1Lc b o tb t_ lo hi wi st de ca sl wd gp ti sh  li gu he (hgu := hgu) (hw := hw) (hg := hg) (hs := hs) (hl := hl) (hh0 := hh0) (hh1 := hh1) (ht0 := t0) (ht1 := t1) (hst0 := st0) (hst1 := st1) (hn1 := h1) (hn2 := h2) (hC := hC) (hT := hT) w
              · rw [if_neg (fun h => hy h.symm)]
                rcases hsm with rfl | rfl
                · exact once_B2Lb b o tb t_ lo hi wi st de ca sl wd gp ti sh ti' li gu he (hgu := hgu) (hw := hw) (hg := hg) (hs := hs) (hl := hl) (hh0 := hh0) (hh1 := hh1) (ht0 := t0) (ht1 := t1) (hst0 := st0) (hst1 := st1) (hn1 := h1) (hn2 := h2) (hx := by omega) (hy := by omega) (hC := hC) (hT := hT) w
                · exact once_B1Lb b o tb t_ lo hi wi st de ca sl wd gp ti sh ti' li gu he (hgu := hgu) (hw := hw) (hg := hg) (hs := hs) (hl := hl) (hh0 := hh0) (hh1 := hh1) (ht0 := t0) (ht1 := t1) (hst0 := st0) (hst1 := st1) (hn1 := h1) (hn2 := h2) (hx := by omega) (hy := by omega) (hC := hC) (hT := hT) w
end Go.Proofs.Ytbelopcfmjgfiaa
