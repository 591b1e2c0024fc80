/- A law's arguments, opened: a control, a blind, a state, ticks. No condition. -/
import Derived.Test.YtbelopcfmjgfiaaLift
import Derived.Test.YtbelopcfmjgfiaaAsk
namespace Go.Proofs.Ytbelopcfmjgfiaa
open Go Go.RowKit Go.ChangeShapes Go.WideShapes Go.ChangeAt Go.Deep
theorem own : ownKnob Try.prog.godebug = none := by kernel_rfl
theorem laidOut : laidOutB Try.prog = true := by kernel_rfl
section
variable {H : Type} {enc : TypeId × Value → H} {w : World} {base : Nat} {spare : Nat → Bool} {held : Bool} {v : Value} {d : DataW H} {ps : List MemPlace}
theorem open_control (h : DataW.Trod enc Try.prog w base spare held 37 v d ps) : ∃ (lo hi wi : Nat) (st de ca : Int), v = .agg #[.float .f32 lo, .float .f32 hi, .float .f32 wi, .int .i8 st, .int .i8 de, .int .i8 ca] ∧ (-128 ≤ st ∧ st ≤ 127) ∧ (-128 ≤ de ∧ de ≤ 127) ∧ (-128 ≤ ca ∧ ca ≤ 127) := by
  obtain ⟨fuel, h⟩ := h
  obtain ⟨hl, hf⟩ := trod_field Try.underlying37 (by kernel_rfl) (by kernel_rfl) h
  obtain ⟨v0, _, _, e0, t0⟩ := hf 0 _ rfl
  obtain ⟨lo, rfl, w0⟩ := f_float Try.underlying24 t0
  obtain ⟨v1, _, _, e1, t1⟩ := hf 1 _ rfl
  obtain ⟨hi, rfl, w1⟩ := f_float Try.underlying24 t1
  obtain ⟨v2, _, _, e2, t2⟩ := hf 2 _ rfl
  obtain ⟨wi, rfl, w2⟩ := f_float Try.underlying24 t2
  obtain ⟨v3, _, _, e3, t3⟩ := hf 3 _ rfl
  obtain ⟨st, rfl, w3⟩ := f_int Try.underlying35 t3
  obtain ⟨v4, _, _, e4, t4⟩ := hf 4 _ rfl
  obtain ⟨de, rfl, w4⟩ := f_int Try.underlying35 t4
  obtain ⟨v5, _, _, e5, t5⟩ := hf 5 _ rfl
  obtain ⟨ca, rfl, w5⟩ := f_int Try.underlying35 t5
  exact ⟨lo, hi, wi, st, de, ca, agg_of_cells (list6 hl e0 e1 e2 e3 e4 e5) (by simp), i8_in w3, i8_in w4, i8_in w5⟩
theorem open_blind (h : DataW.Trod enc Try.prog w base spare held 40 v d ps) : ∃ (sl : Int) (wd gp : Nat) (ti : Int) (sh : Nat), v = .agg #[.int .i8 sl, .float .f32 wd, .float .f32 gp, .int .i16 ti, .float .f32 sh] ∧ (-128 ≤ sl ∧ sl ≤ 127) ∧ wd < 4294967296 ∧ gp < 4294967296 ∧ (-32768 ≤ ti ∧ ti ≤ 32767) := by
  obtain ⟨fuel, h⟩ := h
  obtain ⟨hl, hf⟩ := trod_field Try.underlying40 (by kernel_rfl) (by kernel_rfl) h
  obtain ⟨v0, _, _, e0, t0⟩ := hf 0 _ rfl
  obtain ⟨sl, rfl, w0⟩ := f_int Try.underlying35 t0
  obtain ⟨v1, _, _, e1, t1⟩ := hf 1 _ rfl
  obtain ⟨wd, rfl, w1⟩ := f_float Try.underlying24 t1
  obtain ⟨v2, _, _, e2, t2⟩ := hf 2 _ rfl
  obtain ⟨gp, rfl, w2⟩ := f_float Try.underlying24 t2
  obtain ⟨v3, _, _, e3, t3⟩ := hf 3 _ rfl
  obtain ⟨ti, rfl, w3⟩ := f_int Try.underlying38 t3
  obtain ⟨v4, _, _, e4, t4⟩ := hf 4 _ rfl
  obtain ⟨sh, rfl, w4⟩ := f_float Try.underlying24 t4
  exact ⟨sl, wd, gp, ti, sh, agg_of_cells (list5 hl e0 e1 e2 e3 e4) (by simp), i8_in w0, f32_lt w1, f32_lt w2, i16_in w3⟩
theorem open_state (h : DataW.Trod enc Try.prog w base spare held 42 v d ps) : ∃ s : St, v = s.v ∧ (-32768 ≤ s.ti ∧ s.ti ≤ 32767) ∧ (-128 ≤ s.wa ∧ s.wa ≤ 127) ∧ (-128 ≤ s.sm ∧ s.sm ≤ 127) := by
  obtain ⟨fuel, h⟩ := h
  obtain ⟨hl, hf⟩ := trod_field Try.underlying42 (by kernel_rfl) (by kernel_rfl) h
  obtain ⟨v0, _, _, e0, t0⟩ := hf 0 _ rfl
  obtain ⟨ti', rfl, w0⟩ := f_int Try.underlying38 t0
  obtain ⟨v1, _, _, e1, t1⟩ := hf 1 _ rfl
  obtain ⟨wa, rfl, w1⟩ := f_int Try.underlying35 t1
  obtain ⟨v2, _, _, e2, t2⟩ := hf 2 _ rfl
  obtain ⟨sm, rfl, w2⟩ := f_int Try.underlying35 t2
  exact ⟨⟨ti', wa, sm⟩, agg_of_cells (list3 hl e0 e1 e2) (by simp), i16_in w0, i8_in w1, i8_in w2⟩
theorem cells_tick : Try.prog.cellsOf 104 = 3 := by kernel_rfl
set_option maxRecDepth 100000 in
theorem open_ticks {b0 : Nat} (hok : Value.okWide Try.prog w .any b0 43 v) (h : DataW.Trod enc Try.prog w base spare held 43 v d ps) : ∃ (B : Option Addr) (n c : Nat) (T : Nat → Tk), v = .slice B n c ∧ n ≤ 9223372036854775807 ∧ RdT w B n T ∧ Small n T := by
  obtain ⟨fuel, h⟩ := h
  obtain ⟨B, n, c, hcs, hn, hc, hk⟩ := open_rows Try.underlying43 h
  rw [cells_tick] at hk
  have hv : v = .slice B n c := by
    obtain ⟨a', n', c', hv⟩ := okWide_slice Try.underlying43 hok
    subst hv
    have hcs2 : [Value.slice a' n' c'] = [Value.slice B n c] := hcs
    injection hcs2
  have hx : ∀ k, k < n → ∃ tk : Tk, (∃ b o, B = some ⟨b, o, none⟩ ∧ TickAt w b (o + k * 3) tk.li tk.gu tk.he) ∧ -128 ≤ tk.he ∧ tk.he ≤ 127 := by
    intro k hkn
    obtain ⟨cs', m, y, hlen, ht, ha⟩ := hk k hkn
    obtain ⟨b, o, hB, hat⟩ := ha (by omega)
    obtain ⟨hl, hf⟩ := trod_field Try.underlying104 (by kernel_rfl) (by kernel_rfl) ht
    obtain ⟨v0, _, _, e0, t0⟩ := hf 0 _ rfl
    obtain ⟨li, rfl, w0⟩ := f_float Try.underlying24 t0
    obtain ⟨v1, _, _, e1, t1⟩ := hf 1 _ rfl
    obtain ⟨gu, rfl, w1⟩ := f_float Try.underlying24 t1
    obtain ⟨v2, _, _, e2, t2⟩ := hf 2 _ rfl
    obtain ⟨he, rfl, w2⟩ := f_int Try.underlying35 t2
    refine ⟨⟨li, gu, he⟩, ⟨b, o, hB, ⟨?_, ?_, ?_⟩⟩, i8_in w2⟩
    · exact (hat 0 (by omega)).trans e0
    · exact (hat 1 (by omega)).trans e1
    · exact (hat 2 (by omega)).trans e2
  obtain ⟨T, hT⟩ := pick ⟨0, 0, 0⟩ hx
  exact ⟨B, n, c, T, hv, by unfold maxLen at hc; omega, fun k hkn => (hT k hkn).1, fun k hkn => (hT k hkn).2⟩
end
end Go.Proofs.Ytbelopcfmjgfiaa
