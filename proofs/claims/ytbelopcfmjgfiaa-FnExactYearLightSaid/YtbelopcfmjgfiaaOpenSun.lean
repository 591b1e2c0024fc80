/- A law's arguments, opened: suns, a number. No condition. -/
import Derived.Test.YtbelopcfmjgfiaaOpenTick
import Derived.Test.YtbelopcfmjgfiaaYear1
namespace Go.Proofs.Ytbelopcfmjgfiaa
open Go Go.RowKit Go.ChangeShapes Go.WideShapes Go.ChangeAt Go.Deep
section
variable {H : Type} {enc : TypeId × Value → H} {w : World} {base : Nat} {spare : Nat → Bool} {held : Bool} {v : Value} {d : DataW H} {ps : List MemPlace} {fuel : Nat} {cs : List Value} {x : DataW H × List MemPlace}
theorem cells_i16 : Try.prog.cellsOf 38 = 1 := by kernel_rfl
theorem cells_a24 : Try.prog.cellsOf 65 = 24 := by kernel_rfl
theorem cells_lsun : Try.prog.cellsOf 67 = 48 := by kernel_rfl
theorem open_a24 (h : DataW.trod enc Try.prog w base spare held fuel 65 cs = some x) : ∀ i, i < 24 → ∃ n, cs[i]? = some (.int .i16 n) ∧ -32768 ≤ n ∧ n ≤ 32767 := by
  obtain ⟨xs, m, _, _, hl, hx, hi⟩ := DataW.trod_array Try.underlying65 h
  rw [cells_a24] at hl
  rw [cells_i16] at hi
  intro i hi24
  have h1 := hi i hi24
  have hlt : i < cs.length := by omega
  rw [Nat.mul_one, List.drop_eq_getElem_cons hlt, List.take_succ_cons, List.take_zero, List.getElem?_eq_getElem (by omega)] at h1
  obtain ⟨n, hn, hw⟩ := f_int Try.underlying38 h1
  exact ⟨n, by rw [List.getElem?_eq_getElem hlt, hn], i16_in hw⟩
theorem open_lsun (h : DataW.trod enc Try.prog w base spare held fuel 67 cs = some x) : ∀ i, i < 48 → ∃ n, cs[i]? = some (.int .i16 n) ∧ -32768 ≤ n ∧ n ≤ 32767 := by
  obtain ⟨y0, y1, n, _, hl, t0, t1⟩ := trod_struct2 Try.underlying67 h
  rw [cells_lsun] at hl
  rw [cells_a24] at t0 t1
  have e0 := open_a24 t0
  have e1 := open_a24 t1
  intro i hi
  by_cases h1 : i < 24
  · obtain ⟨m, hm, hr⟩ := e0 i h1
    refine ⟨m, ?_, hr⟩
    rw [List.getElem?_take_of_lt h1, List.getElem?_drop] at hm
    simpa using hm
  · obtain ⟨m, hm, hr⟩ := e1 (i - 24) (by omega)
    refine ⟨m, ?_, hr⟩
    rw [List.getElem?_take_of_lt (by omega), List.getElem?_drop] at hm
    rw [← hm]
    congr 1
    show i = 24 + (i - 24)
    omega
set_option maxRecDepth 100000 in
theorem open_suns {b0 : Nat} (hok : Value.okWide Try.prog w .any b0 57 v) (h : DataW.Trod enc Try.prog w base spare held 57 v d ps) : ∃ (B : Option Addr) (n c : Nat) (S : Nat → Nat → Int), v = .slice B n c ∧ n ≤ 9223372036854775807 ∧ RdS w B n S ∧ I16s n S := by
  obtain ⟨fuel, h⟩ := h
  obtain ⟨B, n, c, hcs, hn, hc, hk⟩ := open_rows Try.underlying57 h
  rw [cells_lsun] at hk
  have hv : v = .slice B n c := by
    obtain ⟨a', n', c', hv⟩ := okWide_slice Try.underlying57 hok
    subst hv
    have hcs2 : [Value.slice a' n' c'] = [Value.slice B n c] := hcs
    injection hcs2
  have hx : ∀ k, k < n → ∃ f : Nat → Int, (∃ b o, B = some ⟨b, o, none⟩ ∧ SunAt w b (o + k * 48) f) ∧ I16 f := by
    intro k hkn
    obtain ⟨cs', m, y, hlen, ht, ha⟩ := hk k hkn
    obtain ⟨b, o, hB, hat⟩ := ha (by omega)
    obtain ⟨f, hf⟩ := pick (0 : Int) (open_lsun ht)
    refine ⟨f, ⟨b, o, hB, fun i hi => ?_⟩, fun i hi => (hf i hi).2⟩
    rw [Nat.add_assoc]
    exact (hat i hi).trans (hf i hi).1
  obtain ⟨S, hS⟩ := pick (fun _ => (0 : Int)) hx
  exact ⟨B, n, c, S, hv, by unfold maxLen at hc; omega, fun k hkn => (hS k hkn).1, fun k hkn => (hS k hkn).2⟩
end
end Go.Proofs.Ytbelopcfmjgfiaa
