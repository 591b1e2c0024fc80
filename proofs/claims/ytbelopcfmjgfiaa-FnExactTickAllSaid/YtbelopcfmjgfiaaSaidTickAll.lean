/- FnExactTickAll: impl's TickAll answers as spec's for every control, blind, state and list of ticks; the law answers true and leaves its arguments as they were. No condition. -/
import Derived.Test.YtbelopcfmjgfiaaOpenTick
import Derived.Test.YtbelopcfmjgfiaaLawTickAll
namespace Go.Proofs.Ytbelopcfmjgfiaa
open Go Go.RowKit Go.ChangeShapes Go.WideShapes Go.ChangeAt Go.Deep
set_option maxRecDepth 100000 in
theorem fnExactTickAll_contract (H : Type) (enc : TypeId × Value → H) (W : World) (base : Nat) (args : Array Value) (ds gs : List (DataW H)) (before : List MemPlace)
    (hval : ∀ (j : Nat) t v, Try.f9.params[j]? = some t → args[j]? = some v → Value.okWide Try.prog W .any base t v)
    (hW : DataW.Whole enc Try.prog Try.f9.params.toList Rows.fnExactTickAllSpec.vars false W args.toList ds gs before) :
    Calls Try.prog 9 args W fun e W' => ∃ v, e = .returned v ∧ Rows.fnExactTickAllSpec.post enc Try.prog Try.f9 false true false false W args v W' := by
  have hW' := hW
  obtain ⟨p, q, hA, hV, rfl, hfz, hnd⟩ := hW
  rw [Try.params9] at hA hval
  obtain ⟨v0, vs0, d0, ds0, p0, q0, hargs, rfl, rfl, h0, r0⟩ := trodAll_cons hA
  obtain ⟨v1, vs1, d1, ds1, p1, q1, rfl, rfl, rfl, h1, r1⟩ := trodAll_cons r0
  obtain ⟨v2, vs2, d2, ds2, p2, q2, rfl, rfl, rfl, h2, r2⟩ := trodAll_cons r1
  obtain ⟨v3, vs3, d3, ds3, p3, q3, rfl, rfl, rfl, h3, r3⟩ := trodAll_cons r2
  obtain ⟨rfl, rfl, rfl⟩ := trodAll_nil r3
  obtain rfl : args = #[v0, v1, v2, v3] := by cases args; simp_all
  obtain ⟨rfl, rfl⟩ := trodVars_none hV
  obtain ⟨lo, hi, wi, st, de, ca, rfl, a1, a2, a3⟩ := open_control h0
  obtain ⟨sl, wd, gp, ti, sh, rfl, a4, a5, a6, a7⟩ := open_blind h1
  obtain ⟨s, rfl, a8, a9, a10⟩ := open_state h2
  obtain ⟨B, n, c, T, rfl, hn, hT, hS⟩ := open_ticks (hval 3 _ v3 rfl rfl) h3
  refine (FnExactTickAll_any ⟨lo, hi, wi, st, de, ca, wd, gp, sh, s, T⟩ sl ti B n c hS hn a5 a6 ⟨a1.1, a1.2, a2.1, a2.2, a3.1, a3.2, a4.1, a4.2, a7.1, a7.2, a8.1, a8.2, a9.1, a9.2, a10.1, a10.2⟩ W hT).mono fun e W' ⟨he, x, hx⟩ => ?_
  subst hx
  exact ⟨_, he, law_post laidOut (by kernel_rfl) rfl Try.underlying4 rfl hW' rfl rfl rfl (below_ext W x)⟩
set_option maxRecDepth 100000 in
theorem fnExactTickAll_lifted (os : Os) (started : os.Started) (H : Type) (enc : TypeId × Value → H) :
    ReturnsInHanded {} Try.checked os 9 .any ((Rows.fnExactTickAllSpec).pre6 enc Try.prog Try.f9 Rows.fnExactTickAllRow.domain false) (Rows.fnExactTickAllSpec.post enc Try.prog Try.f9 false true false false) := by
  refine returnsInHanded_of_change (C := Try.checked) own started (by kernel_rfl) Try.func9
    (ChangeSpec.witness6 (enc := enc) (C := Try.checked) false ⟨#[], #[.agg #[.float .f32 0, .float .f32 0, .float .f32 0, .int .i8 0, .int .i8 0, .int .i8 0], .agg #[.int .i8 0, .float .f32 0, .float .f32 0, .int .i16 0, .float .f32 0], .agg #[.int .i16 0, .int .i8 0, .int .i8 0], .slice none 0 0], []⟩ 8 (by kernel_rfl) (by kernel_rfl) (by kernel_rfl) (by kernel_rfl)) ?_
  intro W base args ds gs before hval hW _ _
  exact fnExactTickAll_contract H enc W base args ds gs before hval hW
theorem fnExactTickAll_proved : Rows.FnExactTickAllSaid :=
  OpenClaim.holds_of_wide 9 Try.f9 rfl rfl rfl rfl rfl rfl rfl ⟨rfl, rfl, rfl, rfl, rfl⟩ rfl rfl rfl rfl rfl (by kernel_rfl) Try.func9 (by kernel_rfl)
    (of_decide_eq_true (by kernel_rfl)) (by unfold Func.isWrapper; first | (rw [if_pos (by decide +kernel)]; kernel_rfl) | (rw [if_neg (by decide +kernel)]; exact ⟨rfl, rfl⟩))
    (fun os started H enc _ => fnExactTickAll_lifted os started H enc)
end Go.Proofs.Ytbelopcfmjgfiaa
