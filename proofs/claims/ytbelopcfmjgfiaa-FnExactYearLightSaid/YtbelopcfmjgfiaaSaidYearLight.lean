/- FnExactYearLight: impl's YearLight answers as spec's for every blind, list of suns and number; the law answers true and leaves its arguments as they were. No condition. -/
import Derived.Test.YtbelopcfmjgfiaaOpenSun
import Derived.Test.YtbelopcfmjgfiaaLawYear
namespace Go.Proofs.Ytbelopcfmjgfiaa
open Go Go.RowKit Go.ChangeShapes Go.WideShapes Go.ChangeAt Go.Deep
set_option maxRecDepth 100000 in
theorem fnExactYearLight_contract (H : Type) (enc : TypeId × Value → H) (W : World) (base : Nat) (args : Array Value) (ds gs : List (DataW H)) (before : List MemPlace)
    (hval : ∀ (j : Nat) t v, Try.f8.params[j]? = some t → args[j]? = some v → Value.okWide Try.prog W .any base t v)
    (hW : DataW.Whole enc Try.prog Try.f8.params.toList Rows.fnExactYearLightSpec.vars false W args.toList ds gs before) :
    Calls Try.prog 8 args W fun e W' => ∃ v, e = .returned v ∧ Rows.fnExactYearLightSpec.post enc Try.prog Try.f8 false true false false W args v W' := by
  have hW' := hW
  obtain ⟨p, q, hA, hV, rfl, hfz, hnd⟩ := hW
  rw [Try.params8] at hA hval
  obtain ⟨v0, vs0, d0, ds0, p0, q0, hargs, rfl, rfl, h0, r0⟩ := trodAll_cons hA
  obtain ⟨v1, vs1, d1, ds1, p1, q1, rfl, rfl, rfl, h1, r1⟩ := trodAll_cons r0
  obtain ⟨v2, vs2, d2, ds2, p2, q2, rfl, rfl, rfl, h2, r2⟩ := trodAll_cons r1
  obtain ⟨rfl, rfl, rfl⟩ := trodAll_nil r2
  obtain rfl : args = #[v0, v1, v2] := by cases args; simp_all
  obtain ⟨rfl, rfl⟩ := trodVars_none hV
  obtain ⟨sl, wd, gp, ti, sh, rfl, a4, a5, a6, a7⟩ := open_blind h0
  obtain ⟨B, n, c, S, rfl, hn, hS, hI⟩ := open_suns (hval 1 _ v1 rfl rfl) h1
  obtain ⟨fc, rfl, _, _, _⟩ := open_int Try.underlying2 (hval 2 _ v2 rfl rfl) h2
  refine (FnExactYearLight_any ⟨sl, wd, gp, ti, sh, S⟩ fc B n c ⟨a4.1, a4.2, a7.1, a7.2, a5, a6, hI⟩ hn W hS).mono fun e W' ⟨he, x, hx⟩ => ?_
  subst hx
  exact ⟨_, he, law_post laidOut (by kernel_rfl) rfl Try.underlying4 rfl hW' rfl rfl rfl (below_ext W x)⟩
set_option maxRecDepth 100000 in
theorem fnExactYearLight_lifted (os : Os) (started : os.Started) (H : Type) (enc : TypeId × Value → H) :
    ReturnsInHanded {} Try.checked os 8 .any ((Rows.fnExactYearLightSpec).pre6 enc Try.prog Try.f8 Rows.fnExactYearLightRow.domain false) (Rows.fnExactYearLightSpec.post enc Try.prog Try.f8 false true false false) := by
  refine returnsInHanded_of_change (C := Try.checked) own started (by kernel_rfl) Try.func8
    (ChangeSpec.witness6 (enc := enc) (C := Try.checked) false ⟨#[], #[.agg #[.int .i8 0, .float .f32 0, .float .f32 0, .int .i16 0, .float .f32 0], .slice none 0 0, .int .i64 0], []⟩ 8 (by kernel_rfl) (by kernel_rfl) (by kernel_rfl) (by kernel_rfl)) ?_
  intro W base args ds gs before hval hW _ _
  exact fnExactYearLight_contract H enc W base args ds gs before hval hW
theorem fnExactYearLight_proved : Rows.FnExactYearLightSaid :=
  OpenClaim.holds_of_wide 8 Try.f8 rfl rfl rfl rfl rfl rfl rfl ⟨rfl, rfl, rfl, rfl, rfl⟩ rfl rfl rfl rfl rfl (by kernel_rfl) Try.func8 (by kernel_rfl)
    (of_decide_eq_true (by kernel_rfl)) (by unfold Func.isWrapper; first | (rw [if_pos (by decide +kernel)]; kernel_rfl) | (rw [if_neg (by decide +kernel)]; exact ⟨rfl, rfl⟩))
    (fun os started H enc _ => fnExactYearLight_lifted os started H enc)
end Go.Proofs.Ytbelopcfmjgfiaa
