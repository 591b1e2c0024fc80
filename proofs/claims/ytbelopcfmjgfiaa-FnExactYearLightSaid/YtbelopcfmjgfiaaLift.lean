/- From contracts to statements: an argument's cells out of its reading; the last step of every law: it answers true and leaves what was there as it was. No condition. -/
import Derived.Test.YtbelopcfmjgfiaaBase
import Derived.Carry
import Derived.ChangeSame
import Derived.Laws.Cover2
import Derived.Deep.Slices
import Derived.Deep.Fields
namespace Go.Proofs.Ytbelopcfmjgfiaa
open Go Go.RowKit Go.ChangeShapes Go.WideShapes Go.ChangeAt Go.Deep
section
variable {H : Type} {enc : TypeId × Value → H} {P : Program} {W W' : World}
theorem trodAll_grown (hl : laidOutB P = true) (hb : Below W.heap.size W W') : ∀ {ts : List TypeId} {vs : List Value} {ds : List (DataW H)} {ps : List MemPlace},
    (∀ t ∈ ts, P.readableRec t = true ∧ t < P.types.size) → DataW.TrodAll enc P W 0 (fun _ => true) true ts vs ds ps → (∀ x ∈ ps, x.block < W.heap.size) →
    ∀ sp : Nat → Bool, (∀ p ∈ ps, sp p.block = true) → DataW.TrodAll enc P W' 0 sp true ts vs ds ps
  | [], vs, ds, ps, _, h, _, sp, _ => by
    obtain ⟨rfl, rfl, rfl⟩ := trodAll_nil h
    exact trodAll_mk0
  | t :: ts, vs, ds, ps, ht, h, hlt, sp, hs => by
    obtain ⟨v, vs1, d, ds1, a, b, rfl, rfl, rfl, h1, h2⟩ := trodAll_cons h
    have ha : ∀ p ∈ a, p ∈ a ++ b := fun p hp => List.mem_append.2 (.inl hp)
    have hb' : ∀ p ∈ b, p ∈ a ++ b := fun p hp => List.mem_append.2 (.inr hp)
    obtain ⟨t1, t2⟩ := ht t (List.mem_cons_self ..)
    exact ⟨a, b, WideElems.Trod_stays hl t1 t2 h1 (fun x hx => hb.same (hlt x (ha x hx))) (fun x hx => hs x (ha x hx)),
      trodAll_grown hl hb (fun t' ht' => ht t' (List.mem_cons_of_mem _ ht')) h2 (fun x hx => hlt x (hb' x hx)) sp (fun x hx => hs x (hb' x hx)), rfl⟩
/-- What a law's answer says: true; whatever could be read reads as it did. -/
theorem law_post {f : Func} {s : ChangeSpec} {apart fresh handsOn again : Bool} {tb : TypeId} {args : Array Value} {ds gs : List (DataW H)} {before : List MemPlace}
    (hl : laidOutB P = true) (hq : (f.params.toList.all fun t => P.readableRec t && decide (t < P.types.size)) = true) (hr : f.resultTypes = #[tb]) (ht : P.underlying tb = some .bool) (hv : s.vars = [])
    (hW : DataW.Whole enc P f.params.toList s.vars apart W args.toList ds gs before)
    (h1 : (s.fn H (ds ++ gs)).results = [.lit (.bool true)]) (h2 : (s.fn H (ds ++ gs)).args = ds) (h3 : (s.fn H (ds ++ gs)).vars = [])
    (hb : Below W.heap.size W W') : s.post enc P f apart fresh handsOn again W args (.bool true) W' := by
  have hp : ∀ t ∈ f.params.toList, P.readableRec t = true ∧ t < P.types.size := fun t ht => by
    have := List.all_eq_true.1 hq t ht
    simpa using this
  have hlt : ∀ p ∈ before, p.block < W.heap.size := fun p hp => hW.lt p hp
  have hW2 := hW
  obtain ⟨pa, pv, hA, hV, hps, hz, hn⟩ := hW2
  have hV0 := hV
  rw [hv] at hV0
  obtain ⟨hg, hpv⟩ := trodVars_none hV0
  subst hg hpv
  have e : before = pa := by rw [hps]; simp
  subst e
  have hargs : ∀ sp : Nat → Bool, (∀ p ∈ before, sp p.block = true) → DataW.TrodAll enc P W' 0 sp true f.params.toList args.toList (s.fn H (ds ++ [])).args before := fun sp hs => by
    rw [h2]; exact trodAll_grown hl hb hp hA hlt sp hs
  have hvars : ∀ sp : Nat → Bool, DataW.TrodVars enc P W' sp s.vars (s.fn H (ds ++ [])).vars [] := fun sp => by
    rw [h3, hv]; rfl
  have hres : ∀ (b : Nat) (sp : Nat → Bool) (hd : Bool), DataW.TrodAll enc P W' b sp hd f.resultTypes.toList ((Value.bool true).resultList f.resultTypes.size) (s.fn H (ds ++ [])).results [] := fun b sp hd => by
    rw [h1, hr]; exact trodAll_mk1 (shut_bool ht _)
  have hold : ∀ p ∈ before, (fun b => decide (b < W.heap.size)) p.block = true := fun p hp => by simpa using hlt p hp
  refine ⟨ds, [], before, [], before, [], hW, hres _ _ _, hargs _ hold, hvars _, World.keptBut_mono (fun p hp => ⟨hp, Or.inr (by simpa using hp)⟩) (hb.frame (· ∈ before)), fun _ => ?_⟩
  refine ⟨ok_one hr rfl (okWide_bool_mk ht _), _, _, ([] ++ before) ++ [], ⟨[] ++ before, [], trodAll_append (hargs _ (fun _ _ => rfl)) (hres _ _ _), hvars _, rfl, ?_, ?_⟩, ?_⟩
  · intro b off hp'
    have hin : MemPlace.cell b off ∈ before := by simpa using hp'
    rw [hb.frozen (hlt _ hin)]
    exact hz b off hin
  · intro ha
    simpa using hn ha
  · intro p hp' _
    simpa using hp'
end
section
variable {H : Type} {enc : TypeId × Value → H} {P : Program} {w : World} {base : Nat} {spare : Nat → Bool} {held : Bool} {fuel : Nat} {t : TypeId} {cs : List Value} {x : DataW H × List MemPlace}
theorem trod_float {k : FloatKind} (ht : P.underlying t = some (.float k)) (h : DataW.trod enc P w base spare held fuel t cs = some x) : ∃ b, cs = [.float k b] ∧ (Lit.float k b).wf = true := by
  cases fuel with
  | zero => simp [DataW.trod] at h
  | succ n =>
    unfold DataW.trod at h
    rw [ht] at h
    split at h <;> simp_all
theorem f32_lt {b : Nat} (h : (Lit.float .f32 b).wf = true) : b < 4294967296 := by simpa [Lit.wf] using h
/-- Field j of a struct whose fields have one cell each. -/
theorem trod_field {fs : Array Field} (ht : P.underlying t = some (.struct fs)) (hone : oneCellFields P fs = true) (hC : P.cellsOf t = fs.size) (h : DataW.trod enc P w base spare held fuel t cs = some x) :
    cs.length = fs.size ∧ ∀ (j : Nat) (f : Field), fs[j]? = some f → ∃ (v : Value) (n : Nat) (y : DataW H × List MemPlace), cs[j]? = some v ∧ DataW.trod enc P w base spare held n f.type [v] = some y := by
  obtain ⟨ys, n', hn', hy, hlen, hyl, hf⟩ := DataW.trod_struct ht h
  refine ⟨hlen.trans hC, fun j f hj => ?_⟩
  obtain ⟨ho, hk⟩ := hone_of hone j f hj
  have hjl : j < fs.size := (Array.getElem?_eq_some_iff.1 hj).1
  have hl : cs.length = fs.size := hlen.trans hC
  have h1 := hf j f hj
  rw [ho, hk, List.drop_eq_getElem_cons (by omega)] at h1
  have hys : ys[j]? = some (ys[j]'(by omega)) := List.getElem?_eq_getElem (by omega)
  exact ⟨cs[j]'(by omega), _, _, List.getElem?_eq_getElem (by omega), h1.trans hys⟩
/-- A value with this list of cells, which are not one. -/
theorem agg_of_cells {v : Value} {l : List Value} (h : v.cells.toList = l) (hl : l.length ≠ 1) : v = .agg l.toArray := by
  cases v with
  | agg cs => simp only [Value.cells] at h; rw [← h]
  | _ => simp only [Value.cells] at h; subst h; simp at hl
theorem list3 {α : Type} {l : List α} {a0 a1 a2 : α} (hl : l.length = 3) (e0 : l[0]? = some a0) (e1 : l[1]? = some a1) (e2 : l[2]? = some a2) : l = [a0, a1, a2] := by
  match l, hl with
  | [x0, x1, x2], _ => simp at e0 e1 e2; simp [*]
theorem list5 {α : Type} {l : List α} {a0 a1 a2 a3 a4 : α} (hl : l.length = 5) (e0 : l[0]? = some a0) (e1 : l[1]? = some a1) (e2 : l[2]? = some a2) (e3 : l[3]? = some a3) (e4 : l[4]? = some a4) : l = [a0, a1, a2, a3, a4] := by
  match l, hl with
  | [x0, x1, x2, x3, x4], _ => simp at e0 e1 e2 e3 e4; simp [*]
theorem list6 {α : Type} {l : List α} {a0 a1 a2 a3 a4 a5 : α} (hl : l.length = 6) (e0 : l[0]? = some a0) (e1 : l[1]? = some a1) (e2 : l[2]? = some a2) (e3 : l[3]? = some a3) (e4 : l[4]? = some a4) (e5 : l[5]? = some a5) : l = [a0, a1, a2, a3, a4, a5] := by
  match l, hl with
  | [x0, x1, x2, x3, x4, x5], _ => simp at e0 e1 e2 e3 e4 e5; simp [*]
theorem f_float {k : FloatKind} {v : Value} (ht : P.underlying t = some (.float k)) (h : DataW.trod enc P w base spare held fuel t [v] = some x) : ∃ b, v = .float k b ∧ (Lit.float k b).wf = true := by
  obtain ⟨b, hb, hw⟩ := trod_float ht h
  exact ⟨b, by injection hb, hw⟩
theorem f_int {k : IntKind} {v : Value} (ht : P.underlying t = some (.int k)) (h : DataW.trod enc P w base spare held fuel t [v] = some x) : ∃ n, v = .int k n ∧ (Lit.int k n).wf = true := by
  obtain ⟨b, hb, _, hw⟩ := DataW.trod_int ht h
  exact ⟨b, by injection hb, hw⟩
theorem i8_in {n : Int} (h : (Lit.int .i8 n).wf = true) : -128 ≤ n ∧ n ≤ 127 := by simpa [Lit.wf, IntKind.min, IntKind.max, IntKind.signed, IntKind.bits] using h
theorem i16_in {n : Int} (h : (Lit.int .i16 n).wf = true) : -32768 ≤ n ∧ n ≤ 32767 := by simpa [Lit.wf, IntKind.min, IntKind.max, IntKind.signed, IntKind.bits] using h
theorem i64_in {n : Int} (h : (Lit.int .i64 n).wf = true) : -9223372036854775808 ≤ n ∧ n ≤ 9223372036854775807 := by simpa [Lit.wf, IntKind.min, IntKind.max, IntKind.signed, IntKind.bits] using h
/-- What is so of each number below n for some value, is so for the values of a function. -/
theorem pick {α : Type} (d : α) {n : Nat} {p : Nat → α → Prop} (h : ∀ k, k < n → ∃ a, p k a) : ∃ f : Nat → α, ∀ k, k < n → p k (f k) := by
  classical
  refine ⟨fun k => if hk : k < n then Classical.choose (h k hk) else d, fun k hk => ?_⟩
  simp only [dif_pos hk]
  exact Classical.choose_spec (h k hk)
/-- A slice, by its elements' cells. -/
theorem open_rows {e : TypeId} (ht : P.underlying t = some (.slice e)) (h : DataW.trod enc P w base spare held fuel t cs = some x) :
    ∃ (A : Option Addr) (n c : Nat), cs = [.slice A n c] ∧ n ≤ c ∧ c ≤ maxLen ∧
      ∀ k, k < n → ∃ (cs' : List Value) (m : Nat) (y : DataW H × List MemPlace), cs'.length = P.cellsOf e ∧ DataW.trod enc P w base spare held m e cs' = some y ∧
        (0 < P.cellsOf e → ∃ b o, A = some ⟨b, o, none⟩ ∧ ∀ j, j < P.cellsOf e → w.cell? ⟨b, o + (k * P.cellsOf e + j), none⟩ = cs'[j]?) := by
  rcases open_slice ht h with ⟨h0, _⟩ | ⟨a, len, cap, m, n, D, Pl, hcs, hb, hl, hm, hmm, hx, hi⟩
  · exact ⟨none, 0, 0, h0, Nat.le_refl _, Nat.zero_le _, fun k hk => absurd hk (Nat.not_lt_zero _)⟩
  · refine ⟨some a, len, cap, hcs, hl, hm, fun k hk => ?_⟩
    obtain ⟨cs', hc, ht'⟩ := hi k (by rw [hmm]; split <;> omega)
    obtain ⟨_, hlen, hat⟩ := World.cells?_some hc
    refine ⟨cs', _, _, hlen, ht', fun hpos => ?_⟩
    obtain ⟨cs0, hc0, _⟩ := hi 0 (by rw [hmm]; split <;> omega)
    obtain ⟨_, hlen0, hat0⟩ := World.cells?_some hc0
    have h00 := hat0 0 hpos
    rw [List.getElem?_eq_getElem (by omega)] at h00
    have hsp := World.cell?_spot h00
    have hsp2 : a.spot = none := by simpa [Addr.add] using hsp
    obtain ⟨b, o, s⟩ := a
    simp only at hsp2
    subst hsp2
    refine ⟨b, o, rfl, fun j hj => ?_⟩
    rw [← hat j hj]
    congr 1
    unfold Addr.add
    by_cases h1 : k * P.cellsOf e = 0
    · rw [if_pos h1]
      by_cases h2 : j = 0
      · rw [if_pos h2, h1, h2]; simp
      · rw [if_neg h2, h1]; simp
    · rw [if_neg h1]
      by_cases h2 : j = 0
      · rw [if_pos h2, h2]; simp
      · rw [if_neg h2]; simp; omega
end
end Go.Proofs.Ytbelopcfmjgfiaa
