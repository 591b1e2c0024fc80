/- Contract: impl's GlareTicks. No condition. -/
import Derived.Test.YtbelopcfmjgfiaaTickAll
import Derived.Test.YtbelopcfmjgfiaaGrow
namespace Go.Proofs.Ytbelopcfmjgfiaa
open Go Go.RowKit
attribute [local go_sem] binOp_flt binOp_fgt binOp_feq binOp_fne binOp_fle binOp_fge faRes_some run_fadd run_fsub run_fmul run_fdiv run_ofI run_store_float run_neg run_min1 ext_cell ext_frozen ext_lt ext_setCell ext_drew ext_drewN
/-- The ticks, of the first k, in which the light is greater than a bound. -/
def Rn.glareL (R : Rn) (bd : Nat) : Nat → List Int
  | 0 => []
  | k + 1 => if fgt (R.light k) bd = true then R.glareL bd k ++ [(k : Int)] else R.glareL bd k
theorem Rn.glareL_le (R : Rn) (bd : Nat) : ∀ k, (R.glareL bd k).length ≤ k
  | 0 => Nat.le_refl _
  | k + 1 => by
    have := Rn.glareL_le R bd k
    unfold Rn.glareL; split
    · simp; omega
    · omega
def KeepsG (R : Rn) (bd Q M base : Nat) (k : Nat) (X : Nat → Prop) (w : World) : Prop :=
  ∃ A c, Holds M base 23 2 A (R.glareL bd k).length c ((R.glareL bd k).map (Value.int .i64)) w ∧ w.heap[Q]? = some (.cells #[.float .f32 bd] 24 (0, 0)) ∧ ¬ Q = M ∧ ¬ owns A Q ∧ ∀ j, X j ↔ j = Q ∨ j = M ∨ owns A j
theorem each_G (R : Rn) (bd n Q M base : Nat) (hn : n ≤ 1000) : Each 88 #[.pointer (some ⟨Q, 0, none⟩), .pointer (some ⟨M, 0, none⟩)] n R (KeepsG R bd Q M base) where
  stay := fun {k X W W'} ⟨A, c, h, hq, h1, h2, hX⟩ _ hb => ⟨A, c, h.same (fun j hj => hb j ((hX j).2 (.inr hj))), (hb Q ((hX Q).2 (.inl rfl))).trans hq, h1, h2, hX⟩
  lt := fun {k X W} ⟨A, c, h, hq, _, _, hX⟩ j hj => by
    rcases (hX j).1 hj with h1 | h1 | h1
    · rw [h1]; exact size_of_block hq
    · rw [h1]; exact h.lt
    · exact (h.own_lt h1).2
  call := fun {k X W} hk ⟨A, c, h, hq, h1, h2, hX⟩ => by
    have hl := R.glareL_le bd k
    have hqc : W.cell? ⟨Q, 0, none⟩ = some (.float .f32 bd) := cell_of_row _ _ _ _ _ _ hq
    have hQ := size_of_block hq
    cases hgt : fgt (R.light k) bd with
    | false =>
      refine (glare1_no k (R.st' k) (R.st' (k + 1)) (R.light k) (R.up k) M Q bd W hqc hgt).mono ?_
      rintro e w' ⟨rfl, x, rfl⟩
      have hb := below_ext W x
      have e1 : R.glareL bd (k + 1) = R.glareL bd k := by simp [Rn.glareL, hgt]
      refine ⟨rfl, X, ⟨A, c, ?_, (hb.block Q hQ).trans hq, h1, h2, hX⟩, Apart.of_below hb, fun j hj => .inl hj⟩
      rw [e1]
      exact h.same (fun j hj => hb.block j (by
        rcases hj with hj | hj
        · rw [hj]; exact h.lt
        · exact (h.own_lt hj).2))
    | true =>
      refine (glare1_any k (R.st' k) (R.st' (k + 1)) (R.light k) (R.up k) M base _ c A _ (by omega) W Q bd hqc hgt h).mono ?_
      rintro e w' ⟨rfl, g, cap, h', hap, hg⟩
      have e1 : R.glareL bd (k + 1) = R.glareL bd k ++ [(k : Int)] := by simp [Rn.glareL, hgt]
      refine ⟨rfl, fun j => j = Q ∨ j = M ∨ owns (some ⟨g, 0, none⟩) j, ⟨some ⟨g, 0, none⟩, cap, ?_, (hap.block Q hQ (fun hx => hx.elim h1 h2)).trans hq, h1, ?_, fun j => Iff.rfl⟩, hap.mono (fun j hj => (hX j).2 (.inr hj)), fun j hj => ?_⟩
      · rw [e1, List.map_append, List.length_append]; exact h'
      · rw [owns_some]
        rcases hg with h3 | h3
        · intro e; exact h2 (e ▸ h3)
        · omega
      · rcases hj with h3 | h3 | h3
        · exact .inl ((hX j).2 (.inl h3))
        · exact .inl ((hX j).2 (.inr (.inl h3)))
        · rw [owns_some] at h3
          rw [← h3]
          exact hg.imp (fun h4 => (hX g).2 (.inr (.inr h4))) id
/-- What GlareTicks answers. -/
def Rn.gAsk (R : Rn) (sl ti : Int) (n bd : Nat) : Int := if R.ask sl ti n = 0 then (if partB bd = true then 0 else 2) else R.ask sl ti n
def Rn.gOut (R : Rn) (sl ti : Int) (n bd : Nat) : List Int := if R.gAsk sl ti n bd = 0 then R.glareL bd n else []
def GlareAns (R : Rn) (sl ti : Int) (n bd : Nat) (w : World) (e : Ending) (w' : World) : Prop :=
  ∃ A c, e = .returned (.tuple #[.slice A (R.gOut sl ti n bd).length c, .int .i64 (R.gAsk sl ti n bd)]) ∧ (∃ x, w' = ext w x) ∧ Own w' w.heap.size A (R.gOut sl ti n bd).length 2 (fI (R.gOut sl ti n bd))
/-- The boxes, and the bound's. -/
structure GInv (R : Rn) (sl ti : Int) (bd : Nat) (w : World) (wr : World) : Prop where
  s : SInv R sl ti w R.s0 wr
  q : wr.heap[w.heap.size + 1 + 1 + 1]? = some (.cells #[.float .f32 bd] 24 (0, 0))
theorem GInv.grow {R : Rn} {sl ti : Int} {bd : Nat} {w wr W : World} (h : GInv R sl ti bd w wr) (hb : Below wr.heap.size wr W) : GInv R sl ti bd w W :=
  ⟨h.s.grow hb, (hb.block _ (lt_of_block h.q)).trans h.q⟩
theorem g_start (R : Rn) (sl ti : Int) (bd : Nat) (w : World) : GInv R sl ti bd w ((sW R sl ti w).alloc (.cells #[.float .f32 bd] 24)) :=
  ⟨(s_start (R := R)).grow ((Below.refl _ _).alloc (Nat.le_refl _) _), by
    rw [show w.heap.size + 1 + 1 + 1 = (sW R sl ti w).heap.size by simp [sW]]; exact heap_alloc_new _ _⟩
set_option maxRecDepth 100000 in
set_option maxHeartbeats 4000000 in
theorem GlareTicks_any (R : Rn) (sl ti : Int) (A : Option Addr) (n c bd : Nat) (hS : Small n R.T) (hn : n ≤ 9223372036854775807) (hw : R.wd < 4294967296) (hg : R.gp < 4294967296) (F : Fits R.st R.de R.ca sl ti R.s0) (w : World) (hT : RdT w A n R.T) :
    Calls Try.prog 48 #[.agg #[.float .f32 R.lo, .float .f32 R.hi, .float .f32 R.wi, .int .i8 R.st, .int .i8 R.de, .int .i8 R.ca], .agg #[.int .i8 sl, .float .f32 R.wd, .float .f32 R.gp, .int .i16 ti, .float .f32 R.sh], R.s0.v, .slice A n c, .float .f32 bd] w (GlareAns R sl ti n bd w) := by
  have HA : ∀ W, RdT W A n R.T → Calls Try.prog 59 #[.agg #[.float .f32 R.lo, .float .f32 R.hi, .float .f32 R.wi, .int .i8 R.st, .int .i8 R.de, .int .i8 R.ca], .agg #[.int .i8 sl, .float .f32 R.wd, .float .f32 R.gp, .int .i16 ti, .float .f32 R.sh], R.s0.v, .slice A n c] W fun e w' => e = .returned (.int .i64 (R.ask sl ti n)) ∧ ∃ x, w' = ext W x :=
    fun W hW => ticksCode_any A n c R.T hS hn R.lo R.hi R.wi R.st R.de R.ca sl R.wd R.gp ti R.sh R.s0 F W hW
  have HT := Lib.hid hT
  have I0 := Lib.hid (g_start R sl ti bd w)
  have HP := fun W => IsPart_any bd W
  by_cases h : R.ask sl ti n = 0
  · have hok := Lib.hid (Rn.ok_of h hw hg)
    have hn2 := R.ask_le h
    cases hp : partB bd with
    | true =>
      have EA : Hid (R.gOut sl ti n bd = R.glareL bd n ∧ R.gAsk sl ti n bd = 0) := by
        have e : R.gAsk sl ti n bd = 0 := by unfold Rn.gAsk; rw [if_pos h, if_pos hp]
        exact ⟨by unfold Rn.gOut; rw [if_pos e], e⟩
      rw [h] at HA
      rw [hp] at HP
      clear h hS hw hg F hT hp
      unfold St.v at HA ⊢
      go_enter Try.func48, Try.ntmps48
      go_upto_region 6 with (first
        | (go_at_call 59; refine (HA _ (HT.out.below (by (repeat' (first | (with_reducible exact Below.refl _ _) | (with_reducible assumption) | (with_reducible refine below_ext' ?_ ?_) | (with_reducible refine Below.alloc ?_ ?_ _) | (with_reducible refine below_drewN ?_ _) | (with_reducible refine Below.drew ?_) | (with_reducible refine Below.setCell ?_ ?_ _) | (with_reducible exact Nat.le_refl _) | (with_reducible refine ext_le _ _ ?_) | (with_reducible refine le_alloc ?_ _) | (with_reducible refine le_set ?_ _ _) | (with_reducible refine le_drew ?_) | (with_reducible refine le_drewN ?_ _) | (simp; done) | (simp; omega) | omega))))).mono ?_; rintro e w' ⟨rfl, x, rfl⟩)
        | (go_at_call 82; refine (HP _).mono ?_; rintro e w' ⟨rfl, rfl⟩))
      have I1 := I0.out.grow (below_ext _ x)
      unfold sW at I1
      generalize ext ((((w.alloc (.cells #[.float .f32 R.lo, .float .f32 R.hi, .float .f32 R.wi, .int .i8 R.st, .int .i8 R.de, .int .i8 R.ca] 47)).alloc (.cells #[.int .i8 sl, .float .f32 R.wd, .float .f32 R.gp, .int .i16 ti, .float .f32 R.sh] 49)).alloc (.cells #[.int .i16 R.s0.ti, .int .i8 R.s0.wa, .int .i8 R.s0.sm] 51)).alloc (.cells #[.float .f32 bd] 24)) x = W0 at I1 ⊢
      clear I0
      obtain ⟨b0, b1, b2, b3, b4⟩ := row5 I1.s.b
      obtain ⟨s0, s1, s2, _, _, _⟩ := row3 I1.s.s
      have z0 := lt_of_block I1.s.c
      have z1 := lt_of_block I1.s.b
      have z2 := lt_of_block I1.s.s
      have z3 := lt_of_block I1.q
      obtain ⟨y0, y0', _, _, _, _⟩ := lts z0
      obtain ⟨y1, y1', _, _, _, _⟩ := lts z1
      obtain ⟨y2, y2', _, _, _, _⟩ := lts z2
      obtain ⟨y3, y3', _, _, _, _⟩ := lts z3
      have I := Lib.hid I1; clear I1
      have HH := Lib.hid (holds_new W0 23 2)
      have hB0 : Hid (Below W0.heap.size W0 ((W0.alloc (.cells #[] 2)).alloc (.cells #[.slice (some ⟨W0.heap.size, 0, none⟩) 0 0] 23))) := (by (repeat' (first | (with_reducible exact Below.refl _ _) | (with_reducible assumption) | (with_reducible refine below_ext' ?_ ?_) | (with_reducible refine Below.alloc ?_ ?_ _) | (with_reducible refine below_drewN ?_ _) | (with_reducible refine Below.drew ?_) | (with_reducible refine Below.setCell ?_ ?_ _) | (with_reducible exact Nat.le_refl _) | (with_reducible refine ext_le _ _ ?_) | (with_reducible refine le_alloc ?_ _) | (with_reducible refine le_set ?_ _ _) | (with_reducible refine le_drew ?_) | (with_reducible refine le_drewN ?_ _) | (simp; done) | (simp; omega) | omega)) : Below W0.heap.size W0 _)
      have hBw : Hid (Below w.heap.size w ((W0.alloc (.cells #[] 2)).alloc (.cells #[.slice (some ⟨W0.heap.size, 0, none⟩) 0 0] 23))) := below_step I.out.s.old hB0.out
      have hX : ∀ j, (j = w.heap.size + 1 + 1 + 1 ∨ j = W0.heap.size + 1 ∨ owns (some ⟨W0.heap.size, 0, none⟩) j) → j = w.heap.size + 1 + 1 + 1 ∨ W0.heap.size ≤ j := fun j hx => by
        rcases hx with hx | hx | hx
        · exact .inl hx
        · omega
        · rw [owns_some] at hx; omega
      have HRUN := run_G hok.out sl ti A c hn (each_G R bd n (w.heap.size + 1 + 1 + 1) (W0.heap.size + 1) W0.heap.size (by omega)) (fun j => j = w.heap.size + 1 + 1 + 1 ∨ j = W0.heap.size + 1 ∨ owns (some ⟨W0.heap.size, 0, none⟩) j) _ (I.out.s.control.below hB0.out) (HT.out.below hBw.out) ⟨_, _, HH.out, (hB0.out.block _ z3).trans I.out.q, by omega, by rw [owns_some]; omega, fun j => Iff.rfl⟩ (fun hx => by have := hX _ hx; omega) (fun h0 b' o' hA hx => by
        obtain ⟨b2', o2', h2, h3⟩ := HT.out 0 h0
        rw [hA] at h2; injection h2 with h2; injection h2 with h4 h5
        have h6 := h3.lt; rw [← h4] at h6
        have := hX _ hx; omega)
      unfold St.v at HRUN
      have HX := Lib.hid hX; have HR := Lib.hid HRUN; clear hX HRUN
      generalize hsn : R.st' n = sn at HR
      clear hsn
      go_wp2_with (go_at_call 60
                   refine (Calls.mono HR.out) ?_
                   rintro e w' ⟨rfl, X', ⟨A', c', HJ, _, _, _, hXX⟩, hAp, hX'⟩
                   have z5 := HJ.lt
                   have mc : w'.cell? ⟨W0.heap.size + 1, 0, none⟩ = some (.slice A' (R.glareL bd n).length c') := cell_of_row _ _ _ _ _ _ HJ.box
                   have hB2 := Lib.hid (Apart.to_below hBw.out hAp (fun j hx => by have := HX.out j hx; omega))
                   have HJ2 := Lib.hid HJ
                   clear HJ hXX hAp hX' b0 b1 b2 b3 b4 s0 s1 s2)
      have E2 := EA.out.1; have E3 := EA.out.2
      obtain ⟨A2, c2, hv, hO⟩ := Own.of_row (f := fI (R.glareL bd n)) HJ2.out.own (fun k hk => by rw [nthI_map hk]; rfl)
      injection hv with hv1 hv2 hv3
      subst hv1
      clear hv2 hv3
      have HF : Hid (GlareAns R sl ti n bd w (.returned (.tuple #[.slice A' (R.glareL bd n).length c', .int .i64 0])) w') := by
        refine ⟨A', c', ?_, ex_of hB2.out, ?_⟩
        · rw [E2, E3]
        · rw [E2]; exact hO.lower (by omega)
      clear E2 E3 hO HJ2 hB2
      refine bodyPost_ret (v := .tuple #[.slice A' (R.glareL bd n).length c', .int .i64 0]) ?_ rfl HF.out
      simp [results, Try.results48, go_sem]
    | false =>
      have e : R.gAsk sl ti n bd = 2 := by unfold Rn.gAsk; rw [if_pos h, hp]; rfl
      have EA : Hid (R.gOut sl ti n bd = [] ∧ R.gAsk sl ti n bd = 2) := ⟨by unfold Rn.gOut; rw [e]; rfl, e⟩
      have HF : ∀ W9, Below w.heap.size w W9 → GlareAns R sl ti n bd w (.returned (.tuple #[.slice none 0 0, .int .i64 2])) W9 := fun W9 hW => by
        refine ⟨none, 0, ?_, ex_of hW, ?_⟩
        · rw [EA.out.1, EA.out.2]; rfl
        · rw [EA.out.1]; exact .inl rfl
      rw [h] at HA
      rw [hp] at HP
      clear hS hw hg F hT h hp e
      have HF2 := Lib.hid HF; clear HF EA
      unfold St.v at HA ⊢
      go_enter Try.func48, Try.ntmps48
      go_wp2_with (first
        | (go_at_call 59; refine (HA _ (HT.out.below (by (repeat' (first | (with_reducible exact Below.refl _ _) | (with_reducible assumption) | (with_reducible refine below_ext' ?_ ?_) | (with_reducible refine Below.alloc ?_ ?_ _) | (with_reducible refine below_drewN ?_ _) | (with_reducible refine Below.drew ?_) | (with_reducible refine Below.setCell ?_ ?_ _) | (with_reducible exact Nat.le_refl _) | (with_reducible refine ext_le _ _ ?_) | (with_reducible refine le_alloc ?_ _) | (with_reducible refine le_set ?_ _ _) | (with_reducible refine le_drew ?_) | (with_reducible refine le_drewN ?_ _) | (simp; done) | (simp; omega) | omega))))).mono ?_; rintro e w' ⟨rfl, x, rfl⟩)
        | (go_at_call 82; refine (HP _).mono ?_; rintro e w' ⟨rfl, rfl⟩))
      refine bodyPost_ret (v := .tuple #[.slice none 0 0, .int .i64 2]) ?_ rfl (HF2.out _ (by (repeat' (first | (with_reducible exact Below.refl _ _) | (with_reducible assumption) | (with_reducible refine below_ext' ?_ ?_) | (with_reducible refine Below.alloc ?_ ?_ _) | (with_reducible refine below_drewN ?_ _) | (with_reducible refine Below.drew ?_) | (with_reducible refine Below.setCell ?_ ?_ _) | (with_reducible exact Nat.le_refl _) | (with_reducible refine ext_le _ _ ?_) | (with_reducible refine le_alloc ?_ _) | (with_reducible refine le_set ?_ _ _) | (with_reducible refine le_drew ?_) | (with_reducible refine le_drewN ?_ _) | (simp; done) | (simp; omega) | omega))))
      simp [results, Try.results48, go_sem]
  · have e : R.gAsk sl ti n bd = R.ask sl ti n := by unfold Rn.gAsk; rw [if_neg h]
    have EA : Hid (R.gOut sl ti n bd = [] ∧ R.gAsk sl ti n bd = R.ask sl ti n) := ⟨by unfold Rn.gOut; rw [e, if_neg h], e⟩
    have hb : (R.ask sl ti n == 0) = false := by simpa using h
    have hb' : (R.ask sl ti n != 0) = true := by simpa using h
    have HF : ∀ W9, Below w.heap.size w W9 → GlareAns R sl ti n bd w (.returned (.tuple #[.slice none 0 0, .int .i64 (R.ask sl ti n)])) W9 := fun W9 hW => by
      refine ⟨none, 0, ?_, ex_of hW, ?_⟩
      · rw [EA.out.1, EA.out.2]; rfl
      · rw [EA.out.1]; exact .inl rfl
    clear hS hw hg F hT h e
    have HF2 := Lib.hid HF; clear HF EA
    generalize R.ask sl ti n = cd at HA hb hb' HF2
    unfold St.v at HA ⊢
    go_enter Try.func48, Try.ntmps48
    go_wp2_with (go_at_call 59; refine (HA _ (HT.out.below (by (repeat' (first | (with_reducible exact Below.refl _ _) | (with_reducible assumption) | (with_reducible refine below_ext' ?_ ?_) | (with_reducible refine Below.alloc ?_ ?_ _) | (with_reducible refine below_drewN ?_ _) | (with_reducible refine Below.drew ?_) | (with_reducible refine Below.setCell ?_ ?_ _) | (with_reducible exact Nat.le_refl _) | (with_reducible refine ext_le _ _ ?_) | (with_reducible refine le_alloc ?_ _) | (with_reducible refine le_set ?_ _ _) | (with_reducible refine le_drew ?_) | (with_reducible refine le_drewN ?_ _) | (simp; done) | (simp; omega) | omega))))).mono ?_; rintro e w' ⟨rfl, x, rfl⟩)
    refine bodyPost_ret (v := .tuple #[.slice none 0 0, .int .i64 cd]) ?_ rfl (HF2.out _ (by (repeat' (first | (with_reducible exact Below.refl _ _) | (with_reducible assumption) | (with_reducible refine below_ext' ?_ ?_) | (with_reducible refine Below.alloc ?_ ?_ _) | (with_reducible refine below_drewN ?_ _) | (with_reducible refine Below.drew ?_) | (with_reducible refine Below.setCell ?_ ?_ _) | (with_reducible exact Nat.le_refl _) | (with_reducible refine ext_le _ _ ?_) | (with_reducible refine le_alloc ?_ _) | (with_reducible refine le_set ?_ _ _) | (with_reducible refine le_drew ?_) | (with_reducible refine le_drewN ?_ _) | (simp; done) | (simp; omega) | omega))))
    simp [results, Try.results48, go_sem]
end Go.Proofs.Ytbelopcfmjgfiaa
