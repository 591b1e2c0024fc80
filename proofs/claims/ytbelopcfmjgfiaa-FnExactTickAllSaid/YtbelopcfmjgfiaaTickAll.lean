/- Contract: impl's TickAll. No condition. -/
import Derived.Test.YtbelopcfmjgfiaaCollect
import Derived.Test.YtbelopcfmjgfiaaRaisedS
import Derived.RegionTactic
namespace Go.Proofs.Ytbelopcfmjgfiaa
open Go Go.RowKit
attribute [local go_sem] binOp_flt binOp_fgt binOp_feq binOp_fne binOp_fle binOp_fge faRes_some run_fadd run_fsub run_fmul run_fdiv run_ofI run_store_float run_neg run_min1 ext_cell ext_frozen ext_lt ext_setCell ext_drew ext_drewN
def Rn.lightsL (R : Rn) (k : Nat) : List Value := (List.range k).map fun j => .float .f32 (R.light j)
theorem Rn.lightsL_succ (R : Rn) (k : Nat) : R.lightsL (k + 1) = R.lightsL k ++ [.float .f32 (R.light k)] := by
  unfold Rn.lightsL; rw [List.range_succ, List.map_append]; rfl
theorem Rn.lightsL_get (R : Rn) {n k : Nat} (h : k < n) : (R.lightsL n)[k]? = some (.float .f32 (R.light k)) := by
  unfold Rn.lightsL; simp [h]
def KeepsT (R : Rn) (M base : Nat) (k : Nat) (X : Nat → Prop) (w : World) : Prop :=
  ∃ A c, Holds M base 22 24 A k c (R.lightsL k) w ∧ ∀ j, X j ↔ j = M ∨ owns A j
theorem owns_some {g j : Nat} : owns (some ⟨g, 0, none⟩) j ↔ g = j := by unfold owns Value.ownBlock; simp
theorem each_T (R : Rn) (n M base : Nat) (hn : n ≤ 1000) : Each 87 #[.pointer (some ⟨M, 0, none⟩)] n R (KeepsT R M base) where
  stay := fun {k X W W'} ⟨A, c, h, hX⟩ _ hb => ⟨A, c, h.same (fun j hj => hb j ((hX j).2 hj)), hX⟩
  lt := fun {k X W} ⟨A, c, h, hX⟩ j hj => by
    rcases (hX j).1 hj with h1 | h1
    · rw [h1]; exact h.lt
    · exact (h.own_lt h1).2
  call := fun {k X W} hk ⟨A, c, h, hX⟩ => by
    refine (tickall1_any k (R.st' k) (R.st' (k + 1)) (R.light k) (R.up k) M base k c A _ (by omega) W h).mono ?_
    rintro e w' ⟨rfl, g, cap, h', hap, hg⟩
    refine ⟨rfl, fun j => j = M ∨ owns (some ⟨g, 0, none⟩) j, ⟨_, cap, by rw [R.lightsL_succ]; exact h', fun j => Iff.rfl⟩, hap.mono (fun j hj => (hX j).2 hj), fun j hj => ?_⟩
    rcases hj with h1 | h1
    · exact .inl ((hX j).2 (.inl h1))
    · rw [owns_some] at h1
      rw [← h1]
      exact hg.imp (fun h2 => (hX g).2 (.inr h2)) id
/-- What TickAll answers. -/
def Rn.outS (R : Rn) (sl ti : Int) (n : Nat) : St := if R.ask sl ti n = 0 then R.st' n else ⟨0, 0, 0⟩
def Rn.outN (R : Rn) (sl ti : Int) (n : Nat) : Nat := if R.ask sl ti n = 0 then n else 0
def TickAns (R : Rn) (sl ti : Int) (n : Nat) (w : World) (e : Ending) (w' : World) : Prop :=
  ∃ A c, e = .returned (.tuple #[(R.outS sl ti n).v, .slice A (R.outN sl ti n) c, .int .i64 (R.ask sl ti n)]) ∧ (∃ x, w' = ext w x) ∧ Own w' w.heap.size A (R.outN sl ti n) 24 (fun k => .float .f32 (R.light k))
/-- The boxes, and the result's. -/
structure TInv (R : Rn) (sl ti : Int) (w : World) (r : St) (wr : World) : Prop where
  s : SInv R sl ti w R.s0 wr
  r : wr.heap[w.heap.size + 1 + 1 + 1]? = some (.cells #[.int .i16 r.ti, .int .i8 r.wa, .int .i8 r.sm] 51 (0, 0))
theorem TInv.grow {R : Rn} {sl ti : Int} {w : World} {r : St} {wr W : World} (h : TInv R sl ti w r wr) (hb : Below wr.heap.size wr W) : TInv R sl ti w r W :=
  ⟨h.s.grow hb, (hb.block _ (lt_of_block h.r)).trans h.r⟩
theorem t_start (R : Rn) (sl ti : Int) (w : World) : TInv R sl ti w ⟨0, 0, 0⟩ ((sW R sl ti w).alloc (.cells #[.int .i16 0, .int .i8 0, .int .i8 0] 51)) :=
  ⟨(s_start (R := R)).grow ((Below.refl _ _).alloc (Nat.le_refl _) _), by
    rw [show w.heap.size + 1 + 1 + 1 = (sW R sl ti w).heap.size by simp [sW]]; exact heap_alloc_new _ _⟩
/-- A slice without elements, in a variable of its own. -/
theorem holds_new (W0 : World) (ts t : TypeId) : Holds (W0.heap.size + 1) W0.heap.size ts t (some ⟨W0.heap.size, 0, none⟩) 0 0 [] ((W0.alloc (.cells #[] t)).alloc (.cells #[.slice (some ⟨W0.heap.size, 0, none⟩) 0 0] ts)) := by
  refine ⟨?_, ⟨rfl, .inr ⟨W0.heap.size, 0, #[], rfl, Nat.le_refl _, ?_, Nat.le_refl _, Nat.zero_le _, rfl, rfl⟩⟩, ?_, by omega⟩
  · rw [show W0.heap.size + 1 = (W0.alloc (.cells #[] t)).heap.size by simp]; exact heap_alloc_new _ _
  · exact (((Below.refl _ _).alloc (Nat.le_refl _) _).block _ (by simp)).trans (heap_alloc_new _ _)
  · rw [owns_some]; omega
set_option maxRecDepth 100000 in
set_option maxHeartbeats 4000000 in
theorem TickAll_any (R : Rn) (sl ti : Int) (A : Option Addr) (n c : Nat) (hS : Small n R.T) (hn : n ≤ 9223372036854775807) (hw : R.wd < 4294967296) (hg : R.gp < 4294967296) (F : Fits R.st R.de R.ca sl ti R.s0) (w : World) (hT : RdT w A n R.T) :
    Calls Try.prog 44 #[.agg #[.float .f32 R.lo, .float .f32 R.hi, .float .f32 R.wi, .int .i8 R.st, .int .i8 R.de, .int .i8 R.ca], .agg #[.int .i8 sl, .float .f32 R.wd, .float .f32 R.gp, .int .i16 ti, .float .f32 R.sh], R.s0.v, .slice A n c] w (TickAns R sl ti n w) := by
  have HA : ∀ W, RdT W A n R.T → Calls Try.prog 59 #[.agg #[.float .f32 R.lo, .float .f32 R.hi, .float .f32 R.wi, .int .i8 R.st, .int .i8 R.de, .int .i8 R.ca], .agg #[.int .i8 sl, .float .f32 R.wd, .float .f32 R.gp, .int .i16 ti, .float .f32 R.sh], R.s0.v, .slice A n c] W fun e w' => e = .returned (.int .i64 (R.ask sl ti n)) ∧ ∃ x, w' = ext W x :=
    fun W hW => ticksCode_any A n c R.T hS hn R.lo R.hi R.wi R.st R.de R.ca sl R.wd R.gp ti R.sh R.s0 F W hW
  have HT := Lib.hid hT
  have I0 := Lib.hid (t_start R sl ti w)
  by_cases h : R.ask sl ti n = 0
  · have hok := Lib.hid (Rn.ok_of h hw hg)
    have hn2 := R.ask_le h
    have EA : Hid (R.outS sl ti n = R.st' n ∧ R.outN sl ti n = n ∧ R.ask sl ti n = 0) := ⟨by unfold Rn.outS; rw [if_pos h], by unfold Rn.outN; rw [if_pos h], h⟩
    rw [h] at HA
    clear h hS hw hg F hT
    unfold St.v at HA ⊢
    go_enter Try.func44, Try.ntmps44
    go_upto_region 4 with (go_at_call 59; refine (HA _ (HT.out.below (by (repeat' (first | (with_reducible exact Below.refl _ _) | (with_reducible assumption) | (with_reducible refine below_ext' ?_ ?_) | (with_reducible refine Below.alloc ?_ ?_ _) | (with_reducible refine below_drewN ?_ _) | (with_reducible refine Below.drew ?_) | (with_reducible refine Below.setCell ?_ ?_ _) | (with_reducible exact Nat.le_refl _) | (with_reducible refine ext_le _ _ ?_) | (simp; done) | (simp; omega) | omega))))).mono ?_; rintro e w' ⟨rfl, x, rfl⟩)
    have I1 := I0.out.grow (below_ext _ x)
    unfold sW at I1
    generalize ext ((((w.alloc (.cells #[.float .f32 R.lo, .float .f32 R.hi, .float .f32 R.wi, .int .i8 R.st, .int .i8 R.de, .int .i8 R.ca] 47)).alloc (.cells #[.int .i8 sl, .float .f32 R.wd, .float .f32 R.gp, .int .i16 ti, .float .f32 R.sh] 49)).alloc (.cells #[.int .i16 R.s0.ti, .int .i8 R.s0.wa, .int .i8 R.s0.sm] 51)).alloc (.cells #[.int .i16 0, .int .i8 0, .int .i8 0] 51)) x = W0 at I1 ⊢
    clear I0
    obtain ⟨b0, b1, b2, b3, b4⟩ := row5 I1.s.b
    obtain ⟨s0, s1, s2, _, _, _⟩ := row3 I1.s.s
    have z0 := lt_of_block I1.s.c
    have z1 := lt_of_block I1.s.b
    have z2 := lt_of_block I1.s.s
    have z3 := lt_of_block I1.r
    obtain ⟨y0, y0', _, _, _, _⟩ := lts z0
    obtain ⟨y1, y1', _, _, _, _⟩ := lts z1
    obtain ⟨y2, y2', _, _, _, _⟩ := lts z2
    obtain ⟨y3, y3', _, _, _, _⟩ := lts z3
    have I := Lib.hid I1; clear I1
    have HH := Lib.hid (holds_new W0 22 24)
    have hB0 : Hid (Below W0.heap.size W0 ((W0.alloc (.cells #[] 24)).alloc (.cells #[.slice (some ⟨W0.heap.size, 0, none⟩) 0 0] 22))) := (by (repeat' (first | (with_reducible exact Below.refl _ _) | (with_reducible assumption) | (with_reducible refine below_ext' ?_ ?_) | (with_reducible refine Below.alloc ?_ ?_ _) | (with_reducible refine below_drewN ?_ _) | (with_reducible refine Below.drew ?_) | (with_reducible refine Below.setCell ?_ ?_ _) | (with_reducible exact Nat.le_refl _) | (with_reducible refine ext_le _ _ ?_) | (simp; done) | (simp; omega) | omega)) : Below W0.heap.size W0 _)
    have hBw : Hid (Below w.heap.size w ((W0.alloc (.cells #[] 24)).alloc (.cells #[.slice (some ⟨W0.heap.size, 0, none⟩) 0 0] 22))) := below_step I.out.s.old hB0.out
    have hX : ∀ j, (j = W0.heap.size + 1 ∨ owns (some ⟨W0.heap.size, 0, none⟩) j) → W0.heap.size ≤ j := fun j hx => by
      rcases hx with hx | hx
      · omega
      · rw [owns_some] at hx; omega
    have HRUN := run_T hok.out (cq := none) sl ti A c hn (each_T R n (W0.heap.size + 1) W0.heap.size (by omega)) (fun j => j = W0.heap.size + 1 ∨ owns (some ⟨W0.heap.size, 0, none⟩) j) _ (I.out.s.control.below hB0.out) (HT.out.below hBw.out) ⟨_, _, HH.out, fun j => Iff.rfl⟩ (fun hx => absurd (hX _ hx) (by omega)) (fun h0 b' o' hA hx => by
      obtain ⟨b2', o2', h2, h3⟩ := HT.out 0 h0
      rw [hA] at h2; injection h2 with h2; injection h2 with h4 h5
      have h6 := h3.lt; rw [← h4] at h6
      exact absurd (hX _ hx) (by omega))
    unfold St.v at HRUN
    have HX := Lib.hid hX; have HR := Lib.hid HRUN; clear hX HRUN
    generalize hsn : R.st' n = sn at HR
    have Hsn := Lib.hid hsn; clear hsn
    go_wp2_with (go_at_call 60
                 refine (Calls.mono HR.out) ?_
                 rintro e w' ⟨rfl, X', ⟨A', c', HJ, hXX⟩, hAp, hX'⟩
                 have hr : w'.heap[w.heap.size + 1 + 1 + 1]? = some (.cells #[.int .i16 0, .int .i8 0, .int .i8 0] 51 (0, 0)) := (hAp.block _ (Nat.lt_of_lt_of_le z3 hB0.out.size) (fun hx => absurd (HX.out _ hx) (by omega))).trans ((hB0.out.block _ z3).trans I.out.r)
                 obtain ⟨r0, r1, r2, f0, f1, f2⟩ := row3 hr
                 have z4 := lt_of_block hr
                 have z5 := HJ.lt
                 have mc : w'.cell? ⟨W0.heap.size + 1, 0, none⟩ = some (.slice A' n c') := cell_of_row _ _ _ _ _ _ HJ.box
                 have hB2 := Lib.hid (Apart.to_below hBw.out hAp (fun j hx => by have := HX.out j hx; omega))
                 have HJ2 := Lib.hid HJ
                 clear HJ hXX hAp hX' b0 b1 b2 b3 b4 s0 s1 s2)
    have hr2 := Lib.hid hr; clear hr
    go_region
    have K1 : Below w.heap.size w ((((w'.setCell ⟨w.heap.size + 1 + 1 + 1, 0, none⟩ (.int .i16 sn.ti)).setCell ⟨w.heap.size + 1 + 1 + 1, 1, none⟩ (.int .i8 sn.wa)).setCell ⟨w.heap.size + 1 + 1 + 1, 2, none⟩ (.int .i8 sn.sm)).alloc (.cells #[.int .i16 sn.ti, .int .i8 sn.wa, .int .i8 sn.sm] 51)).drew := by
      have := hB2.out
      have := hB2.out.size
      (repeat' (first | (with_reducible exact Below.refl _ _) | (with_reducible assumption) | (with_reducible refine below_ext' ?_ ?_) | (with_reducible refine Below.alloc ?_ ?_ _) | (with_reducible refine below_drewN ?_ _) | (with_reducible refine Below.drew ?_) | (with_reducible refine Below.setCell ?_ ?_ _) | (with_reducible exact Nat.le_refl _) | (with_reducible refine ext_le _ _ ?_) | (simp; done) | (simp; omega) | omega))
    have K2 : Apart (fun j => j = w.heap.size + 1 + 1 + 1) w' ((((w'.setCell ⟨w.heap.size + 1 + 1 + 1, 0, none⟩ (.int .i16 sn.ti)).setCell ⟨w.heap.size + 1 + 1 + 1, 1, none⟩ (.int .i8 sn.wa)).setCell ⟨w.heap.size + 1 + 1 + 1, 2, none⟩ (.int .i8 sn.sm)).alloc (.cells #[.int .i16 sn.ti, .int .i8 sn.wa, .int .i8 sn.sm] 51)).drew := by
      (repeat' (first | (with_reducible exact apart_refl _ _) | (with_reducible assumption) | (with_reducible refine Apart.set ?_ ?_ _) | (with_reducible refine apart_alloc ?_ _) | (with_reducible refine apart_drew ?_) | (with_reducible rfl) | (with_reducible exact Or.inl rfl) | rfl))
    have K3 : ((((w'.setCell ⟨w.heap.size + 1 + 1 + 1, 0, none⟩ (.int .i16 sn.ti)).setCell ⟨w.heap.size + 1 + 1 + 1, 1, none⟩ (.int .i8 sn.wa)).setCell ⟨w.heap.size + 1 + 1 + 1, 2, none⟩ (.int .i8 sn.sm)).alloc (.cells #[.int .i16 sn.ti, .int .i8 sn.wa, .int .i8 sn.sm] 51)).drew.heap[w.heap.size + 1 + 1 + 1]? = some (.cells #[.int .i16 sn.ti, .int .i8 sn.wa, .int .i8 sn.sm] 51 (0, 0)) := by
      obtain ⟨h1, h2, h3⟩ := setCell3 (.int .i16 sn.ti) (.int .i8 sn.wa) (.int .i8 sn.sm) hr2.out
      exact (Below.heap_alloc _ _ _ (by rw [h3]; exact z4)).trans h1
    generalize ((((w'.setCell ⟨w.heap.size + 1 + 1 + 1, 0, none⟩ (.int .i16 sn.ti)).setCell ⟨w.heap.size + 1 + 1 + 1, 1, none⟩ (.int .i8 sn.wa)).setCell ⟨w.heap.size + 1 + 1 + 1, 2, none⟩ (.int .i8 sn.sm)).alloc (.cells #[.int .i16 sn.ti, .int .i8 sn.wa, .int .i8 sn.sm] 51)).drew = W9 at K1 K2 K3 ⊢
    obtain ⟨q0, q1, q2, _, _, _⟩ := row3 K3
    have E2 := EA.out.1; have E3 := EA.out.2.1; have E4 := EA.out.2.2
    rw [Hsn.out] at E2
    obtain ⟨A2, c2, hv, hO⟩ := Own.of_row HJ2.out.own (fun k hk => R.lightsL_get hk)
    injection hv with hv1 hv2 hv3
    subst hv1
    clear hv2 hv3
    have hO2 : Own W9 w.heap.size A' n 24 (fun k => .float .f32 (R.light k)) := (hO.lower (by omega)).block fun j hj hb => K2.block j hj (fun e => by
      obtain ⟨o', ho'⟩ := hb
      have := (HJ2.out.own_lt (j := j) (by rw [ho']; rfl)).1
      omega)
    have HF : Hid (TickAns R sl ti n w (.returned (.tuple #[.agg #[.int .i16 sn.ti, .int .i8 sn.wa, .int .i8 sn.sm], .slice A' n c', .int .i64 0])) W9) := by
      refine ⟨A', c', ?_, ex_of K1, ?_⟩
      · rw [E2, E3, E4]; rfl
      · rw [E3]; exact hO2
    clear E2 E3 E4 hO hO2 K1 K2 K3 HJ2 hB2 hr2
    go_wp2
    refine bodyPost_ret (v := .tuple #[.agg #[.int .i16 sn.ti, .int .i8 sn.wa, .int .i8 sn.sm], .slice A' n c', .int .i64 0]) ?_ rfl HF.out
    simp [results, Try.results44, go_sem, q0, q1, q2]
  · have EA : Hid (R.outS sl ti n = ⟨0, 0, 0⟩ ∧ R.outN sl ti n = 0) := ⟨by unfold Rn.outS; rw [if_neg h], by unfold Rn.outN; rw [if_neg h]⟩
    have hb : (R.ask sl ti n == 0) = false := by simpa using h
    have hb' : (R.ask sl ti n != 0) = true := by simpa using h
    have HF : ∀ W9, Below w.heap.size w W9 → TickAns R sl ti n w (.returned (.tuple #[.agg #[.int .i16 0, .int .i8 0, .int .i8 0], .slice none 0 0, .int .i64 (R.ask sl ti n)])) W9 := fun W9 hW => by
      refine ⟨none, 0, ?_, ex_of hW, ?_⟩
      · rw [EA.out.1, EA.out.2]; rfl
      · rw [EA.out.2]; exact .inl rfl
    clear hS hw hg F hT h
    have HF2 := Lib.hid HF; clear HF EA
    generalize R.ask sl ti n = cd at HA hb hb' HF2
    unfold St.v at HA ⊢
    go_enter Try.func44, Try.ntmps44
    go_upto_region 3 with (go_at_call 59; refine (HA _ (HT.out.below (by (repeat' (first | (with_reducible exact Below.refl _ _) | (with_reducible assumption) | (with_reducible refine below_ext' ?_ ?_) | (with_reducible refine Below.alloc ?_ ?_ _) | (with_reducible refine below_drewN ?_ _) | (with_reducible refine Below.drew ?_) | (with_reducible refine Below.setCell ?_ ?_ _) | (with_reducible exact Nat.le_refl _) | (with_reducible refine ext_le _ _ ?_) | (simp; done) | (simp; omega) | omega))))).mono ?_; rintro e w' ⟨rfl, x, rfl⟩)
    have I1 := I0.out.grow (below_ext _ x)
    unfold sW at I1
    generalize ext ((((w.alloc (.cells #[.float .f32 R.lo, .float .f32 R.hi, .float .f32 R.wi, .int .i8 R.st, .int .i8 R.de, .int .i8 R.ca] 47)).alloc (.cells #[.int .i8 sl, .float .f32 R.wd, .float .f32 R.gp, .int .i16 ti, .float .f32 R.sh] 49)).alloc (.cells #[.int .i16 R.s0.ti, .int .i8 R.s0.wa, .int .i8 R.s0.sm] 51)).alloc (.cells #[.int .i16 0, .int .i8 0, .int .i8 0] 51)) x = W0 at I1 ⊢
    clear I0
    obtain ⟨r0, r1, r2, f0, f1, f2⟩ := row3 I1.r
    have z3 := lt_of_block I1.r
    have I := Lib.hid I1; clear I1
    go_wp2
    have K1 : Below w.heap.size w (((W0.setCell ⟨w.heap.size + 1 + 1 + 1, 0, none⟩ (.int .i16 0)).setCell ⟨w.heap.size + 1 + 1 + 1, 1, none⟩ (.int .i8 0)).setCell ⟨w.heap.size + 1 + 1 + 1, 2, none⟩ (.int .i8 0)) := by
      have := I.out.s.old
      (repeat' (first | (with_reducible exact Below.refl _ _) | (with_reducible assumption) | (with_reducible refine below_ext' ?_ ?_) | (with_reducible refine Below.alloc ?_ ?_ _) | (with_reducible refine below_drewN ?_ _) | (with_reducible refine Below.drew ?_) | (with_reducible refine Below.setCell ?_ ?_ _) | (with_reducible exact Nat.le_refl _) | (with_reducible refine ext_le _ _ ?_) | (simp; done) | (simp; omega) | omega))
    have K3 := (setCell3 (.int .i16 0) (.int .i8 0) (.int .i8 0) I.out.r).1
    generalize ((W0.setCell ⟨w.heap.size + 1 + 1 + 1, 0, none⟩ (.int .i16 0)).setCell ⟨w.heap.size + 1 + 1 + 1, 1, none⟩ (.int .i8 0)).setCell ⟨w.heap.size + 1 + 1 + 1, 2, none⟩ (.int .i8 0) = W9 at K1 K3 ⊢
    obtain ⟨q0, q1, q2, _, _, _⟩ := row3 K3
    refine bodyPost_ret (v := .tuple #[.agg #[.int .i16 0, .int .i8 0, .int .i8 0], .slice none 0 0, .int .i64 cd]) ?_ rfl (HF2.out _ K1)
    simp [results, Try.results44, go_sem, q0, q1, q2]
end Go.Proofs.Ytbelopcfmjgfiaa
