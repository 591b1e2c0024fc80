/- Contract: impl's run, over a closure of which is told what it keeps (J) and which blocks it owns (X). No condition. -/
import Derived.Test.YtbelopcfmjgfiaaAsk
import Derived.Test.YtbelopcfmjgfiaaApart
namespace Go.Proofs.Ytbelopcfmjgfiaa
open Go Go.RowKit
attribute [local go_sem] binOp_flt binOp_fgt binOp_feq binOp_fne binOp_fle binOp_fge faRes_some run_fadd run_fsub run_fmul run_fdiv run_ofI run_store_float run_neg run_min1 ext_cell ext_frozen ext_lt ext_setCell ext_drew ext_drewN
/-- What a run starts with: the control, the blind, the state, the ticks. -/
structure Rn where
  lo : Nat
  hi : Nat
  wi : Nat
  st : Int
  de : Int
  ca : Int
  wd : Nat
  gp : Nat
  sh : Nat
  s0 : St
  T : Nat → Tk
/-- The state ahead of tick k. -/
def Rn.st' (R : Rn) : Nat → St
  | 0 => R.s0
  | k + 1 => tickF R.lo R.hi R.wi R.st R.de R.ca R.wd R.gp R.sh (R.st' k) (R.T k).li (R.T k).gu (R.T k).he
def Rn.light (R : Rn) (k : Nat) : Nat := lightF R.wi R.ca R.wd R.gp R.sh (R.st' k) (R.T k).li (R.T k).gu (R.T k).he
def Rn.up (R : Rn) (k : Nat) : Bool := upF R.wi R.ca (R.st' k) (R.T k).gu
structure Rn.Ok (R : Rn) (n : Nat) : Prop where
  run : RunOk R.lo R.hi R.wi R.st R.de R.ca R.wd R.gp R.sh
  s0 : StOk R.s0
  tk : ∀ k, k < n → vTk (R.T k) = true
theorem Rn.ok_at {R : Rn} {n : Nat} (h : R.Ok n) : ∀ k, StOk (R.st' k)
  | 0 => h.s0
  | k + 1 => tick_ok h.run (Rn.ok_at h k) _ _ _
theorem vTk_parts {t : Tk} (h : vTk t = true) : Part t.li ∧ Part t.gu ∧ 1 ≤ t.he ∧ t.he ≤ 64 := by
  unfold vTk vTick at h
  simp only [Bool.and_eq_true] at h
  exact ⟨part_of h.1, part_of h.2.1, (inB_iff.1 h.2.2).1, (inB_iff.1 h.2.2).2⟩
/-- What the closure keeps: J, at tick k, owning X. -/
structure Each (g : Nat) (lb : Array Value) (n : Nat) (R : Rn) (J : Nat → (Nat → Prop) → World → Prop) : Prop where
  stay : ∀ {k X W W'}, J k X W → W.heap.size ≤ W'.heap.size → (∀ j, X j → W'.heap[j]? = W.heap[j]?) → J k X W'
  lt : ∀ {k X W}, J k X W → ∀ j, X j → j < W.heap.size
  call : ∀ {k X W}, k < n → J k X W → Calls Try.prog g (#[.int .i64 k, (R.st' k).v, (R.st' (k + 1)).v, .float .f32 (R.light k), .bool (R.up k)] ++ lb) W fun e w' =>
    e = .returned (.tuple #[]) ∧ ∃ X', J (k + 1) X' w' ∧ Apart X W w' ∧ ∀ j, X' j → X j ∨ W.heap.size ≤ j

/-- The world behind the run's own boxes. -/
noncomputable def runW (R : Rn) (sl ti : Int) (w : World) : World :=
  ((w.alloc (.cells #[.int .i8 sl, .float .f32 R.wd, .float .f32 R.gp, .int .i16 ti, .float .f32 R.sh] 49)).alloc (.cells #[.int .i16 R.s0.ti, .int .i8 R.s0.wa, .int .i8 R.s0.sm] 51)).alloc (.cells #[.int .i16 0, .int .i8 0, .int .i8 0] 51)
/-- What holds ahead of tick kk. -/
structure RunInv (R : Rn) (J : Nat → (Nat → Prop) → World → Prop) (X0 : Nat → Prop) (sl ti : Int) (w : World) (kk : Nat) (v : St) (X : Nat → Prop) (wr : World) : Prop where
  j : J kk X wr
  ap : Apart (fun j => X0 j ∨ j = w.heap.size + 1) (runW R sl ti w) wr
  x : ∀ j, X j → X0 j ∨ w.heap.size + 3 ≤ j
  x0 : ∀ j, X0 j → j < w.heap.size
  s : wr.heap[w.heap.size + 1]? = some (.cells #[.int .i16 v.ti, .int .i8 v.wa, .int .i8 v.sm] 51 (0, 0))
section
variable {R : Rn} {J : Nat → (Nat → Prop) → World → Prop} {X X0 : Nat → Prop} {sl ti : Int} {w wr : World} {kk : Nat} {v : St}
theorem runW_size : (runW R sl ti w).heap.size = w.heap.size + 3 := by simp [runW]
theorem runW_below : Below w.heap.size w (runW R sl ti w) := by unfold runW; exact (((Below.refl _ _).alloc (Nat.le_refl _) _).alloc (by simp) _).alloc (by simp; omega) _
theorem RunInv.size (h : RunInv R J X0 sl ti w kk v X wr) : w.heap.size + 3 ≤ wr.heap.size := by have := h.ap.size; rwa [runW_size] at this
theorem RunInv.old (h : RunInv R J X0 sl ti w kk v X wr) {b : Nat} (hb : b < w.heap.size) (hx : ¬ X0 b) : wr.heap[b]? = w.heap[b]? :=
  (h.ap.block b (by rw [runW_size]; omega) (fun h1 => h1.elim hx (fun a => by omega))).trans (runW_below.block b hb)
theorem RunInv.bl (h : RunInv R J X0 sl ti w kk v X wr) : wr.heap[w.heap.size]? = some (.cells #[.int .i8 sl, .float .f32 R.wd, .float .f32 R.gp, .int .i16 ti, .float .f32 R.sh] 49 (0, 0)) := by
  rw [h.ap.block _ (by rw [runW_size]; omega) (fun h1 => h1.elim (fun a => absurd (h.x0 _ a) (by omega)) (fun a => by omega))]
  unfold runW
  exact ((((Below.refl (w.heap.size + 1) (w.alloc (.cells #[.int .i8 sl, .float .f32 R.wd, .float .f32 R.gp, .int .i16 ti, .float .f32 R.sh] 49))).alloc (by simp) _).alloc (by simp) _).block _ (by omega)).trans (heap_alloc_new w _)
theorem RunInv.re (h : RunInv R J X0 sl ti w kk v X wr) : wr.heap[w.heap.size + 1 + 1]? = some (.cells #[.int .i16 0, .int .i8 0, .int .i8 0] 51 (0, 0)) := by
  rw [h.ap.block _ (by rw [runW_size]; omega) (fun h1 => h1.elim (fun a => absurd (h.x0 _ a) (by omega)) (fun a => by omega))]
  unfold runW
  rw [show w.heap.size + 1 + 1 = ((w.alloc (.cells #[.int .i8 sl, .float .f32 R.wd, .float .f32 R.gp, .int .i16 ti, .float .f32 R.sh] 49)).alloc (.cells #[.int .i16 R.s0.ti, .int .i8 R.s0.wa, .int .i8 R.s0.sm] 51)).heap.size by simp]
  exact heap_alloc_new _ _
end
theorem ControlAt.block {w w' : World} {b o : Nat} {lo hi wi : Nat} {st de ca : Int} (h : ControlAt w b o lo hi wi st de ca) (hb : w'.heap[b]? = w.heap[b]?) : ControlAt w' b o lo hi wi st de ca := by
  obtain ⟨c0, c1, c2, c3, c4, c5⟩ := h
  simp only [World.cell?] at c0 c1 c2 c3 c4 c5
  constructor <;> (simp only [World.cell?, hb]; assumption)
theorem TickAt.block {w w' : World} {b o : Nat} {li gu : Nat} {he : Int} (h : TickAt w b o li gu he) (hb : w'.heap[b]? = w.heap[b]?) : TickAt w' b o li gu he := by
  obtain ⟨c0, c1, c2⟩ := h
  simp only [World.cell?] at c0 c1 c2
  constructor <;> (simp only [World.cell?, hb]; assumption)
theorem ControlAt.alloc {w : World} {b o : Nat} {lo hi wi : Nat} {st de ca : Int} (h : ControlAt w b o lo hi wi st de ca) (ob : Obj) : ControlAt (w.alloc ob) b o lo hi wi st de ca :=
  h.block (((Below.refl w.heap.size w).alloc (Nat.le_refl _) ob).block b (World.block_lt_of_cell? w _ h.c0))
section
variable {g : Nat} {lb : Array Value} {n : Nat} {R : Rn} {J : Nat → (Nat → Prop) → World → Prop} {X X' X0 : Nat → Prop} {sl ti : Int} {w wr : World} {kk : Nat} {v : St}
theorem Each.below (E : Each g lb n R J) {W W' : World} (h : J kk X W) (hb : Below W.heap.size W W') : J kk X W' := E.stay h hb.size (fun j hj => hb.block j (E.lt h j hj))
theorem run_start (E : Each g lb n R J) (h0 : J 0 X0 w) : RunInv R J X0 sl ti w 0 (R.st' 0) X0 (runW R sl ti w) := by
  refine ⟨E.below h0 runW_below, ⟨rfl, rfl, rfl, Nat.le_refl _, fun _ _ _ => rfl⟩, fun j hj => Or.inl hj, E.lt h0, ?_⟩
  unfold runW
  rw [show w.heap.size + 1 = (w.alloc (.cells #[.int .i8 sl, .float .f32 R.wd, .float .f32 R.gp, .int .i16 ti, .float .f32 R.sh] 49)).heap.size by simp]
  exact (((Below.refl _ _).alloc (Nat.le_refl _) _).block _ (by simp)).trans (heap_alloc_new _ _)
theorem run_step {W' w' : World} (I : RunInv R J X0 sl ti w kk v X wr) (hB : Below wr.heap.size wr W') (hJ : J (kk + 1) X' w') (hA : Apart X W' w') (hX : ∀ j, X' j → X j ∨ W'.heap.size ≤ j) :
    RunInv R J X0 sl ti w (kk + 1) v X' w' := by
  have hs := I.size
  have h3 : ∀ j, j < wr.heap.size → ¬ X j → w'.heap[j]? = wr.heap[j]? := fun j hj hx => (hA.block j (Nat.lt_of_lt_of_le hj hB.size) hx).trans (hB.block j hj)
  refine ⟨hJ, ⟨?_, ?_, ?_, ?_, ?_⟩, ?_, I.x0, ?_⟩
  · exact (hA.os.trans hB.os).trans I.ap.os
  · exact (hA.tape.trans hB.tape).trans I.ap.tape
  · exact (hA.output.trans hB.output).trans I.ap.output
  · exact Nat.le_trans I.ap.size (Nat.le_trans hB.size hA.size)
  · intro k hk hx
    rw [runW_size] at hk
    rw [h3 k (by omega) (fun hX => (I.x k hX).elim (fun a => hx (Or.inl a)) (fun a => by omega))]
    exact I.ap.block k (by rw [runW_size]; exact hk) hx
  · intro j hj
    rcases hX j hj with h1 | h1
    · exact I.x j h1
    · have := hB.size; right; omega
  · rw [h3 _ (by omega) (fun hX => (I.x _ hX).elim (fun a => absurd (I.x0 _ a) (by omega)) (fun a => by omega))]
    exact I.s
theorem row1 {w : World} {b : Nat} {t : TypeId} {x : Value} (h : w.heap[b]? = some (.cells #[x] t (0, 0))) : w.cell? ⟨b, 0, none⟩ = some x ∧ w.frozen? ⟨b, 0, none⟩ = false :=
  ⟨cell_of_row _ _ _ _ _ _ h, frozen_of_row _ _ _ _ _ h⟩
theorem row3 {w : World} {b : Nat} {t : TypeId} {x y z : Value} (h : w.heap[b]? = some (.cells #[x, y, z] t (0, 0))) :
    w.cell? ⟨b, 0, none⟩ = some x ∧ w.cell? ⟨b, 1, none⟩ = some y ∧ w.cell? ⟨b, 2, none⟩ = some z ∧ w.frozen? ⟨b, 0, none⟩ = false ∧ w.frozen? ⟨b, 1, none⟩ = false ∧ w.frozen? ⟨b, 2, none⟩ = false :=
  ⟨cell_of_row _ _ _ _ _ _ h, cell_of_row _ _ _ _ _ _ h, cell_of_row _ _ _ _ _ _ h, frozen_of_row _ _ _ _ _ h, frozen_of_row _ _ _ _ _ h, frozen_of_row _ _ _ _ _ h⟩
theorem row5 {w : World} {b : Nat} {t : TypeId} {x y z p q : Value} (h : w.heap[b]? = some (.cells #[x, y, z, p, q] t (0, 0))) :
    w.cell? ⟨b, 0, none⟩ = some x ∧ w.cell? ⟨b, 1, none⟩ = some y ∧ w.cell? ⟨b, 2, none⟩ = some z ∧ w.cell? ⟨b, 3, none⟩ = some p ∧ w.cell? ⟨b, 4, none⟩ = some q :=
  ⟨cell_of_row _ _ _ _ _ _ h, cell_of_row _ _ _ _ _ _ h, cell_of_row _ _ _ _ _ _ h, cell_of_row _ _ _ _ _ _ h, cell_of_row _ _ _ _ _ _ h⟩
theorem setCell3 {w' : World} {b : Nat} {t : TypeId} (x y z : Value) {p q r : Value} (h : w'.heap[b]? = some (.cells #[p, q, r] t (0, 0))) :
    (((w'.setCell ⟨b, 0, none⟩ x).setCell ⟨b, 1, none⟩ y).setCell ⟨b, 2, none⟩ z).heap[b]? = some (.cells #[x, y, z] t (0, 0)) ∧
    (∀ j, j ≠ b → (((w'.setCell ⟨b, 0, none⟩ x).setCell ⟨b, 1, none⟩ y).setCell ⟨b, 2, none⟩ z).heap[j]? = w'.heap[j]?) ∧
    (((w'.setCell ⟨b, 0, none⟩ x).setCell ⟨b, 1, none⟩ y).setCell ⟨b, 2, none⟩ z).heap.size = w'.heap.size := by
  refine ⟨?_, fun j hj => ?_, ?_⟩
  · simp [World.setCell, Array.getElem?_modify, h]
  · simp [World.setCell, Array.getElem?_modify, Ne.symm hj]
  · simp [World.setCell]
theorem run_store {w' : World} (E : Each g lb n R J) (I : RunInv R J X0 sl ti w kk v X w') (v2 : St) :
    RunInv R J X0 sl ti w kk v2 X (((w'.setCell ⟨w.heap.size + 1, 0, none⟩ (.int .i16 v2.ti)).setCell ⟨w.heap.size + 1, 1, none⟩ (.int .i8 v2.wa)).setCell ⟨w.heap.size + 1, 2, none⟩ (.int .i8 v2.sm)) := by
  have hs := I.size
  obtain ⟨h1, h2, h3⟩ := setCell3 (.int .i16 v2.ti) (.int .i8 v2.wa) (.int .i8 v2.sm) I.s
  refine ⟨E.stay I.j (by omega) (fun j hj => h2 j ?_), ⟨I.ap.os, I.ap.tape, I.ap.output, ?_, ?_⟩, I.x, I.x0, h1⟩
  · intro e; subst e
    exact (I.x _ hj).elim (fun a => absurd (I.x0 _ a) (by omega)) (fun a => by omega)
  · rw [h3]; exact I.ap.size
  · intro k hk hx
    rw [h2 k (fun e => hx (Or.inr e))]
    exact I.ap.block k hk hx
theorem run_end {w' : World} (E : Each g lb n R J) (I : RunInv R J X0 sl ti w kk v X w') (x y z : Value) :
    ∃ X', J kk X' (((w'.setCell ⟨w.heap.size + 1 + 1, 0, none⟩ x).setCell ⟨w.heap.size + 1 + 1, 1, none⟩ y).setCell ⟨w.heap.size + 1 + 1, 2, none⟩ z) ∧
      Apart X0 w (((w'.setCell ⟨w.heap.size + 1 + 1, 0, none⟩ x).setCell ⟨w.heap.size + 1 + 1, 1, none⟩ y).setCell ⟨w.heap.size + 1 + 1, 2, none⟩ z) ∧ ∀ j, X' j → X0 j ∨ w.heap.size ≤ j := by
  have hs := I.size
  obtain ⟨h1, h2, h3⟩ := setCell3 x y z I.re
  have hb := runW_below (R := R) (sl := sl) (ti := ti) (w := w)
  refine ⟨X, E.stay I.j (by omega) (fun j hj => h2 j ?_), ⟨I.ap.os.trans hb.os, I.ap.tape.trans hb.tape, I.ap.output.trans hb.output, ?_, ?_⟩, fun j hj => (I.x j hj).imp id (fun a => by omega)⟩
  · intro e; subst e
    exact (I.x _ hj).elim (fun a => absurd (I.x0 _ a) (by omega)) (fun a => by omega)
  · rw [h3]; omega
  · intro k hk hx
    rw [h2 k (by omega)]
    exact I.old hk hx
end
set_option maxRecDepth 100000 in
set_option maxHeartbeats 4000000 in
theorem run_R {R : Rn} {n : Nat} (hR : R.Ok n) {b o : Nat} (sl ti : Int) (A : Option Addr) (c : Nat) (hn : n ≤ 9223372036854775807) {J : Nat → (Nat → Prop) → World → Prop}
    {cp cq : Option Addr} (E : Each 61 #[.pointer cp] n R J) (X0 : Nat → Prop) (w : World) (hC : ControlAt w b o R.lo R.hi R.wi R.st R.de R.ca) (hT : RdT w A n R.T) (h0 : J 0 X0 w) (hbX : ¬ X0 b) (hAX : 0 < n → ∀ b' o', A = some ⟨b', o', none⟩ → ¬ X0 b') :
    Calls Try.prog 60 #[.pointer (some ⟨b, o, none⟩), .agg #[.int .i8 sl, .float .f32 R.wd, .float .f32 R.gp, .int .i16 ti, .float .f32 R.sh], R.s0.v, .slice A n c, .func (.func 61) #[] #[.pointer cp]] w fun e w' =>
      e = .returned (R.st' n).v ∧ ∃ X', J n X' w' ∧ Apart X0 w w' ∧ ∀ j, X' j → X0 j ∨ w.heap.size ≤ j := by
  go_enter Try.func60, Try.ntmps60
  have hcq := cq
  clear hcq
  unfold St.v
  have hC' := Lib.hid hC; have hT' := Lib.hid hT; have hR' := Lib.hid hR; have E' := Lib.hid E; clear hC hT hR E
  go_wp2
  go_loopg [11, 12, 13, 14, 15, 18] n (fun gg _ _ _ _ _ s18 wr => ∃ kk : Nat, kk ≤ n ∧ n - kk ≤ gg ∧ s18 = .int .i64 kk ∧ ∃ X, Aside (RunInv R J X0 sl ti w kk (R.st' kk) X wr))
  case atStart => exact ⟨0, Nat.zero_le _, by omega, rfl, X0, run_start E'.out h0⟩
  case round =>
    obtain ⟨kk, hkk, hg, rfl, X, I⟩ := hrel
    have hsz := I.out.size
    have z0 : w.heap.size < wr.heap.size := by omega
    have z1 : w.heap.size + 1 < wr.heap.size := by omega
    have z2 : w.heap.size + 1 + 1 < wr.heap.size := by omega
    obtain ⟨g0, g1, g2, _, _, _⟩ := row3 I.out.s
    by_cases hlt : kk < n
    · have hltz : (kk : Int) < (n : Int) := by omega
      obtain ⟨bt, ot, rfl, hTk⟩ := hT'.out kk hlt
      have hbt := hTk.lt
      obtain ⟨t0, t1, t2⟩ := hTk.block (I.out.old hbt (hAX (by omega) _ _ rfl))
      have hbt1 : bt < wr.heap.size := World.block_lt_of_cell? wr _ t0
      have hC1 := Lib.hid (hC'.out.block (I.out.old (World.block_lt_of_cell? w _ hC'.out.c0) hbX))
      obtain ⟨b0, b1, b2, b3, b4⟩ := row5 I.out.bl
      obtain ⟨p1, _, p2, p3⟩ := vTk_parts (hR'.out.tk kk hlt)
      have HT1 := fun W hW => tick_any (b := b) (o := o) sl ti hR'.out.run (Rn.ok_at hR'.out kk) (gu := (R.T kk).gu) p1 p2 p3 W hW
      have HE1 : ∀ W, J kk X W → Calls Try.prog 61 #[.int .i64 kk, (R.st' kk).v, (R.st' (kk + 1)).v, .float .f32 (R.light kk), .bool (R.up kk), .pointer cp] W fun e w' =>
        e = .returned (.tuple #[]) ∧ ∃ X', J (kk + 1) X' w' ∧ Apart X W w' ∧ ∀ j, X' j → X j ∨ W.heap.size ≤ j := fun W hW => E'.out.call hlt hW
      have et : (tickF R.lo R.hi R.wi R.st R.de R.ca R.wd R.gp R.sh (R.st' kk) (R.T kk).li (R.T kk).gu (R.T kk).he) = R.st' (kk + 1) := rfl
      have el : (lightF R.wi R.ca R.wd R.gp R.sh (R.st' kk) (R.T kk).li (R.T kk).gu (R.T kk).he) = R.light kk := rfl
      have eu : upF R.wi R.ca (R.st' kk) (R.T kk).gu = R.up kk := rfl
      rw [et, el, eu] at HT1
      clear et el eu
      have HX := Lib.hid (fun j => E'.out.lt I.out.j j)
      unfold St.v at HT1 HE1
      generalize hs2 : R.st' (kk + 1) = s2 at HT1 HE1
      have Hs2 := Lib.hid hs2; clear hs2
      go_wp2_with (first
        | (go_at_call 108
           refine (HT1 _ (hC1.out.alloc _)).mono ?_
           rintro e w' ⟨rfl, x, rfl⟩)
        | (go_at_call 61
           have hB : Below wr.heap.size wr ((ext (wr.alloc (.cells #[.float .f32 (R.T kk).li, .float .f32 (R.T kk).gu, .int .i8 (R.T kk).he] 102)) x).alloc (.cells #[.int .i16 s2.ti, .int .i8 s2.wa, .int .i8 s2.sm] 51)) := by (repeat' (first | (with_reducible exact Below.refl _ _) | (with_reducible assumption) | (with_reducible refine below_ext' ?_ ?_) | (with_reducible refine Below.alloc ?_ ?_ _) | (with_reducible refine below_drewN ?_ _) | (with_reducible refine Below.drew ?_) | (with_reducible refine Below.setCell ?_ ?_ _) | (with_reducible exact Nat.le_refl _) | (with_reducible refine ext_le _ _ ?_) | (simp; done) | (simp; omega) | omega))
           refine (HE1 _ (E'.out.below I.out.j hB)).mono ?_
           rintro e w' ⟨rfl, X', hJ', hAp, hX'⟩
           have I2 := run_step I.out hB hJ' hAp hX'
           have hq := (hAp.block (ext (wr.alloc (.cells #[.float .f32 (R.T kk).li, .float .f32 (R.T kk).gu, .int .i8 (R.T kk).he] 102)) x).heap.size (by simp) (fun a => absurd (E'.out.lt I.out.j _ a) (by have := (below_ext (wr.alloc (.cells #[.float .f32 (R.T kk).li, .float .f32 (R.T kk).gu, .int .i8 (R.T kk).he] 102)) x).size; simp at this; omega))).trans (heap_alloc_new _ _)
           obtain ⟨q0, q1, q2, _, _, _⟩ := row3 hq
           obtain ⟨r0, r1, r2, f0, f1, f2⟩ := row3 I2.s
           have I3 := Lib.hid I2
           clear I2 hq hJ' hAp hX' hB))
      go_roundg (n - (kk + 1))
      case measure => omega
      case rel =>
        refine ⟨kk + 1, by omega, by omega, by go_num, X', (show Aside _ from ?_)⟩
        rw [Hs2.out]
        exact run_store E'.out I3.out s2
    · have hltz : ¬ (kk : Int) < (n : Int) := by omega
      have : kk = n := by omega
      subst this
      obtain ⟨e0, e1, e2, f0, f1, f2⟩ := row3 I.out.re
      go_wp2
      refine bodyPost_ret (v := .agg #[.int .i16 (R.st' kk).ti, .int .i8 (R.st' kk).wa, .int .i8 (R.st' kk).sm]) ?_ rfl ⟨rfl, run_end E'.out I.out _ _ _⟩
      simp [results, Try.results60, go_sem, e0, e1, e2]
set_option maxRecDepth 100000 in
set_option maxHeartbeats 4000000 in
theorem run_T {R : Rn} {n : Nat} (hR : R.Ok n) {b o : Nat} (sl ti : Int) (A : Option Addr) (c : Nat) (hn : n ≤ 9223372036854775807) {J : Nat → (Nat → Prop) → World → Prop}
    {cp cq : Option Addr} (E : Each 87 #[.pointer cp] n R J) (X0 : Nat → Prop) (w : World) (hC : ControlAt w b o R.lo R.hi R.wi R.st R.de R.ca) (hT : RdT w A n R.T) (h0 : J 0 X0 w) (hbX : ¬ X0 b) (hAX : 0 < n → ∀ b' o', A = some ⟨b', o', none⟩ → ¬ X0 b') :
    Calls Try.prog 60 #[.pointer (some ⟨b, o, none⟩), .agg #[.int .i8 sl, .float .f32 R.wd, .float .f32 R.gp, .int .i16 ti, .float .f32 R.sh], R.s0.v, .slice A n c, .func (.func 87) #[] #[.pointer cp]] w fun e w' =>
      e = .returned (R.st' n).v ∧ ∃ X', J n X' w' ∧ Apart X0 w w' ∧ ∀ j, X' j → X0 j ∨ w.heap.size ≤ j := by
  go_enter Try.func60, Try.ntmps60
  have hcq := cq
  clear hcq
  unfold St.v
  have hC' := Lib.hid hC; have hT' := Lib.hid hT; have hR' := Lib.hid hR; have E' := Lib.hid E; clear hC hT hR E
  go_wp2
  go_loopg [11, 12, 13, 14, 15, 18] n (fun gg _ _ _ _ _ s18 wr => ∃ kk : Nat, kk ≤ n ∧ n - kk ≤ gg ∧ s18 = .int .i64 kk ∧ ∃ X, Aside (RunInv R J X0 sl ti w kk (R.st' kk) X wr))
  case atStart => exact ⟨0, Nat.zero_le _, by omega, rfl, X0, run_start E'.out h0⟩
  case round =>
    obtain ⟨kk, hkk, hg, rfl, X, I⟩ := hrel
    have hsz := I.out.size
    have z0 : w.heap.size < wr.heap.size := by omega
    have z1 : w.heap.size + 1 < wr.heap.size := by omega
    have z2 : w.heap.size + 1 + 1 < wr.heap.size := by omega
    obtain ⟨g0, g1, g2, _, _, _⟩ := row3 I.out.s
    by_cases hlt : kk < n
    · have hltz : (kk : Int) < (n : Int) := by omega
      obtain ⟨bt, ot, rfl, hTk⟩ := hT'.out kk hlt
      have hbt := hTk.lt
      obtain ⟨t0, t1, t2⟩ := hTk.block (I.out.old hbt (hAX (by omega) _ _ rfl))
      have hbt1 : bt < wr.heap.size := World.block_lt_of_cell? wr _ t0
      have hC1 := Lib.hid (hC'.out.block (I.out.old (World.block_lt_of_cell? w _ hC'.out.c0) hbX))
      obtain ⟨b0, b1, b2, b3, b4⟩ := row5 I.out.bl
      obtain ⟨p1, _, p2, p3⟩ := vTk_parts (hR'.out.tk kk hlt)
      have HT1 := fun W hW => tick_any (b := b) (o := o) sl ti hR'.out.run (Rn.ok_at hR'.out kk) (gu := (R.T kk).gu) p1 p2 p3 W hW
      have HE1 : ∀ W, J kk X W → Calls Try.prog 87 #[.int .i64 kk, (R.st' kk).v, (R.st' (kk + 1)).v, .float .f32 (R.light kk), .bool (R.up kk), .pointer cp] W fun e w' =>
        e = .returned (.tuple #[]) ∧ ∃ X', J (kk + 1) X' w' ∧ Apart X W w' ∧ ∀ j, X' j → X j ∨ W.heap.size ≤ j := fun W hW => E'.out.call hlt hW
      have et : (tickF R.lo R.hi R.wi R.st R.de R.ca R.wd R.gp R.sh (R.st' kk) (R.T kk).li (R.T kk).gu (R.T kk).he) = R.st' (kk + 1) := rfl
      have el : (lightF R.wi R.ca R.wd R.gp R.sh (R.st' kk) (R.T kk).li (R.T kk).gu (R.T kk).he) = R.light kk := rfl
      have eu : upF R.wi R.ca (R.st' kk) (R.T kk).gu = R.up kk := rfl
      rw [et, el, eu] at HT1
      clear et el eu
      have HX := Lib.hid (fun j => E'.out.lt I.out.j j)
      unfold St.v at HT1 HE1
      generalize hs2 : R.st' (kk + 1) = s2 at HT1 HE1
      have Hs2 := Lib.hid hs2; clear hs2
      go_wp2_with (first
        | (go_at_call 108
           refine (HT1 _ (hC1.out.alloc _)).mono ?_
           rintro e w' ⟨rfl, x, rfl⟩)
        | (go_at_call 87
           have hB : Below wr.heap.size wr ((ext (wr.alloc (.cells #[.float .f32 (R.T kk).li, .float .f32 (R.T kk).gu, .int .i8 (R.T kk).he] 102)) x).alloc (.cells #[.int .i16 s2.ti, .int .i8 s2.wa, .int .i8 s2.sm] 51)) := by (repeat' (first | (with_reducible exact Below.refl _ _) | (with_reducible assumption) | (with_reducible refine below_ext' ?_ ?_) | (with_reducible refine Below.alloc ?_ ?_ _) | (with_reducible refine below_drewN ?_ _) | (with_reducible refine Below.drew ?_) | (with_reducible refine Below.setCell ?_ ?_ _) | (with_reducible exact Nat.le_refl _) | (with_reducible refine ext_le _ _ ?_) | (simp; done) | (simp; omega) | omega))
           refine (HE1 _ (E'.out.below I.out.j hB)).mono ?_
           rintro e w' ⟨rfl, X', hJ', hAp, hX'⟩
           have I2 := run_step I.out hB hJ' hAp hX'
           have hq := (hAp.block (ext (wr.alloc (.cells #[.float .f32 (R.T kk).li, .float .f32 (R.T kk).gu, .int .i8 (R.T kk).he] 102)) x).heap.size (by simp) (fun a => absurd (E'.out.lt I.out.j _ a) (by have := (below_ext (wr.alloc (.cells #[.float .f32 (R.T kk).li, .float .f32 (R.T kk).gu, .int .i8 (R.T kk).he] 102)) x).size; simp at this; omega))).trans (heap_alloc_new _ _)
           obtain ⟨q0, q1, q2, _, _, _⟩ := row3 hq
           obtain ⟨r0, r1, r2, f0, f1, f2⟩ := row3 I2.s
           have I3 := Lib.hid I2
           clear I2 hq hJ' hAp hX' hB))
      go_roundg (n - (kk + 1))
      case measure => omega
      case rel =>
        refine ⟨kk + 1, by omega, by omega, by go_num, X', (show Aside _ from ?_)⟩
        rw [Hs2.out]
        exact run_store E'.out I3.out s2
    · have hltz : ¬ (kk : Int) < (n : Int) := by omega
      have : kk = n := by omega
      subst this
      obtain ⟨e0, e1, e2, f0, f1, f2⟩ := row3 I.out.re
      go_wp2
      refine bodyPost_ret (v := .agg #[.int .i16 (R.st' kk).ti, .int .i8 (R.st' kk).wa, .int .i8 (R.st' kk).sm]) ?_ rfl ⟨rfl, run_end E'.out I.out _ _ _⟩
      simp [results, Try.results60, go_sem, e0, e1, e2]
set_option maxRecDepth 100000 in
set_option maxHeartbeats 4000000 in
theorem run_G {R : Rn} {n : Nat} (hR : R.Ok n) {b o : Nat} (sl ti : Int) (A : Option Addr) (c : Nat) (hn : n ≤ 9223372036854775807) {J : Nat → (Nat → Prop) → World → Prop}
    {cp cq : Option Addr} (E : Each 88 #[.pointer cp, .pointer cq] n R J) (X0 : Nat → Prop) (w : World) (hC : ControlAt w b o R.lo R.hi R.wi R.st R.de R.ca) (hT : RdT w A n R.T) (h0 : J 0 X0 w) (hbX : ¬ X0 b) (hAX : 0 < n → ∀ b' o', A = some ⟨b', o', none⟩ → ¬ X0 b') :
    Calls Try.prog 60 #[.pointer (some ⟨b, o, none⟩), .agg #[.int .i8 sl, .float .f32 R.wd, .float .f32 R.gp, .int .i16 ti, .float .f32 R.sh], R.s0.v, .slice A n c, .func (.func 88) #[] #[.pointer cp, .pointer cq]] w fun e w' =>
      e = .returned (R.st' n).v ∧ ∃ X', J n X' w' ∧ Apart X0 w w' ∧ ∀ j, X' j → X0 j ∨ w.heap.size ≤ j := by
  go_enter Try.func60, Try.ntmps60
  have hcq := cq
  clear hcq
  unfold St.v
  have hC' := Lib.hid hC; have hT' := Lib.hid hT; have hR' := Lib.hid hR; have E' := Lib.hid E; clear hC hT hR E
  go_wp2
  go_loopg [11, 12, 13, 14, 15, 18] n (fun gg _ _ _ _ _ s18 wr => ∃ kk : Nat, kk ≤ n ∧ n - kk ≤ gg ∧ s18 = .int .i64 kk ∧ ∃ X, Aside (RunInv R J X0 sl ti w kk (R.st' kk) X wr))
  case atStart => exact ⟨0, Nat.zero_le _, by omega, rfl, X0, run_start E'.out h0⟩
  case round =>
    obtain ⟨kk, hkk, hg, rfl, X, I⟩ := hrel
    have hsz := I.out.size
    have z0 : w.heap.size < wr.heap.size := by omega
    have z1 : w.heap.size + 1 < wr.heap.size := by omega
    have z2 : w.heap.size + 1 + 1 < wr.heap.size := by omega
    obtain ⟨g0, g1, g2, _, _, _⟩ := row3 I.out.s
    by_cases hlt : kk < n
    · have hltz : (kk : Int) < (n : Int) := by omega
      obtain ⟨bt, ot, rfl, hTk⟩ := hT'.out kk hlt
      have hbt := hTk.lt
      obtain ⟨t0, t1, t2⟩ := hTk.block (I.out.old hbt (hAX (by omega) _ _ rfl))
      have hbt1 : bt < wr.heap.size := World.block_lt_of_cell? wr _ t0
      have hC1 := Lib.hid (hC'.out.block (I.out.old (World.block_lt_of_cell? w _ hC'.out.c0) hbX))
      obtain ⟨b0, b1, b2, b3, b4⟩ := row5 I.out.bl
      obtain ⟨p1, _, p2, p3⟩ := vTk_parts (hR'.out.tk kk hlt)
      have HT1 := fun W hW => tick_any (b := b) (o := o) sl ti hR'.out.run (Rn.ok_at hR'.out kk) (gu := (R.T kk).gu) p1 p2 p3 W hW
      have HE1 : ∀ W, J kk X W → Calls Try.prog 88 #[.int .i64 kk, (R.st' kk).v, (R.st' (kk + 1)).v, .float .f32 (R.light kk), .bool (R.up kk), .pointer cp, .pointer cq] W fun e w' =>
        e = .returned (.tuple #[]) ∧ ∃ X', J (kk + 1) X' w' ∧ Apart X W w' ∧ ∀ j, X' j → X j ∨ W.heap.size ≤ j := fun W hW => E'.out.call hlt hW
      have et : (tickF R.lo R.hi R.wi R.st R.de R.ca R.wd R.gp R.sh (R.st' kk) (R.T kk).li (R.T kk).gu (R.T kk).he) = R.st' (kk + 1) := rfl
      have el : (lightF R.wi R.ca R.wd R.gp R.sh (R.st' kk) (R.T kk).li (R.T kk).gu (R.T kk).he) = R.light kk := rfl
      have eu : upF R.wi R.ca (R.st' kk) (R.T kk).gu = R.up kk := rfl
      rw [et, el, eu] at HT1
      clear et el eu
      have HX := Lib.hid (fun j => E'.out.lt I.out.j j)
      unfold St.v at HT1 HE1
      generalize hs2 : R.st' (kk + 1) = s2 at HT1 HE1
      have Hs2 := Lib.hid hs2; clear hs2
      go_wp2_with (first
        | (go_at_call 108
           refine (HT1 _ (hC1.out.alloc _)).mono ?_
           rintro e w' ⟨rfl, x, rfl⟩)
        | (go_at_call 88
           have hB : Below wr.heap.size wr ((ext (wr.alloc (.cells #[.float .f32 (R.T kk).li, .float .f32 (R.T kk).gu, .int .i8 (R.T kk).he] 102)) x).alloc (.cells #[.int .i16 s2.ti, .int .i8 s2.wa, .int .i8 s2.sm] 51)) := by (repeat' (first | (with_reducible exact Below.refl _ _) | (with_reducible assumption) | (with_reducible refine below_ext' ?_ ?_) | (with_reducible refine Below.alloc ?_ ?_ _) | (with_reducible refine below_drewN ?_ _) | (with_reducible refine Below.drew ?_) | (with_reducible refine Below.setCell ?_ ?_ _) | (with_reducible exact Nat.le_refl _) | (with_reducible refine ext_le _ _ ?_) | (simp; done) | (simp; omega) | omega))
           refine (HE1 _ (E'.out.below I.out.j hB)).mono ?_
           rintro e w' ⟨rfl, X', hJ', hAp, hX'⟩
           have I2 := run_step I.out hB hJ' hAp hX'
           have hq := (hAp.block (ext (wr.alloc (.cells #[.float .f32 (R.T kk).li, .float .f32 (R.T kk).gu, .int .i8 (R.T kk).he] 102)) x).heap.size (by simp) (fun a => absurd (E'.out.lt I.out.j _ a) (by have := (below_ext (wr.alloc (.cells #[.float .f32 (R.T kk).li, .float .f32 (R.T kk).gu, .int .i8 (R.T kk).he] 102)) x).size; simp at this; omega))).trans (heap_alloc_new _ _)
           obtain ⟨q0, q1, q2, _, _, _⟩ := row3 hq
           obtain ⟨r0, r1, r2, f0, f1, f2⟩ := row3 I2.s
           have I3 := Lib.hid I2
           clear I2 hq hJ' hAp hX' hB))
      go_roundg (n - (kk + 1))
      case measure => omega
      case rel =>
        refine ⟨kk + 1, by omega, by omega, by go_num, X', (show Aside _ from ?_)⟩
        rw [Hs2.out]
        exact run_store E'.out I3.out s2
    · have hltz : ¬ (kk : Int) < (n : Int) := by omega
      have : kk = n := by omega
      subst this
      obtain ⟨e0, e1, e2, f0, f1, f2⟩ := row3 I.out.re
      go_wp2
      refine bodyPost_ret (v := .agg #[.int .i16 (R.st' kk).ti, .int .i8 (R.st' kk).wa, .int .i8 (R.st' kk).sm]) ?_ rfl ⟨rfl, run_end E'.out I.out _ _ _⟩
      simp [results, Try.results60, go_sem, e0, e1, e2]
end Go.Proofs.Ytbelopcfmjgfiaa
