/- The walk's rules for float operations; slices that read as lists. No condition. -/
import Derived.Test.YtbelopcfmjgfiaaRows
import Derived.Test.YtbelopcfmjgfiaaSunPure
import Derived.WalkKit
import Derived.WalkSpells
import Derived.ProofKit
import Derived.OpenShut
import Derived.Handy
import Derived.BigQuiet
import Derived.Deep.QuietTactic
import Derived.Lib.Hide
namespace Go.Proofs.Ytbelopcfmjgfiaa
open Go Go.RowKit

/-! ### float operations -/
section
variable (P : Program) (w : World) (t : TypeId) (x y : Nat)
theorem binOp_flt : binOp .lss t (.float .f32 x) (.float .f32 y) = pure (.bool (flt x y)) := by simp [binOp, Op.floatCmp, flt]
theorem binOp_fgt : binOp .gtr t (.float .f32 x) (.float .f32 y) = pure (.bool (fgt x y)) := by simp [binOp, Op.floatCmp, fgt]
theorem binOp_feq : binOp .eql t (.float .f32 x) (.float .f32 y) = pure (.bool (feq x y)) := by simp [binOp, Op.floatCmp, feq]
theorem binOp_fne : binOp .neq t (.float .f32 x) (.float .f32 y) = pure (.bool (fne x y)) := by simp [binOp, Op.floatCmp, fne]
theorem binOp_fle : binOp .leq t (.float .f32 x) (.float .f32 y) = pure (.bool (fle x y)) := by simp [binOp, Op.floatCmp, fle]
theorem binOp_fge : binOp .geq t (.float .f32 x) (.float .f32 y) = pure (.bool (fge x y)) := by simp [binOp, Op.floatCmp, fge]
theorem binOp_dlt : binOp .lss t (.float .f64 x) (.float .f64 y) = pure (.bool (dlt x y)) := by simp [binOp, Op.floatCmp, dlt]
theorem binOp_dgt : binOp .gtr t (.float .f64 x) (.float .f64 y) = pure (.bool (dgt x y)) := by simp [binOp, Op.floatCmp, dgt]
theorem binOp_deq : binOp .eql t (.float .f64 x) (.float .f64 y) = pure (.bool (deq x y)) := by simp [binOp, Op.floatCmp, deq]
theorem binOp_dne : binOp .neq t (.float .f64 x) (.float .f64 y) = pure (.bool (dne x y)) := by simp [binOp, Op.floatCmp, dne]
/-- What an arithmetical operation on floats comes to. -/
def faRes (o : Option Nat) (k : FloatKind) (x y : Nat) (P : Program) (w : World) : Result Value :=
  match o with
  | some r => .ok (.float k r) w
  | none => Sem.run P (do pure (.float k (← choose (.nanBits k x y)))) w
theorem faRes_some (r : Nat) (k : FloatKind) : faRes (some r) k x y P w = .ok (.float k r) w := rfl
theorem run_fadd : (binOp .add t (.float .f32 x) (.float .f32 y)).run P w = faRes (fadd x y) .f32 x y P w := by
  simp only [binOp, Op.floatArith, fadd]; cases FloatKind.f32.format.add x y <;> simp [faRes]
theorem run_fsub : (binOp .sub t (.float .f32 x) (.float .f32 y)).run P w = faRes (fsub x y) .f32 x y P w := by
  simp only [binOp, Op.floatArith, fsub]; cases FloatKind.f32.format.sub x y <;> simp [faRes]
theorem run_fmul : (binOp .mul t (.float .f32 x) (.float .f32 y)).run P w = faRes (fmul x y) .f32 x y P w := by
  simp only [binOp, Op.floatArith, fmul]; cases FloatKind.f32.format.mul x y <;> simp [faRes]
theorem run_fdiv : (binOp .quo t (.float .f32 x) (.float .f32 y)).run P w = faRes (fdiv x y) .f32 x y P w := by
  simp only [binOp, Op.floatArith, fdiv]; cases FloatKind.f32.format.div x y <;> simp [faRes]
theorem run_dadd : (binOp .add t (.float .f64 x) (.float .f64 y)).run P w = faRes (dadd x y) .f64 x y P w := by
  simp only [binOp, Op.floatArith, dadd]; cases FloatKind.f64.format.add x y <;> simp [faRes]
theorem run_ddiv : (binOp .quo t (.float .f64 x) (.float .f64 y)).run P w = faRes (ddiv x y) .f64 x y P w := by
  simp only [binOp, Op.floatArith, ddiv]; cases FloatKind.f64.format.div x y <;> simp [faRes]
end
section
variable {P : Program} (w : World)
theorem run_ofI (src dst : TypeId) (q : IntKind) (n : Int) (hs : (P.underlying src).isSome = true) (hd : P.underlying dst = some (.float .f32)) :
    (convert src dst (.int q n)).run P w = .ok (.float .f32 (ofI n)) w := by
  obtain ⟨s, hs'⟩ := Option.isSome_iff_exists.1 hs
  cases s <;> simp [convert, run_underlying hs', run_underlying hd, Conv.intToFloat, ofI]
theorem run_store_float (P : Program) (w : World) (a : Addr) (m : Mode) (k : FloatKind) (b : Nat) : (store a (.float k b) m).run P w = stored P w a (.float k b) m := run_store P w a _ m rfl
end

theorem run_neg (x : Nat) : Op.unary .neg (.float .f32 x) = pure (.float .f32 (neg x)) := rfl
theorem run_min1 {P : Program} (w : World) (ats : Array TypeId) (ty : TypeId) (x : Nat) (h : x ≤ Inf) : (Builtin.min_ ats ty #[.float .f32 x, .float .f32 1065353216]).run P w = .ok (.float .f32 (min1 x)) w := by
  have h1 : (1065353216 : Nat) < Inf := by decide
  have hs : FloatKind.f32.decode 1065353216 = .number false 8388608 (-23) := by decide +kernel
  unfold Builtin.min_ min1
  rcases fgt_inf h with ⟨g1, g2⟩ | ⟨g1, g2⟩
  · have g3 : FloatKind.f32.format.order x 1065353216 = some .gt := by unfold fgt at g1; simpa using g1
    simp [Builtin.min2, g3, g1]
  · have hx : x < Inf := Nat.lt_of_le_of_lt g2 h1
    have g3 : FloatKind.f32.format.order x 1065353216 = some (compare (SV x) (SV 1065353216)) := order_eq (by rw [mg_small hx]; exact hx) (by rw [mg_small h1]; exact h1)
    rw [SV_small hx, SV_small h1] at g3
    rcases Nat.lt_or_ge x 1065353216 with h2 | h2
    · have h4 := V_lt h2
      rw [icmp_lt.2 (show ((V x : Nat) : Int) < (V 1065353216 : Nat) by omega)] at g3
      simp [Builtin.min2, g3, g1]
    · have e : x = 1065353216 := by omega
      subst e
      rw [icmp_eq.2 rfl] at g3
      simp [Builtin.min2, g3, g1]

/-! ### worlds that have grown -/
theorem bcell {W w1 : World} (hb : Below W.heap.size W w1) : (∀ b o, b < W.heap.size → w1.cell? ⟨b, o, none⟩ = W.cell? ⟨b, o, none⟩) ∧ (∀ b o, b < W.heap.size → w1.frozen? ⟨b, o, none⟩ = W.frozen? ⟨b, o, none⟩) :=
  ⟨fun b o h => hb.cell (p := ⟨b, o, none⟩) h, fun b o h => hb.frozen (p := ⟨b, o, none⟩) h⟩
/-- What the call has made stands behind what was there. -/
theorem below_step {w w1 w2 : World} (h : Below w.heap.size w w1) (h2 : Below w1.heap.size w1 w2) : Below w.heap.size w w2 := h.trans (h2.mono h.size)

theorem below_drewN {B : Nat} {a w : World} (h : Below B a w) (n : Nat) : Below B a (w.drewN n) := ⟨h.os, h.tape, h.output, h.size, h.block⟩
open Classical in
/-- A world that has grown out of w: what was there is as it was. (x: whatever has come of it.) -/
noncomputable def ext (w x : World) : World := if Below w.heap.size w x then x else w
section
variable {w w' x y : World}
theorem below_ext (w x : World) : Below w.heap.size w (ext w x) := by
  unfold ext; split
  · assumption
  · exact Below.refl _ _
theorem ext_of (h : Below w.heap.size w y) : ext w y = y := by unfold ext; rw [if_pos h]
theorem ex_of (h : Below w.heap.size w w') : ∃ x, w' = ext w x := ⟨w', by unfold ext; rw [if_pos h]⟩
theorem ext_cell (w x : World) {a : Addr} (h : a.block < w.heap.size) : (ext w x).cell? a = w.cell? a := (below_ext w x).cell h
theorem ext_frozen (w x : World) {a : Addr} (h : a.block < w.heap.size) : (ext w x).frozen? a = w.frozen? a := (below_ext w x).frozen h
theorem ext_cell_some (w x : World) {a : Addr} (h : (w.cell? a).isSome = true) : (ext w x).cell? a = w.cell? a := by
  obtain ⟨u, hu⟩ := Option.isSome_iff_exists.1 h
  exact ext_cell w x (World.block_lt_of_cell? w a hu)
theorem ext_frozen_some (w x : World) {a : Addr} (h : (w.cell? a).isSome = true) : (ext w x).frozen? a = w.frozen? a := by
  obtain ⟨u, hu⟩ := Option.isSome_iff_exists.1 h
  exact ext_frozen w x (World.block_lt_of_cell? w a hu)
theorem alloc_cell_some (w : World) (a : Addr) (o : Obj) (h : (w.cell? a).isSome = true) : (w.alloc o).cell? a = w.cell? a := by
  obtain ⟨u, hu⟩ := Option.isSome_iff_exists.1 h
  exact World.cell?_alloc_lt _ _ _ (World.block_lt_of_cell? w a hu)
/-- Names for worlds of which nothing more is told. -/
noncomputable def stx (w x : World) (p : Addr) (v : Value) : World := (ext w x).setCell p v
noncomputable def drx (w x : World) : World := (ext w x).drew
noncomputable def dnx (w x : World) (n : Nat) : World := (ext w x).drewN n
noncomputable def exx (w x y : World) : World := ext (ext w x) y
theorem ext_setCell (w x : World) (p : Addr) (v : Value) (_h : p.block < w.heap.size) : (ext w x).setCell p v = ext (w.setCell p v) (stx w x p v) := by
  have hb := below_ext w x
  have hB : Below (w.setCell p v).heap.size (w.setCell p v) ((ext w x).setCell p v) := by
    refine ⟨hb.os, hb.tape, hb.output, by simpa [World.setCell] using hb.size, fun k hk => ?_⟩
    have hk' : k < w.heap.size := by simpa [World.setCell] using hk
    simp only [World.setCell, Array.getElem?_modify]
    rw [hb.block k hk']
  exact (ext_of (y := stx w x p v) hB).symm
theorem ext_drew (w x : World) : (ext w x).drew = ext w (drx w x) := (ext_of (y := drx w x) (below_ext w x).drew).symm
theorem ext_drewN (w x : World) (n : Nat) : (ext w x).drewN n = ext w (dnx w x n) := (ext_of (y := dnx w x n) (below_drewN (below_ext w x) n)).symm
theorem ext_ext (w x y : World) : ext (ext w x) y = ext w (exx w x y) := (ext_of (y := exx w x y) ((below_ext w x).trans ((below_ext (ext w x) y).mono (below_ext w x).size))).symm
theorem lts {b n : Nat} (h : b < n) : b < n + 1 ∧ b < n + 1 + 1 ∧ b < n + 1 + 1 + 1 ∧ b < n + 1 + 1 + 1 + 1 ∧ b < n + 1 + 1 + 1 + 1 + 1 ∧ b < n + 1 + 1 + 1 + 1 + 1 + 1 := by omega
theorem ext_lt (w x : World) {b : Nat} (h : b < w.heap.size) : b < (ext w x).heap.size := Nat.lt_of_lt_of_le h (below_ext w x).size
theorem ext_le (w x : World) {b : Nat} (h : b ≤ w.heap.size) : b ≤ (ext w x).heap.size := Nat.le_trans h (below_ext w x).size
theorem ext_block (w x : World) {b : Nat} (h : b < w.heap.size) : (ext w x).heap[b]? = w.heap[b]? := (below_ext w x).block b h
theorem below_ext' {B : Nat} (h : Below B w y) (hB : B ≤ y.heap.size) : Below B w (ext y x) := h.trans ((below_ext y x).mono hB)
theorem ex_ext (h : ∃ y, w' = ext (ext w x) y) : ∃ y, w' = ext w y := by
  obtain ⟨y, rfl⟩ := h
  exact ex_of (below_ext' (below_ext w x) (below_ext w x).size)
end
theorem Calls.ex_of_same {P : Program} {f : FuncId} {args : Array Value} {w x : World} {v : Value}
    (h : Calls P f args (ext w x) fun e w' => e = .returned v ∧ ext w x = w') : Calls P f args (ext w x) fun e w'' => e = .returned v ∧ ∃ m, w'' = ext w m :=
  h.mono fun _ _ ⟨he, hm⟩ => ⟨he, x, hm.symm⟩
theorem Calls.ex_of_drewN {P : Program} {f : FuncId} {args : Array Value} {w x : World} {v : Value}
    (h : Calls P f args (ext w x) fun e w' => e = .returned v ∧ ∃ n, w' = (ext w x).drewN n) : Calls P f args (ext w x) fun e w'' => e = .returned v ∧ ∃ m, w'' = ext w m :=
  h.mono fun _ _ ⟨he, n, hm⟩ => ⟨he, by rw [hm]; exact ex_of (below_drewN (below_ext w x) n)⟩
theorem Calls.ex_of {P : Program} {f : FuncId} {args : Array Value} {w x : World} {v : Value}
    (h : Calls P f args (ext w x) fun e w' => e = .returned v ∧ ∃ y, w' = ext (ext w x) y) : Calls P f args (ext w x) fun e w'' => e = .returned v ∧ ∃ m, w'' = ext w m :=
  h.mono fun _ _ ⟨he, hm⟩ => ⟨he, ex_ext hm⟩
/-- A region that draws its order, whose operations read and call what makes memory of its own alone: one walk. -/
theorem wp_region_ex {P : Program} {id : Nat} {Q : Exit → Act → World → Prop} {a : Act} {w : World} {l : List Oper} (hm : P.follows .mixedOrders = true) (hB : Region.lexB .any l.toArray = true)
    (h : wpQuiet P l.toArray (fun w' => ∃ x, w' = ext w x) (fun a' => ∀ w', (∃ x, w' = ext w x) → Q .normal a' w') l a) : (Code.region id l.toArray true).wp P Q a w :=
  wp_region_quiet (C := fun w' => ∃ x, w' = ext w x) hm hB (ex_of (Below.refl _ _).drew) (by simpa using h)

/-- The first block that the call has made is a box with these cells; what was there is as it was. -/
structure KB (w : World) (cs : Array Value) (t : TypeId) (w' : World) : Prop where
  box : w'.heap[w.heap.size]? = some (.cells cs t (0, 0))
  old : Below w.heap.size w w'
section
variable {w w1 w2 : World} {cs : Array Value} {t : TypeId}
theorem KB.new (w : World) (cs : Array Value) (t : TypeId) : KB w cs t (w.alloc (.cells cs t)) := ⟨heap_alloc_new w _, (Below.refl _ _).alloc (Nat.le_refl _) _⟩
theorem KB.drew (h : KB w cs t w1) : KB w cs t w1.drew := ⟨h.box, h.old.drew⟩
theorem KB.drewN (h : KB w cs t w1) (n : Nat) : KB w cs t (w1.drewN n) := ⟨h.box, below_drewN h.old n⟩
theorem KB.lt (h : KB w cs t w1) : w.heap.size < w1.heap.size := by
  rcases Nat.lt_or_ge w.heap.size w1.heap.size with h1 | h1
  · exact h1
  · have := h.box; rw [Array.getElem?_eq_none h1] at this; cases this
theorem KB.below (h : KB w cs t w1) (hb : Below w1.heap.size w1 w2) : KB w cs t w2 := ⟨(hb.block _ h.lt).trans h.box, below_step h.old hb⟩
theorem KB.cell (h : KB w cs t w1) {k : Nat} {v : Value} (hv : cs[k]? = some v) : w1.cell? ⟨w.heap.size, k, none⟩ = some v := by
  rw [cell_of_row w1 w.heap.size k cs t (0, 0) h.box]; exact hv
theorem KB.set (h : KB w cs t w1) (k : Nat) (v : Value) : KB w (cs.setIfInBounds k v) t (w1.setCell ⟨w.heap.size, k, none⟩ v) := by
  refine ⟨?_, h.old.setCell (Nat.le_refl _) _⟩
  have := h.box
  simp [World.setCell, Array.getElem?_modify, this]
end

/-! ### slices -/
/-- The cells from A on read as f 0, .., f (n-1). -/
def Rd (w : World) (A : Option Addr) (n : Nat) (f : Nat → Value) : Prop :=
  ∀ k, k < n → ∃ b o, A = some ⟨b, o, none⟩ ∧ w.cell? ⟨b, o + k, none⟩ = some (f k)
def fF (xs : List Nat) (k : Nat) : Value := .float .f32 (nth xs k)
def fI (xs : List Int) (k : Nat) : Value := .int .i64 (nthI xs k)
theorem fF_eq (xs : List Nat) (k : Nat) : fF xs k = .float .f32 (nth xs k) := rfl
theorem fI_eq (xs : List Int) (k : Nat) : fI xs k = .int .i64 (nthI xs k) := rfl
section
variable {w w' : World} {A : Option Addr} {n : Nat} {f : Nat → Value}
theorem Rd.below (h : Rd w A n f) (hb : Below w.heap.size w w') : Rd w' A n f := fun k hk => by
  obtain ⟨b, o, e, hc⟩ := h k hk
  exact ⟨b, o, e, (hb.cell (p := ⟨b, o + k, none⟩) (World.block_lt_of_cell? w _ hc)).trans hc⟩
theorem Rd.drewN (h : Rd w A n f) (m : Nat) : Rd (w.drewN m) A n f := h
theorem Rd.grown {row : Option Nat} (h : Rd w A n f) (hg : w.grownBy w' row) (hne : ∀ b o, A = some ⟨b, o, none⟩ → some b ≠ row) : Rd w' A n f := fun k hk => by
  obtain ⟨b, o, e, hc⟩ := h k hk
  exact ⟨b, o, e, hg.cell hc (hne b o e)⟩
theorem Rd.of_own {base : Nat} {e : TypeId} {c : Nat} {xs : List Value} (h : w.ownsRow base e 1 (.slice A n c) n xs) (hf : ∀ k, k < n → xs[k]? = some (f k)) : Rd w A n f := fun k hk => by
  rcases h.2 with ⟨e1, e2⟩ | ⟨g, cap, cur, hv, hb, hg, r⟩
  · omega
  · have hA : A = some ⟨g, 0, none⟩ := by injection hv
    subst hA
    have hc := h.cells (g := g) rfl k _ (hf k hk)
    refine ⟨g, 0, rfl, ?_⟩
    have e : (⟨g, 0, none⟩ : Addr).add k = ⟨g, 0 + k, none⟩ := by unfold Addr.add; split <;> simp_all
    rw [← e]; exact hc
end
end Go.Proofs.Ytbelopcfmjgfiaa
