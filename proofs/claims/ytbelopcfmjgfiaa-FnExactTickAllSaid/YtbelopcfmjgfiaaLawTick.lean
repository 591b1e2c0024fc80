/- What the laws over ticks hold in memory: the boxes of a control, a blind, a state; ticks copied. No condition. -/
import Derived.Test.YtbelopcfmjgfiaaEqTick
import Derived.Test.YtbelopcfmjgfiaaRaisedS
import Derived.Deep.DeepCutAuto
import Derived.Deep.CutRange
namespace Go.Proofs.Ytbelopcfmjgfiaa
open Go Go.RowKit Go.BigFrame
attribute [local go_sem] binOp_flt binOp_fgt binOp_feq binOp_fne binOp_fle binOp_fge faRes_some run_fadd run_fsub run_fmul run_fdiv run_ofI run_store_float run_neg run_min1 ext_cell ext_frozen ext_lt ext_setCell ext_drew ext_drewN
/-- The boxes of a law's arguments. -/
structure LInv (R : Rn) (sl ti : Int) (w wr : World) : Prop where
  old : Below w.heap.size w wr
  c : wr.heap[w.heap.size]? = some (.cells #[.float .f32 R.lo, .float .f32 R.hi, .float .f32 R.wi, .int .i8 R.st, .int .i8 R.de, .int .i8 R.ca] 37 (0, 0))
  b : wr.heap[w.heap.size + 1]? = some (.cells #[.int .i8 sl, .float .f32 R.wd, .float .f32 R.gp, .int .i16 ti, .float .f32 R.sh] 40 (0, 0))
  s : wr.heap[w.heap.size + 1 + 1]? = some (.cells #[.int .i16 R.s0.ti, .int .i8 R.s0.wa, .int .i8 R.s0.sm] 42 (0, 0))
noncomputable def lW (R : Rn) (sl ti : Int) (w : World) : World :=
  ((w.alloc (.cells #[.float .f32 R.lo, .float .f32 R.hi, .float .f32 R.wi, .int .i8 R.st, .int .i8 R.de, .int .i8 R.ca] 37)).alloc (.cells #[.int .i8 sl, .float .f32 R.wd, .float .f32 R.gp, .int .i16 ti, .float .f32 R.sh] 40)).alloc (.cells #[.int .i16 R.s0.ti, .int .i8 R.s0.wa, .int .i8 R.s0.sm] 42)
section
variable {R : Rn} {sl ti : Int} {w wr : World}
theorem l_start : LInv R sl ti w (lW R sl ti w) := by
  unfold lW
  refine ⟨(((Below.refl _ _).alloc (Nat.le_refl _) _).alloc (by simp) _).alloc (by simp; omega) _, ?_, ?_, ?_⟩
  · exact ((((Below.refl (w.heap.size + 1) (w.alloc (.cells #[.float .f32 R.lo, .float .f32 R.hi, .float .f32 R.wi, .int .i8 R.st, .int .i8 R.de, .int .i8 R.ca] 37))).alloc (by simp) _).alloc (by simp) _).block _ (by omega)).trans (heap_alloc_new w _)
  · rw [show w.heap.size + 1 = (w.alloc (.cells #[.float .f32 R.lo, .float .f32 R.hi, .float .f32 R.wi, .int .i8 R.st, .int .i8 R.de, .int .i8 R.ca] 37)).heap.size by simp]
    exact (((Below.refl _ _).alloc (Nat.le_refl _) _).block _ (by simp)).trans (heap_alloc_new _ _)
  · rw [show w.heap.size + 1 + 1 = ((w.alloc (.cells #[.float .f32 R.lo, .float .f32 R.hi, .float .f32 R.wi, .int .i8 R.st, .int .i8 R.de, .int .i8 R.ca] 37)).alloc (.cells #[.int .i8 sl, .float .f32 R.wd, .float .f32 R.gp, .int .i16 ti, .float .f32 R.sh] 40)).heap.size by simp]
    exact heap_alloc_new _ _
theorem LInv.grow (h : LInv R sl ti w wr) {W : World} (hb : Below wr.heap.size wr W) : LInv R sl ti w W :=
  ⟨h.old.trans (hb.mono h.old.size), (hb.block _ (lt_of_block h.c)).trans h.c, (hb.block _ (lt_of_block h.b)).trans h.b, (hb.block _ (lt_of_block h.s)).trans h.s⟩
end
theorem row6 {w : World} {b : Nat} {v0 v1 v2 v3 v4 v5 : Value} {t : TypeId} (h : w.heap[b]? = some (.cells #[v0, v1, v2, v3, v4, v5] t (0, 0))) :
    w.cell? ⟨b, 0, none⟩ = some v0 ∧ w.cell? ⟨b, 1, none⟩ = some v1 ∧ w.cell? ⟨b, 2, none⟩ = some v2 ∧ w.cell? ⟨b, 3, none⟩ = some v3 ∧ w.cell? ⟨b, 4, none⟩ = some v4 ∧ w.cell? ⟨b, 5, none⟩ = some v5 :=
  ⟨cell_of_row _ _ _ _ _ _ h, cell_of_row _ _ _ _ _ _ h, cell_of_row _ _ _ _ _ _ h, cell_of_row _ _ _ _ _ _ h, cell_of_row _ _ _ _ _ _ h, cell_of_row _ _ _ _ _ _ h⟩
theorem LInv.cells {R : Rn} {sl ti : Int} {w wr : World} (h : LInv R sl ti w wr) : (fun w' : World => w'.cell? ⟨w.heap.size, 0, none⟩ = some (.float .f32 R.lo) ∧ w'.cell? ⟨w.heap.size, 1, none⟩ = some (.float .f32 R.hi) ∧ w'.cell? ⟨w.heap.size, 2, none⟩ = some (.float .f32 R.wi) ∧ w'.cell? ⟨w.heap.size, 3, none⟩ = some (.int .i8 R.st) ∧ w'.cell? ⟨w.heap.size, 4, none⟩ = some (.int .i8 R.de) ∧ w'.cell? ⟨w.heap.size, 5, none⟩ = some (.int .i8 R.ca) ∧ w'.cell? ⟨w.heap.size + 1, 0, none⟩ = some (.int .i8 sl) ∧ w'.cell? ⟨w.heap.size + 1, 1, none⟩ = some (.float .f32 R.wd) ∧ w'.cell? ⟨w.heap.size + 1, 2, none⟩ = some (.float .f32 R.gp) ∧ w'.cell? ⟨w.heap.size + 1, 3, none⟩ = some (.int .i16 ti) ∧ w'.cell? ⟨w.heap.size + 1, 4, none⟩ = some (.float .f32 R.sh) ∧ w'.cell? ⟨w.heap.size + 1 + 1, 0, none⟩ = some (.int .i16 R.s0.ti) ∧ w'.cell? ⟨w.heap.size + 1 + 1, 1, none⟩ = some (.int .i8 R.s0.wa) ∧ w'.cell? ⟨w.heap.size + 1 + 1, 2, none⟩ = some (.int .i8 R.s0.sm)) wr :=
  ⟨cell_of_row _ _ _ _ _ _ h.c, cell_of_row _ _ _ _ _ _ h.c, cell_of_row _ _ _ _ _ _ h.c, cell_of_row _ _ _ _ _ _ h.c, cell_of_row _ _ _ _ _ _ h.c, cell_of_row _ _ _ _ _ _ h.c, cell_of_row _ _ _ _ _ _ h.b, cell_of_row _ _ _ _ _ _ h.b, cell_of_row _ _ _ _ _ _ h.b, cell_of_row _ _ _ _ _ _ h.b, cell_of_row _ _ _ _ _ _ h.b, cell_of_row _ _ _ _ _ _ h.s, cell_of_row _ _ _ _ _ _ h.s, cell_of_row _ _ _ _ _ _ h.s⟩
/-- The copy of ticks, its place under a name. -/
theorem toTickS_x (A : Option Addr) (n c : Nat) (T : Nat → Tk) (hn : n ≤ 1048576) (w : World) (hT : RdT w A n T) :
    Calls Try.prog 25 #[.slice A n c] w fun e w' => ∃ g x, e = .returned (.slice (some ⟨g, 0, none⟩) n n) ∧ w' = ext w x ∧ Aside (w.heap.size ≤ g ∧ g < (ext w x).heap.size ∧ RdT (ext w x) (some ⟨g, 0, none⟩) n T ∧ RowOf (ext w x) g n 3 102) :=
  (toTickS_any A n c T hn w hT).mono fun e w' ⟨he, hb, hs, hr, ho⟩ => by
    obtain ⟨x, rfl⟩ := ex_of hb
    exact ⟨_, x, he, rfl, Nat.le_refl _, hs, hr, ho⟩
end Go.Proofs.Ytbelopcfmjgfiaa
