/- Contract: the laws' copy of ticks. No condition. -/
import Derived.Test.YtbelopcfmjgfiaaCopy
import Derived.Deep.OwnRows
namespace Go.Proofs.Ytbelopcfmjgfiaa
open Go Go.RowKit
attribute [local go_sem] binOp_flt binOp_fgt binOp_feq binOp_fne binOp_fle binOp_fge faRes_some run_fadd run_fsub run_fmul run_fdiv run_ofI run_store_float run_neg run_min1 ext_cell ext_frozen ext_lt ext_setCell ext_drew ext_drewN
theorem info_tick : (Try.prog.info? 102).map (fun i => (i.zero, i.size, i.bytes)) = some (some (.agg #[.float .f32 0, .float .f32 0, .int .i8 0]), 3, 12) := by kernel_rfl
theorem make_ticks (n : Nat) (hn : n ≤ 1048576) : ∃ cs : Array Value, cs.size = n * 3 ∧ ∀ w : World, (Instr.makeSlice 53 (.int .i64 (n : Int)) (.int .i64 (n : Int))).run Try.prog w = .ok (.slice (some ⟨w.heap.size, 0, none⟩) n n) (w.alloc (.cells cs 102)) := by
  obtain ⟨i, hi, hzz⟩ := Option.map_eq_some_iff.1 info_tick
  simp only [Prod.mk.injEq] at hzz
  obtain ⟨hz, hs, hb⟩ := hzz
  refine ⟨madeCells (Value.agg #[.float .f32 0, .float .f32 0, .int .i8 0]).cells (n * 3), size_madeCells _ _, fun w => ?_⟩
  have hr := run_make (P := Try.prog) w 53 102 i _ Try.underlying53 hi hz .i64 .i64 n n (by omega) (Int.le_refl _) (by rw [hb]; omega) (by omega)
  simp only [Int.toNat_natCast, hs] at hr
  exact hr
theorem cell_far (w : World) (g i j : Nat) (v : Value) (h : i ≠ j) : (w.setCell ⟨g, i, none⟩ v).cell? ⟨g, j, none⟩ = w.cell? ⟨g, j, none⟩ :=
  World.cell?_setCell_other _ _ _ _ (by intro e; injection e with e1 e2; exact h e2)
/-- The rows' step: element k is written. -/
theorem tick_put {w : World} {g n k : Nat} {T : Nat → Tk} (hr : RowOf w g n 3 102) (hk : k < n) (h : RdT w (some ⟨g, 0, none⟩) k T) :
    RdT (((w.setCell ⟨g, k * 3, none⟩ (.float .f32 (T k).li)).setCell ⟨g, k * 3 + 1, none⟩ (.float .f32 (T k).gu)).setCell ⟨g, k * 3 + 2, none⟩ (.int .i8 (T k).he)) (some ⟨g, 0, none⟩) (k + 1) T := by
  intro j hj
  refine ⟨g, 0, rfl, ?_⟩
  rcases Nat.lt_succ_iff_lt_or_eq.1 hj with h1 | h1
  · obtain ⟨b, o, e, c0, c1, c2⟩ := h j h1
    injection e with e; injection e with e1 e2; subst e1; subst e2
    refine ⟨?_, ?_, ?_⟩
    · rw [cell_far _ _ _ _ _ (by omega), cell_far _ _ _ _ _ (by omega), cell_far _ _ _ _ _ (by omega)]; exact c0
    · rw [cell_far _ _ _ _ _ (by omega), cell_far _ _ _ _ _ (by omega), cell_far _ _ _ _ _ (by omega)]; exact c1
    · rw [cell_far _ _ _ _ _ (by omega), cell_far _ _ _ _ _ (by omega), cell_far _ _ _ _ _ (by omega)]; exact c2
  · subst h1
    have r1 := hr.set (j * 3) (.float .f32 (T j).li)
    have r2 := r1.set (j * 3 + 1) (.float .f32 (T j).gu)
    refine ⟨?_, ?_, ?_⟩
    · rw [Nat.zero_add, cell_far _ _ _ _ _ (by omega), cell_far _ _ _ _ _ (by omega)]; exact World.cell?_setCell_same' _ _ _ (hr.some (by omega))
    · rw [Nat.zero_add, cell_far _ _ _ _ _ (by omega)]; exact World.cell?_setCell_same' _ _ _ (r1.some (by omega))
    · rw [Nat.zero_add]; exact World.cell?_setCell_same' _ _ _ (r2.some (by omega))
set_option maxRecDepth 100000 in
set_option maxHeartbeats 4000000 in
theorem toTickS_any (A : Option Addr) (n c : Nat) (T : Nat → Tk) (hn : n ≤ 1048576) (w : World) (hT : RdT w A n T) :
    Calls Try.prog 25 #[.slice A n c] w fun e w' => e = .returned (.slice (some ⟨w.heap.size, 0, none⟩) n n) ∧ Below w.heap.size w w' ∧ w.heap.size < w'.heap.size ∧ RdT w' (some ⟨w.heap.size, 0, none⟩) n T ∧ RowOf w' w.heap.size n 3 102 := by
  obtain ⟨cs, hcs, hmk⟩ := make_ticks n hn
  have HT := Lib.hid hT; clear hT
  have hR0 : RowOf (w.alloc (.cells cs 102)) w.heap.size n 3 102 := ⟨cs, heap_alloc_new _ _, hcs⟩
  have HR0 := Lib.hid hR0; clear hR0
  go_enter Try.func25, Try.ntmps25
  go_wp2
  go_loopg [4] n (fun gg s4 wr => ∃ kk : Nat, kk ≤ n ∧ n - kk ≤ gg ∧ s4 = .int .i64 kk ∧ Aside (Below w.heap.size w wr) ∧ Aside (w.heap.size < wr.heap.size) ∧ Aside (RdT wr (some ⟨w.heap.size, 0, none⟩) kk T) ∧ Aside (RowOf wr w.heap.size n 3 102))
  case atStart => exact ⟨0, Nat.zero_le _, by omega, rfl, (Below.refl _ _).alloc (Nat.le_refl _) _, (by simp : w.heap.size < (w.alloc _).heap.size), fun j hj => absurd hj (Nat.not_lt_zero _), HR0.out⟩
  case round =>
    obtain ⟨kk, hkk, hg, rfl, BW, SZ, RD, RW⟩ := hrel
    by_cases hlt : kk < n
    · have hltz : (kk : Int) < (n : Int) := by omega
      obtain ⟨bt, ot, rfl, t0, t1, t2⟩ := (HT.out.below BW.out) kk hlt
      have hcall := fun W => toTick_any (T kk).li (T kk).gu (T kk).he W
      have hg0 : w.heap.size < wr.heap.size := SZ.out
      have f0 := RW.out.frozen (kk * 3); have f1 := RW.out.frozen (kk * 3 + 1); have f2 := RW.out.frozen (kk * 3 + 2)
      obtain ⟨y0, d0⟩ := Option.isSome_iff_exists.1 (RW.out.some (k := kk * 3) (by omega))
      obtain ⟨y1, d1⟩ := Option.isSome_iff_exists.1 (RW.out.some (k := kk * 3 + 1) (by omega))
      obtain ⟨y2, d2⟩ := Option.isSome_iff_exists.1 (RW.out.some (k := kk * 3 + 2) (by omega))
      have hbt : bt < wr.heap.size := World.block_lt_of_cell? wr _ t0
      go_wp2_with (go_at_call 58; refine (hcall _).mono ?_; rintro e w' ⟨rfl, x, rfl⟩)
      have R3 := ((RW.out.set (kk * 3) (.float .f32 (T kk).li)).set (kk * 3 + 1) (.float .f32 (T kk).gu)).set (kk * 3 + 2) (.int .i8 (T kk).he)
      have hs3 : w.heap.size < (((wr.setCell ⟨w.heap.size, kk * 3, none⟩ (.float .f32 (T kk).li)).setCell ⟨w.heap.size, kk * 3 + 1, none⟩ (.float .f32 (T kk).gu)).setCell ⟨w.heap.size, kk * 3 + 2, none⟩ (.int .i8 (T kk).he)).heap.size := by simpa using hg0
      have D3 := tick_put RW.out hlt RD.out
      have B3 : Below w.heap.size w (((wr.setCell ⟨w.heap.size, kk * 3, none⟩ (.float .f32 (T kk).li)).setCell ⟨w.heap.size, kk * 3 + 1, none⟩ (.float .f32 (T kk).gu)).setCell ⟨w.heap.size, kk * 3 + 2, none⟩ (.int .i8 (T kk).he)) := ((BW.out.setCell (Nat.le_refl _) _).setCell (Nat.le_refl _) _).setCell (Nat.le_refl _) _
      go_roundg (n - (kk + 1))
      case measure => omega
      case rel =>
        refine ⟨kk + 1, by omega, by omega, by go_num, below_ext' B3 (Nat.le_of_lt hs3), (show Aside _ from ext_lt _ _ hs3), (show Aside _ from D3.below (below_ext _ _)), (show Aside _ from R3.below (below_ext _ _) hs3)⟩
    · have hltz : ¬ (kk : Int) < (n : Int) := by omega
      have : kk = n := by omega
      subst this
      go_wp2
      go_ret
      exact ⟨rfl, BW.out, SZ.out, RD.out, RW.out⟩
end Go.Proofs.Ytbelopcfmjgfiaa
