/- Contracts: the laws' copies of a sun, of suns. No condition. -/
import Derived.Test.YtbelopcfmjgfiaaSunC
import Derived.Test.YtbelopcfmjgfiaaCopyS
import Derived.Deep.DeepCutAuto
import Derived.Deep.CutRange
namespace Go.Proofs.Ytbelopcfmjgfiaa
open Go Go.RowKit Go.BigFrame
attribute [local go_sem] binOp_flt binOp_fgt binOp_feq binOp_fne binOp_fle binOp_fge faRes_some run_fadd run_fsub run_fmul run_fdiv run_ofI run_store_float run_neg run_min1 ext_cell ext_frozen ext_lt ext_setCell ext_drew ext_drewN
attribute [local go_sem] arrAt_ext arrAt_alloc arrAt_drew arrAt_drewN arrAt_new arrAt_new1 arrAt_new2
attribute [local go_sem ↓] run_ld_sun run_st_sun run_ld_lsun run_st_lsun run_ld_a24 run_st_a24
/-- The three rows of a sun that is copied. -/
structure CInv (f : Nat → Int) (w : World) (wr : World) : Prop where
  old : Below w.heap.size w wr
  a : ArrAt wr w.heap.size 0 48 f
  r1 : RowOf wr (w.heap.size + 1) 1 48 71
  r2 : RowOf wr (w.heap.size + 1 + 1) 1 48 71
theorem c_start (f : Nat → Int) (w : World) (Z1 Z2 : Array Value) (t1 : TypeId) (h1 : Z1.size = 48) (h2 : Z2.size = 48) : CInv f w (((w.alloc (.cells (arrA 48 f) t1)).alloc (.cells Z1 71)).alloc (.cells Z2 71)) := by
  refine ⟨(((Below.refl _ _).alloc (Nat.le_refl _) _).alloc (by simp) _).alloc (by simp; omega) _, ?_, ⟨Z1, ?_, by omega⟩, ⟨Z2, ?_, by omega⟩⟩
  · exact ArrAt.of_row ((Below.heap_alloc _ _ _ (by simp; omega)).trans ((Below.heap_alloc _ _ _ (by simp)).trans (heap_alloc_new _ _)))
  · refine (Below.heap_alloc _ _ _ (by simp)).trans ?_
    rw [show w.heap.size + 1 = (w.alloc (.cells (arrA 48 f) t1)).heap.size by simp]
    exact heap_alloc_new _ _
  · rw [show w.heap.size + 1 + 1 = ((w.alloc (.cells (arrA 48 f) t1)).alloc (.cells Z1 71)).heap.size by simp]
    exact heap_alloc_new _ _
theorem CInv.grow {f : Nat → Int} {w wr W : World} (h : CInv f w wr) (hb : Below wr.heap.size wr W) : CInv f w W :=
  ⟨below_step h.old hb, h.a.below hb (h.a.lt (by omega)), h.r1.below hb h.r1.lt0, h.r2.below hb h.r2.lt0⟩
theorem CInv.sets {f g : Nat → Int} {o n : Nat} {w wr : World} (h : CInv f w wr) : CInv f w (setA wr (w.heap.size + 1 + 1) o n g) :=
  ⟨below_sets h.old (by omega), h.a.set_out (.inl (by omega)), h.r1.sets_out (by omega), h.r2.sets⟩
set_option maxRecDepth 100000 in
set_option maxHeartbeats 4000000 in
theorem toSun_any (f : Nat → Int) (w : World) : Calls Try.prog 36 #[.agg (arrA 48 f)] w fun e w' => e = .returned (.agg (arrA 48 f)) ∧ ∃ x, w' = ext w x := by
  have HC1 := fun W => toInt16A24_any f W
  have HC2 := fun W => toInt16A24_any (fun i => f (24 + i)) W
  have hlo1 := fun W b o => ld_a24 f W b o
  have hlo2 := fun W b o => ld_a24 (fun i => f (24 + i)) W b o
  have hlo3 := fun W b o => ld_sun f W b o
  have hst1 := fun W b o => sa_a24 f W b o
  have hst2 := fun W b o => sa_a24 (fun i => f (24 + i)) W b o
  have hst3 := fun W b o => sa_sun f W b o
  have HS : ∀ W b o n m t, RowOf W b n m t → o + 24 + 24 ≤ n * m → ArrAt W b o 24 f → ArrAt (setA W b (o + 24) 24 (fun i => f (24 + i))) b o 48 f := fun W b o n m t hr hn h =>
    ArrAt.join (n := 24) (n' := 24) (h.set_out (.inr (.inl (by omega)))) (ArrAt.set_same hr (by omega))
  have HP : ∀ W b, ArrAt W b 0 48 f → ArrAt W b 24 24 (fun i => f (24 + i)) := fun W b h => by
    have := h.part (k := 24) (m := 24) (by omega)
    rwa [Nat.zero_add] at this
  generalize (fun i => f (24 + i)) = g at HC2 hlo2 hst2 HS HP
  have HS' := Lib.hid HS; have HP' := Lib.hid HP; clear HS HP
  go_enter Try.func36, Try.ntmps36
  go_upto_region 2 with fail
  have I0 := Lib.hid (c_start f w #[.int .i16 0, .int .i16 0, .int .i16 0, .int .i16 0, .int .i16 0, .int .i16 0, .int .i16 0, .int .i16 0, .int .i16 0, .int .i16 0, .int .i16 0, .int .i16 0, .int .i16 0, .int .i16 0, .int .i16 0, .int .i16 0, .int .i16 0, .int .i16 0, .int .i16 0, .int .i16 0, .int .i16 0, .int .i16 0, .int .i16 0, .int .i16 0, .int .i16 0, .int .i16 0, .int .i16 0, .int .i16 0, .int .i16 0, .int .i16 0, .int .i16 0, .int .i16 0, .int .i16 0, .int .i16 0, .int .i16 0, .int .i16 0, .int .i16 0, .int .i16 0, .int .i16 0, .int .i16 0, .int .i16 0, .int .i16 0, .int .i16 0, .int .i16 0, .int .i16 0, .int .i16 0, .int .i16 0, .int .i16 0] #[.int .i16 0, .int .i16 0, .int .i16 0, .int .i16 0, .int .i16 0, .int .i16 0, .int .i16 0, .int .i16 0, .int .i16 0, .int .i16 0, .int .i16 0, .int .i16 0, .int .i16 0, .int .i16 0, .int .i16 0, .int .i16 0, .int .i16 0, .int .i16 0, .int .i16 0, .int .i16 0, .int .i16 0, .int .i16 0, .int .i16 0, .int .i16 0, .int .i16 0, .int .i16 0, .int .i16 0, .int .i16 0, .int .i16 0, .int .i16 0, .int .i16 0, .int .i16 0, .int .i16 0, .int .i16 0, .int .i16 0, .int .i16 0, .int .i16 0, .int .i16 0, .int .i16 0, .int .i16 0, .int .i16 0, .int .i16 0, .int .i16 0, .int .i16 0, .int .i16 0, .int .i16 0, .int .i16 0, .int .i16 0] 67 rfl rfl)
  generalize ((w.alloc (.cells (arrA 48 f) 67)).alloc (.cells #[.int .i16 0, .int .i16 0, .int .i16 0, .int .i16 0, .int .i16 0, .int .i16 0, .int .i16 0, .int .i16 0, .int .i16 0, .int .i16 0, .int .i16 0, .int .i16 0, .int .i16 0, .int .i16 0, .int .i16 0, .int .i16 0, .int .i16 0, .int .i16 0, .int .i16 0, .int .i16 0, .int .i16 0, .int .i16 0, .int .i16 0, .int .i16 0, .int .i16 0, .int .i16 0, .int .i16 0, .int .i16 0, .int .i16 0, .int .i16 0, .int .i16 0, .int .i16 0, .int .i16 0, .int .i16 0, .int .i16 0, .int .i16 0, .int .i16 0, .int .i16 0, .int .i16 0, .int .i16 0, .int .i16 0, .int .i16 0, .int .i16 0, .int .i16 0, .int .i16 0, .int .i16 0, .int .i16 0, .int .i16 0] 71)).alloc (.cells #[.int .i16 0, .int .i16 0, .int .i16 0, .int .i16 0, .int .i16 0, .int .i16 0, .int .i16 0, .int .i16 0, .int .i16 0, .int .i16 0, .int .i16 0, .int .i16 0, .int .i16 0, .int .i16 0, .int .i16 0, .int .i16 0, .int .i16 0, .int .i16 0, .int .i16 0, .int .i16 0, .int .i16 0, .int .i16 0, .int .i16 0, .int .i16 0, .int .i16 0, .int .i16 0, .int .i16 0, .int .i16 0, .int .i16 0, .int .i16 0, .int .i16 0, .int .i16 0, .int .i16 0, .int .i16 0, .int .i16 0, .int .i16 0, .int .i16 0, .int .i16 0, .int .i16 0, .int .i16 0, .int .i16 0, .int .i16 0, .int .i16 0, .int .i16 0, .int .i16 0, .int .i16 0, .int .i16 0, .int .i16 0] 71) = W0 at I0 ⊢
  have a0 : ArrAt W0 w.heap.size 0 24 f := fun i hi => I0.out.a i (by omega)
  go_upto_region 3 with (go_at_call 79
                         refine (HC1 _).mono ?_
                         rintro e w' ⟨rfl, x, rfl⟩
                         have I1 := Lib.hid (I0.out.grow (below_ext W0 x))
                         clear I0 a0
                         generalize ext W0 x = W1 at I1 ⊢
                         have t1 := I1.out.r2.there (o := 0) (n := 24) (by omega))
  have I2 := Lib.hid (I1.out.sets (g := f) (o := 0) (n := 24))
  have A2 : Hid (ArrAt (setA W1 (w.heap.size + 1 + 1) 0 24 f) (w.heap.size + 1 + 1) 0 24 f) := (ArrAt.set_same I1.out.r2 (by omega) : ArrAt _ _ 0 24 f)
  generalize setA W1 (w.heap.size + 1 + 1) 0 24 f = W2 at I2 A2 ⊢
  clear I1 t1
  have a2 := HP'.out _ _ I2.out.a
  go_upto_region 4 with (go_at_call 79
                         refine (HC2 _).mono ?_
                         rintro e w' ⟨rfl, x2, rfl⟩
                         have I3 := Lib.hid (I2.out.grow (below_ext W2 x2))
                         have A3 := Lib.hid (A2.out.below (below_ext W2 x2) (A2.out.lt (by omega)))
                         clear I2 A2 a2
                         generalize ext W2 x2 = W3 at I3 A3 ⊢
                         have t3 := I3.out.r2.there (o := 24) (n := 24) (by omega))
  have I4 := Lib.hid (I3.out.sets (g := g) (o := 24) (n := 24))
  have a4 := HS'.out W3 (w.heap.size + 1 + 1) 0 1 48 _ I3.out.r2 (by omega) A3.out
  rw [Nat.zero_add] at a4
  generalize setA W3 (w.heap.size + 1 + 1) 24 24 g = W4 at I4 a4 ⊢
  clear I3 A3 t3
  have t4 := I4.out.r1.there (o := 0) (n := 48) (by omega)
  have a5 : ArrAt (setA W4 (w.heap.size + 1) 0 48 f) (w.heap.size + 1) 0 48 f := ArrAt.set_same I4.out.r1 (by omega)
  have hB := Lib.hid (below_sets I4.out.old (Nat.le_succ _) : Below w.heap.size w (setA W4 (w.heap.size + 1) 0 48 f))
  go_wp2
  refine bodyPost_ret (v := .agg (arrA 48 f)) ?_ rfl ⟨rfl, ex_of hB.out⟩
  exact results_arr Try.results36 _ _ _ _ f rfl a5 Try.underlying71 rfl size_sun
theorem info_sun : (Try.prog.info? 71).map (fun i => (i.zero.isSome, i.size, i.bytes)) = some (true, 48, 96) := by kernel_rfl
theorem make_suns (n : Nat) (hn : n ≤ 1048576) : ∃ cs : Array Value, cs.size = n * 48 ∧ ∀ w : World, (Instr.makeSlice 61 (.int .i64 (n : Int)) (.int .i64 (n : Int))).run Try.prog w = .ok (.slice (some ⟨w.heap.size, 0, none⟩) n n) (w.alloc (.cells cs 71)) := by
  obtain ⟨i, hi, hzz⟩ := Option.map_eq_some_iff.1 info_sun
  simp only [Prod.mk.injEq] at hzz
  obtain ⟨hz, hs, hb⟩ := hzz
  obtain ⟨v, hv⟩ := Option.isSome_iff_exists.1 hz
  refine ⟨madeCells v.cells (n * 48), size_madeCells _ _, fun w => ?_⟩
  have hr := run_make (P := Try.prog) w 61 71 i _ Try.underlying61 hi hv .i64 .i64 n n (by omega) (Int.le_refl _) (by rw [hb]; omega) (by omega)
  simp only [Int.toNat_natCast, hs] at hr
  exact hr
theorem sun_put {w : World} {g n k : Nat} {S : Nat → Nat → Int} (hr : RowOf w g n 48 71) (hk : k < n) (h : RdS w (some ⟨g, 0, none⟩) k S) :
    RdS (setA w g (k * 48) 48 (S k)) (some ⟨g, 0, none⟩) (k + 1) S := by
  intro j hj
  refine ⟨g, 0, rfl, ?_⟩
  rw [Nat.zero_add]
  rcases Nat.lt_succ_iff_lt_or_eq.1 hj with h1 | h1
  · obtain ⟨b, o, e, c⟩ := h j h1
    injection e with e; injection e with e1 e2; subst e1; subst e2
    rw [Nat.zero_add] at c
    exact c.set_out (.inr (.inl (by omega)))
  · subst h1
    exact ArrAt.set_same hr (by omega)
set_option maxRecDepth 100000 in
set_option maxHeartbeats 4000000 in
theorem toSunS_any (A : Option Addr) (n c : Nat) (S : Nat → Nat → Int) (hn : n ≤ 1048576) (w : World) (hS : RdS w A n S) :
    Calls Try.prog 30 #[.slice A n c] w fun e w' => e = .returned (.slice (some ⟨w.heap.size, 0, none⟩) n n) ∧ Below w.heap.size w w' ∧ w.heap.size < w'.heap.size ∧ RdS w' (some ⟨w.heap.size, 0, none⟩) n S ∧ RowOf w' w.heap.size n 48 71 := by
  obtain ⟨cs, hcs, hmk⟩ := make_suns n hn
  have HS := Lib.hid hS; clear hS
  have HR0 : Hid (RowOf (w.alloc (.cells cs 71)) w.heap.size n 48 71) := ⟨cs, heap_alloc_new _ _, hcs⟩
  go_enter Try.func30, Try.ntmps30
  go_wp2
  go_loopg [4] n (fun gg s4 wr => ∃ kk : Nat, kk ≤ n ∧ n - kk ≤ gg ∧ s4 = .int .i64 kk ∧ Aside (Below w.heap.size w wr) ∧ Aside (w.heap.size < wr.heap.size) ∧ Aside (RdS wr (some ⟨w.heap.size, 0, none⟩) kk S) ∧ Aside (RowOf wr w.heap.size n 48 71))
  case atStart => exact ⟨0, Nat.zero_le _, by omega, rfl, (Below.refl _ _).alloc (Nat.le_refl _) _, (by simp : w.heap.size < (w.alloc _).heap.size), fun j hj => absurd hj (Nat.not_lt_zero _), HR0.out⟩
  case round =>
    obtain ⟨kk, hkk, hg, rfl, BW, SZ, RD, RW⟩ := hrel
    by_cases hlt : kk < n
    · have hltz : (kk : Int) < (n : Int) := by omega
      obtain ⟨bt, ot, rfl, hs⟩ := (HS.out.below BW.out) kk hlt
      have hb := hs.lt (by omega)
      have hcall := fun W => toSun_any (S kk) W
      have hlo := fun W b o => ld_lsun (S kk) W b o
      have hst := fun W b o => sa_sun (S kk) W b o
      have hput : Hid (∀ W, RowOf W w.heap.size n 48 71 → RdS W (some ⟨w.heap.size, 0, none⟩) kk S → RdS (setA W w.heap.size (kk * 48) 48 (S kk)) (some ⟨w.heap.size, 0, none⟩) (kk + 1) S) := fun W h1 h2 => sun_put h1 hlt h2
      generalize S kk = f at hs hcall hlo hst hput
      go_wp2_with (go_at_call 36
                   refine (hcall _).mono ?_
                   rintro e w' ⟨rfl, x, rfl⟩
                   have hbx := below_ext wr x
                   have B1 := Lib.hid (below_step BW.out hbx)
                   have S1 := Lib.hid (Nat.lt_of_lt_of_le SZ.out hbx.size)
                   have D1 := Lib.hid (RD.out.below hbx)
                   have R1 := Lib.hid (RW.out.below hbx SZ.out)
                   clear BW SZ RD RW hbx hs hb
                   generalize ext wr x = W1 at B1 S1 D1 R1 ⊢
                   have t1 := R1.out.there (o := kk * 48) (n := 48) (by omega))
      go_roundg (n - (kk + 1))
      case measure => omega
      case rel => exact ⟨kk + 1, by omega, by omega, by go_num, (show Aside _ from below_sets B1.out (Nat.le_refl _)), (show Aside _ from Nat.lt_of_lt_of_eq S1.out size_sets.symm), (show Aside _ from hput.out _ R1.out D1.out), (show Aside _ from R1.out.sets)⟩
    · have hltz : ¬ (kk : Int) < (n : Int) := by omega
      have : kk = n := by omega
      subst this
      go_wp2
      go_ret
      exact ⟨rfl, BW.out, SZ.out, RD.out, RW.out⟩
/-- The copy of suns, its place under a name. -/
theorem toSunS_x (A : Option Addr) (n c : Nat) (S : Nat → Nat → Int) (hn : n ≤ 1048576) (w : World) (hS : RdS w A n S) :
    Calls Try.prog 30 #[.slice A n c] w fun e w' => ∃ g x, e = .returned (.slice (some ⟨g, 0, none⟩) n n) ∧ w' = ext w x ∧ Aside (w.heap.size ≤ g ∧ g < (ext w x).heap.size ∧ RdS (ext w x) (some ⟨g, 0, none⟩) n S ∧ RowOf (ext w x) g n 48 71) :=
  (toSunS_any A n c S hn w hS).mono fun e w' ⟨he, hb, hs, hr, ho⟩ => by
    obtain ⟨x, rfl⟩ := ex_of hb
    exact ⟨_, x, he, rfl, Nat.le_refl _, hs, hr, ho⟩
end Go.Proofs.Ytbelopcfmjgfiaa
