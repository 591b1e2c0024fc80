/- Contracts: the laws' copies of a half of a sun, of a sun. No condition. -/
import Derived.Test.YtbelopcfmjgfiaaYear1
import Derived.Test.YtbelopcfmjgfiaaCopy
import Derived.Deep.Upon
namespace Go.Proofs.Ytbelopcfmjgfiaa
open Go Go.RowKit Go.BigFrame
attribute [local go_sem] binOp_flt binOp_fgt binOp_feq binOp_fne binOp_fle binOp_fge faRes_some run_fadd run_fsub run_fmul run_fdiv run_ofI run_store_float run_neg run_min1 ext_cell ext_frozen ext_lt ext_setCell ext_drew ext_drewN
attribute [local go_sem] arrAt_ext arrAt_alloc arrAt_drew arrAt_drewN arrAt_new arrAt_new1 arrAt_new2
attribute [local go_sem ↓] run_ld_sun run_st_sun run_ld_lsun run_st_lsun run_ld_a24 run_st_a24
section
variable {w w' W : World} {B b b' g n m N o o' n' : Nat} {t : TypeId} {f f' : Nat → Int}
theorem RowOf.sets0 (h : RowOf w g n m t) : ∀ (vs : List Value) (o : Nat), RowOf (w.setCells g o vs) g n m t := fun vs => by
  induction vs generalizing w with
  | nil => exact fun _ => h
  | cons v r ih => exact fun o => ih (h.set o v) (o + 1)
theorem RowOf.there (h : RowOf w b N m t) (hn : o + n ≤ N * m) : w.there b o n := fun j hj => ⟨h.some (by omega), h.frozen _⟩
theorem RowOf.lt0 (h : RowOf w g n m t) : g < w.heap.size := by
  obtain ⟨cur, h1, _⟩ := h.row
  exact size_of_heap h1
theorem below_sets0 (h : Below B w W) (hB : B ≤ b) : ∀ (vs : List Value) (o : Nat), Below B w (W.setCells b o vs) := fun vs => by
  induction vs generalizing W with
  | nil => exact fun _ => h
  | cons v r ih => exact fun o => ih (h.setCell (p := ⟨b, o, none⟩) hB v) (o + 1)
theorem size_sets0 : ∀ (vs : List Value) (o : Nat), (w.setCells b o vs).heap.size = w.heap.size := fun vs => by
  induction vs generalizing w with
  | nil => exact fun _ => rfl
  | cons v r ih => exact fun o => (ih (o + 1)).trans (by simp [World.setCell])
theorem arrlen (n : Nat) (f : Nat → Int) : (arrA n f).toList.length = n := by simp [arrA]
theorem ArrAt.join (h1 : ArrAt w b o n f) (h2 : ArrAt w b (o + n) n' (fun i => f (n + i))) : ArrAt w b o (n + n') f := fun i hi => by
  by_cases h : i < n
  · exact h1 i h
  · have := h2 (i - n) (by omega)
    simp only at this
    rw [show o + n + (i - n) = o + i by omega, show n + (i - n) = i by omega] at this
    exact this
end
/-- A world in which n cells are written; its making under a name, so that the walk does not run it. -/
noncomputable def setA (w : World) (b o n : Nat) (f : Nat → Int) : World := Classical.choose (⟨w.setCells b o (arrA n f).toList, rfl⟩ : ∃ W, W = w.setCells b o (arrA n f).toList)
theorem setA_eq (w : World) (b o n : Nat) (f : Nat → Int) : setA w b o n f = w.setCells b o (arrA n f).toList := Classical.choose_spec (⟨w.setCells b o (arrA n f).toList, rfl⟩ : ∃ W, W = w.setCells b o (arrA n f).toList)
section
variable {w w' W : World} {B b b' g n m N o o' n' : Nat} {t : TypeId} {f f' : Nat → Int}
theorem RowOf.sets (h : RowOf w g n m t) : RowOf (setA w g o n' f) g n m t := by rw [setA_eq]; exact h.sets0 _ _
theorem ArrAt.set_same (h : RowOf w b N m t) (hn : o + n ≤ N * m) : ArrAt (setA w b o n f) b o n f := fun i hi => by
  have hl : (arrA n f).toList.length = n := by simp [arrA]
  rw [setA_eq, World.cell?_setCells_in b (arrA n f).toList o w (fun j hj => h.some (by omega)) i (by omega)]
  simp [arrA]
theorem ArrAt.set_out (h : ArrAt w b' o' n' f') (hap : b' ≠ b ∨ o' + n' ≤ o ∨ o + n ≤ o') : ArrAt (setA w b o n f) b' o' n' f' := fun i hi => by
  have hl : (arrA n f).toList.length = n := by simp [arrA]
  rw [setA_eq, World.cell?_setCells_out b (arrA n f).toList o w _ (fun e _ => by simp only at e ⊢; omega)]
  exact h i hi
theorem below_sets (h : Below B w W) (hB : B ≤ b) : Below B w (setA W b o n f) := by rw [setA_eq]; exact below_sets0 h hB _ _
theorem size_sets : (setA w b o n f).heap.size = w.heap.size := by rw [setA_eq]; exact size_sets0 _ _
theorem RowOf.sets_out (h : RowOf w g n m t) (hne : g ≠ b) : RowOf (setA w b o n' f) g n m t := by
  have hg := h.lt0
  obtain ⟨cur, h1, h2⟩ := h.row
  rw [setA_eq]
  exact ⟨cur, (World.heap_setCells_other w b o _ hg hne).trans h1, h2⟩
end
theorem results_arr {fn : Func} {p : Tmp} {T : TypeId} {n : Nat} {d : TypeDesc} (h : fn.results = #[.cell p T]) (tmps : Array Value) (w : World) (b o : Nat) (f : Nat → Int) (hp : tmps.getD p undef = .pointer (some ⟨b, o, none⟩)) (ha : ArrAt w b o n f)
    (hu : Try.prog.underlying T = some d) (hd : d.isRow = true) (hi : (Try.prog.info? T).map (·.size) = some n) : (results fn tmps).run Try.prog w = .ok (.agg (arrA n f)) w := by
  have hp' : tmps[p]?.getD undef = .pointer (some ⟨b, o, none⟩) := by simpa using hp
  have := run_loadVar_mid (P := Try.prog) w b o T (arrA n f).toList _ ha.range hu hd (by rw [hi, arrlen])
  simp [results, h, hp', asAddr, this]
theorem sa_sun (f : Nat → Int) (w : World) (b o : Nat) (ht : w.there b o 48) : (stA 71 (.pointer (some ⟨b, o, none⟩)) (.agg (arrA 48 f))).run Try.prog w = .ok () (setA w b o 48 f) := by
  rw [setA_eq]; exact st_sun f w b o ht
theorem sa_a24 (f : Nat → Int) (w : World) (b o : Nat) (ht : w.there b o 24) : (stA 65 (.pointer (some ⟨b, o, none⟩)) (.agg (arrA 24 f))).run Try.prog w = .ok () (setA w b o 24 f) := by
  rw [setA_eq]; exact st_a24 f w b o ht
/-- What holds ahead of the kk-th cell of a half that is copied. -/
structure HInv (f : Nat → Int) (w : World) (kk : Nat) (wr : World) : Prop where
  old : Below w.heap.size w wr
  a : ArrAt wr w.heap.size 0 24 f
  r1 : RowOf wr (w.heap.size + 1) 1 24 65
  r2 : RowOf wr (w.heap.size + 1 + 1) 1 24 65
  o : ArrAt wr (w.heap.size + 1 + 1) 0 kk f
theorem h_start (f : Nat → Int) (w : World) (Z1 Z2 : Array Value) (t1 : TypeId) (h1 : Z1.size = 24) (h2 : Z2.size = 24) : HInv f w 0 (((w.alloc (.cells (arrA 24 f) t1)).alloc (.cells Z1 65)).alloc (.cells Z2 65)) := by
  refine ⟨(((Below.refl _ _).alloc (Nat.le_refl _) _).alloc (by simp) _).alloc (by simp; omega) _, ?_, ⟨Z1, ?_, by omega⟩, ⟨Z2, ?_, by omega⟩, fun i hi => absurd hi (Nat.not_lt_zero _)⟩
  · exact ArrAt.of_row ((Below.heap_alloc _ _ _ (by simp; omega)).trans ((Below.heap_alloc _ _ _ (by simp)).trans (heap_alloc_new _ _)))
  · refine (Below.heap_alloc _ _ _ (by simp)).trans ?_
    rw [show w.heap.size + 1 = (w.alloc (.cells (arrA 24 f) t1)).heap.size by simp]
    exact heap_alloc_new _ _
  · rw [show w.heap.size + 1 + 1 = ((w.alloc (.cells (arrA 24 f) t1)).alloc (.cells Z1 65)).heap.size by simp]
    exact heap_alloc_new _ _
theorem HInv.put {f : Nat → Int} {w : World} {kk : Nat} {wr : World} (h : HInv f w kk wr) (hk : kk < 24) : HInv f w (kk + 1) (wr.setCell ⟨w.heap.size + 1 + 1, kk, none⟩ (.int .i16 (f kk))) := by
  refine ⟨h.old.setCell (p := ⟨w.heap.size + 1 + 1, kk, none⟩) (by show w.heap.size ≤ w.heap.size + 1 + 1; omega) _, ?_, ?_, h.r2.set _ _, ?_⟩
  · intro i hi
    rw [World.cell?_setCell_other _ _ _ _ (fun e => by injection e; omega)]; exact h.a i hi
  · obtain ⟨cur, h1, h2⟩ := h.r1.row
    refine ⟨cur, ?_, h2⟩
    have : ¬ w.heap.size + 1 + 1 = w.heap.size + 1 := by omega
    simp only [World.setCell, Array.getElem?_modify, if_neg this]
    exact h1
  · intro i hi
    rw [Nat.zero_add]
    by_cases e : i = kk
    · subst e; exact World.cell?_setCell_same' _ _ _ (h.r2.some (by omega))
    · rw [World.cell?_setCell_other _ _ _ _ (fun e2 => by injection e2; omega)]
      have := h.o i (by omega)
      rw [Nat.zero_add] at this; exact this
set_option maxRecDepth 100000 in
set_option maxHeartbeats 4000000 in
theorem toInt16A24_any (f : Nat → Int) (w : World) : Calls Try.prog 79 #[.agg (arrA 24 f)] w fun e w' => e = .returned (.agg (arrA 24 f)) ∧ ∃ x, w' = ext w x := by
  have hlo := fun W b o => ld_a24 f W b o
  have hst := fun W b o => sa_a24 f W b o
  go_enter Try.func79, Try.ntmps79
  go_wp2
  go_loopg [4] 24 (fun gg s4 wr => ∃ kk : Nat, kk ≤ 24 ∧ 24 - kk ≤ gg ∧ s4 = .int .i64 kk ∧ Aside (HInv f w kk wr))
  case atStart => exact ⟨0, by omega, by omega, rfl, h_start f w _ _ _ rfl rfl⟩
  case round =>
    obtain ⟨kk, hkk, hg, rfl, I⟩ := hrel
    by_cases hlt : kk < 24
    · have hltz : (kk : Int) < 24 := by omega
      have c0 := I.out.a kk hlt
      rw [Nat.zero_add] at c0
      have f2 := I.out.r2.frozen kk
      obtain ⟨y2, d2⟩ := Option.isSome_iff_exists.1 (I.out.r2.some (k := kk) (by omega))
      have I2 := Lib.hid (I.out.put hlt)
      clear I
      generalize f kk = y at c0 I2
      go_wp2
      go_roundg (24 - (kk + 1))
      case measure => omega
      case rel => exact ⟨kk + 1, by omega, by omega, by go_num, I2.out⟩
    · have hltz : ¬ (kk : Int) < 24 := by omega
      have E : kk = 24 := by omega
      rw [E] at I
      have E' := Lib.hid E; clear E
      have a0 := I.out.o
      have t1 := I.out.r1.there (o := 0) (n := 24) (by omega)
      have a1 : ArrAt (setA wr (w.heap.size + 1) 0 24 f) (w.heap.size + 1) 0 24 f := ArrAt.set_same I.out.r1 (by omega)
      have hB := Lib.hid (below_sets I.out.old (Nat.le_succ _) : Below w.heap.size w (setA wr (w.heap.size + 1) 0 24 f))
      clear I
      go_wp2
      refine bodyPost_ret (v := .agg (arrA 24 f)) ?_ rfl ⟨rfl, ex_of hB.out⟩
      exact results_arr Try.results79 _ _ _ _ f rfl a1 Try.underlying65 rfl size_a24
end Go.Proofs.Ytbelopcfmjgfiaa
