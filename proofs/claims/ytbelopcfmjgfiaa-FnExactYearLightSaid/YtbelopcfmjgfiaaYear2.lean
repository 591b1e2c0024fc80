/- Contracts: what passes on a day (both packages). No condition. -/
import Derived.Test.YtbelopcfmjgfiaaYear1
namespace Go.Proofs.Ytbelopcfmjgfiaa
open Go Go.RowKit Go.BigFrame
attribute [local go_sem] binOp_flt binOp_fgt binOp_feq binOp_fne binOp_fle binOp_fge faRes_some run_fadd run_fsub run_fmul run_fdiv run_ofI run_store_float run_neg run_min1 ext_cell ext_frozen ext_lt ext_setCell ext_drew ext_drewN
attribute [local go_sem] arrAt_ext arrAt_alloc arrAt_drew arrAt_drewN arrAt_new arrAt_new1 arrAt_new2
attribute [local go_sem ↓] run_ld_sun run_st_sun run_ld_lsun run_st_lsun run_ld_a24 run_st_a24
/-- What all days need of a blind. -/
structure BOk (wd gp : Nat) (ti : Int) (sh : Nat) : Prop where
  w : Len wd
  g : Len gp
  s : Part sh
  t0 : -64 ≤ ti
  t1 : ti ≤ 64
theorem bok_of {sl : Int} {wd gp : Nat} {ti : Int} {sh : Nat} (h : vBlind sl wd gp ti sh = true) (hw : wd < 4294967296) (hg : gp < 4294967296) : BOk wd gp ti sh := by
  unfold vBlind at h
  simp only [Bool.and_eq_true, inB_iff] at h
  exact ⟨len_of hw h.2.1, len_of hg h.2.2.1, part_of h.2.2.2.2, h.2.2.2.1.1, h.2.2.2.1.2⟩
theorem sun_at {f : Nat → Int} (h : vSun f = true) {k : Nat} (hk : k < 24) : (-64 ≤ f k ∧ f k ≤ 64) ∧ 0 ≤ f (24 + k) ∧ f (24 + k) ≤ 255 := okSun_at h hk
set_option maxRecDepth 100000 in
set_option maxHeartbeats 2000000 in
theorem passDay1_any (b1 b2 b3 : Nat) (sl : Int) (wd gp : Nat) (ti : Int) (sh : Nat) (f : Nat → Int) (fc : Int) (hB : BOk wd gp ti sh) (hv : vSun f = true) (hf0 : 0 ≤ fc) (hf1 : fc ≤ 255) (h : Nat) (hh : h < 24) (w : World)
    (h1 : BlindAt w b1 0 sl wd gp ti sh) (h2 : ArrAt w b2 0 48 f) (h3 : w.cell? ⟨b3, 0, none⟩ = some (.int .i64 fc)) :
    Calls Try.prog 138 #[.int .i64 h, .pointer (some ⟨b1, 0, none⟩), .pointer (some ⟨b2, 0, none⟩), .pointer (some ⟨b3, 0, none⟩)] w fun e w' => e = .returned (.float .f32 (dayG f wd gp ti sh fc h)) ∧ ∃ x, w' = ext w x := by
  obtain ⟨⟨v0, v1⟩, t0, t1⟩ := sun_at hv hh
  have c1 := h2 h (by omega)
  have c2 := h2 (24 + h) (by omega)
  rw [← Nat.add_assoc] at c2
  have HP := passWindow_any sl wd gp ti sh b2 0 (h : Int) (f h) (f (24 + h)) fc hB.w hB.g hB.s hB.t0 hB.t1 (by omega) (by omega) v0 v1 t0 t1 (by omega) (by omega) w c1 c2
  obtain ⟨c0, c3, c4, c5, c6⟩ := h1
  clear c1 c2 h2 hB hv
  have e : winF wd gp ti sh (f h) (f (24 + h)) fc = dayG f wd gp ti sh fc h := rfl
  rw [e] at HP
  clear e
  generalize dayG f wd gp ti sh fc h = g at HP ⊢
  go_enter Try.func138, Try.ntmps138
  go_wp2_with (go_at_call 139; refine (Calls.mono HP) ?_; rintro e w' ⟨rfl, x, rfl⟩)
  go_ret
  exact ⟨rfl, ex_of (by (repeat' (first | (with_reducible exact Below.refl _ _) | (with_reducible assumption) | (with_reducible refine below_ext' ?_ ?_) | (with_reducible refine Below.alloc ?_ ?_ _) | (with_reducible refine below_drewN ?_ _) | (with_reducible refine Below.drew ?_) | (with_reducible refine Below.setCell ?_ ?_ _) | (with_reducible exact Nat.le_refl _) | (with_reducible refine ext_le _ _ ?_) | (with_reducible refine le_alloc ?_ _) | (with_reducible refine le_set ?_ _ _) | (with_reducible refine le_drew ?_) | (with_reducible refine le_drewN ?_ _) | (simp; done) | (simp; omega) | omega)))⟩
set_option maxRecDepth 100000 in
set_option maxHeartbeats 2000000 in
theorem overDay_any (g : Nat → Nat) (p1 p2 p3 : Value) (w : World) (HC : ∀ h, h < 24 → ∀ W, Below w.heap.size w W → Calls Try.prog 138 #[.int .i64 (h : Nat), p1, p2, p3] W fun e w' => e = .returned (.float .f32 (g h)) ∧ ∃ x, w' = ext W x)
    (HS : ∀ k, k < 24 → fadd (sumF g k) (g k) = some (sumF g (k + 1))) :
    Calls Try.prog 137 #[.func (.func 138) #[] #[p1, p2, p3]] w fun e w' => e = .returned (.float .f32 (sumF g 24)) ∧ ∃ x, w' = ext w x := by
  have HC' := Lib.hid HC; have HS' := Lib.hid HS; clear HC HS
  go_enter Try.func137, Try.ntmps137
  go_wp2
  go_loopg [3, 4, 5] 24 (fun gg s3 _ s5 wr => ∃ kk : Nat, kk ≤ 24 ∧ 24 - kk ≤ gg ∧ s3 = .float .f32 (sumF g kk) ∧ s5 = .int .i64 kk ∧ Aside (Below w.heap.size w wr))
  case atStart => exact ⟨0, by omega, by omega, rfl, rfl, Below.refl _ _⟩
  case round =>
    obtain ⟨kk, hkk, hg, rfl, rfl, BW⟩ := hrel
    by_cases hlt : kk < 24
    · have hltz : (kk : Int) < 24 := by omega
      have HC1 := HC'.out kk hlt wr BW.out
      have HS1 := HS'.out kk hlt
      generalize hs1 : sumF g (kk + 1) = s1 at HS1
      have Hs1 := Lib.hid hs1; clear hs1
      go_wp2_with (go_at_call 138; refine (Calls.mono HC1) ?_; rintro e w' ⟨rfl, x, rfl⟩)
      go_roundg (24 - (kk + 1))
      case measure => omega
      case rel =>
        refine ⟨kk + 1, by omega, by omega, by rw [Hs1.out], by go_num, (show Aside _ from below_ext' BW.out BW.out.size)⟩
    · have hltz : ¬ (kk : Int) < 24 := by omega
      have E := Lib.hid (show kk = 24 by omega)
      go_wp2
      go_ret
      exact ⟨by rw [E.out]; rfl, ex_of BW.out⟩
set_option maxRecDepth 100000 in
set_option maxHeartbeats 4000000 in
theorem PassDay_any (sl : Int) (wd gp : Nat) (ti : Int) (sh : Nat) (f : Nat → Int) (fc : Int) (hs0 : -128 ≤ sl) (hs1 : sl ≤ 127) (ht0 : -32768 ≤ ti) (ht1 : ti ≤ 32767) (hI : I16 f) (hvb : vBlind sl wd gp ti sh = true) (hB : BOk wd gp ti sh) (hv : vSun f = true) (hf0 : 0 ≤ fc) (hf1 : fc ≤ 255) (w : World) :
    Calls Try.prog 113 #[.agg #[.int .i8 sl, .float .f32 wd, .float .f32 gp, .int .i16 ti, .float .f32 sh], .agg (arrA 48 f), .int .i64 fc] w fun e w' => e = .returned (.tuple #[.float .f32 (dayF f wd gp ti sh fc), .int .i64 0]) ∧ ∃ x, w' = ext w x := by
  have HW := fun W => windowCode_any sl wd gp ti sh f true hs0 hs1 ht0 ht1 hI W
  have HF := fun W => isFacing_any fc W
  have e1 : inB fc 0 255 = true := inB_iff.2 ⟨hf0, hf1⟩
  have e2 : codeW (vSun f) (vBlind sl wd gp ti sh) true = 0 := by rw [hv, hvb]; rfl
  rw [e1] at HF
  rw [e2] at HW
  clear e1 e2
  have hlo := fun W b o => ld_sun f W b o
  have HO : ∀ W b1 b2 b3, BlindAt W b1 0 sl wd gp ti sh → ArrAt W b2 0 48 f → W.cell? ⟨b3, 0, none⟩ = some (.int .i64 fc) →
      Calls Try.prog 137 #[.func (.func 138) #[] #[.pointer (some ⟨b1, 0, none⟩), .pointer (some ⟨b2, 0, none⟩), .pointer (some ⟨b3, 0, none⟩)]] W fun e w' => e = .returned (.float .f32 (dayF f wd gp ti sh fc)) ∧ ∃ x, w' = ext W x :=
    fun W b1 b2 b3 h1 h2 h3 => overDay_any (dayG f wd gp ti sh fc) _ _ _ W
      (fun h hh W' hW => passDay1_any b1 b2 b3 sl wd gp ti sh f fc hB hv hf0 hf1 h hh W' ⟨(hW.cell (p := ⟨b1, 0, none⟩) h1.lt).trans h1.c0, (hW.cell (p := ⟨b1, 0 + 1, none⟩) h1.lt).trans h1.c1, (hW.cell (p := ⟨b1, 0 + 2, none⟩) h1.lt).trans h1.c2, (hW.cell (p := ⟨b1, 0 + 3, none⟩) h1.lt).trans h1.c3, (hW.cell (p := ⟨b1, 0 + 4, none⟩) h1.lt).trans h1.c4⟩
        (h2.below hW (h2.lt (by omega))) ((hW.cell (p := ⟨b3, 0, none⟩) (World.block_lt_of_cell? W _ h3)).trans h3))
      (fun k hk => dayG_step hB.w hB.g ti hB.s fc (fun j hj => (sun_at hv hj).1.2) hk)
  clear hI hvb hB hv
  generalize dayF f wd gp ti sh fc = dv at HO ⊢
  have J1 : ((((w.alloc (.cells #[.int .i8 sl, .float .f32 wd, .float .f32 gp, .int .i16 ti, .float .f32 sh] 49)).alloc (.cells (arrA 48 f) 71)).alloc (.cells #[.int .i64 fc] 2))).heap[w.heap.size]? = some (.cells #[.int .i8 sl, .float .f32 wd, .float .f32 gp, .int .i16 ti, .float .f32 sh] 49 (0, 0)) :=
    (Below.heap_alloc _ _ _ (by simp; omega)).trans ((Below.heap_alloc _ _ _ (by simp)).trans (heap_alloc_new _ _))
  have J2 : ((((w.alloc (.cells #[.int .i8 sl, .float .f32 wd, .float .f32 gp, .int .i16 ti, .float .f32 sh] 49)).alloc (.cells (arrA 48 f) 71)).alloc (.cells #[.int .i64 fc] 2))).heap[w.heap.size + 1]? = some (.cells (arrA 48 f) 71 (0, 0)) := by
    refine (Below.heap_alloc _ _ _ (by simp)).trans ?_
    rw [show w.heap.size + 1 = (w.alloc (.cells #[.int .i8 sl, .float .f32 wd, .float .f32 gp, .int .i16 ti, .float .f32 sh] 49)).heap.size by simp]
    exact heap_alloc_new _ _
  have J3 : ((((w.alloc (.cells #[.int .i8 sl, .float .f32 wd, .float .f32 gp, .int .i16 ti, .float .f32 sh] 49)).alloc (.cells (arrA 48 f) 71)).alloc (.cells #[.int .i64 fc] 2))).heap[w.heap.size + 1 + 1]? = some (.cells #[.int .i64 fc] 2 (0, 0)) := by
    rw [show w.heap.size + 1 + 1 = ((w.alloc (.cells #[.int .i8 sl, .float .f32 wd, .float .f32 gp, .int .i16 ti, .float .f32 sh] 49)).alloc (.cells (arrA 48 f) 71)).heap.size by simp]
    exact heap_alloc_new _ _
  have J4 : Below w.heap.size w ((((w.alloc (.cells #[.int .i8 sl, .float .f32 wd, .float .f32 gp, .int .i16 ti, .float .f32 sh] 49)).alloc (.cells (arrA 48 f) 71)).alloc (.cells #[.int .i64 fc] 2))) := by (repeat' (first | (with_reducible exact Below.refl _ _) | (with_reducible assumption) | (with_reducible refine below_ext' ?_ ?_) | (with_reducible refine Below.alloc ?_ ?_ _) | (with_reducible refine below_drewN ?_ _) | (with_reducible refine Below.drew ?_) | (with_reducible refine Below.setCell ?_ ?_ _) | (with_reducible exact Nat.le_refl _) | (with_reducible refine ext_le _ _ ?_) | (with_reducible refine le_alloc ?_ _) | (with_reducible refine le_set ?_ _ _) | (with_reducible refine le_drew ?_) | (with_reducible refine le_drewN ?_ _) | (simp; done) | (simp; omega) | omega))
  have K1 := Lib.hid J1; have K2 := Lib.hid J2; have K3 := Lib.hid J3; have K4 := Lib.hid J4; clear J1 J2 J3 J4
  go_enter Try.func113, Try.ntmps113
  go_wp2
  generalize ((w.alloc (.cells #[.int .i8 sl, .float .f32 wd, .float .f32 gp, .int .i16 ti, .float .f32 sh] 49)).alloc (.cells (arrA 48 f) 71)).alloc (.cells #[.int .i64 fc] 2) = W0 at K1 K2 K3 K4 ⊢
  obtain ⟨b0, b1, b2, b3, b4⟩ := row5b K1.out
  have a1 := ArrAt.of_row K2.out
  have d0 : W0.cell? ⟨w.heap.size + 1 + 1, 0, none⟩ = some (.int .i64 fc) := cell_of_row _ _ _ _ _ _ K3.out
  have z0 := size_of_heap K1.out
  have z1 := size_of_heap K2.out
  have z2 := size_of_heap K3.out
  have BW := K4.out
  have ZW := K4.out.size
  have HBl : Hid (BlindAt W0 w.heap.size 0 sl wd gp ti sh) := ⟨b0, b1, b2, b3, b4⟩
  have HAr := Lib.hid a1
  have HCe := Lib.hid d0
  refine wp_region_ex (by kernel_rfl) (by kernel_rfl) ?_
  repeat (go_big_quiet_step ((first | (go_at_call 81; exact Calls.ex_of_same (HF _)) | (go_at_call 80; exact Calls.ex_of (HW _)))))
  refine wpQuiet_nil ?_
  intro _ hw'
  obtain ⟨xq, hw''⟩ := hw'
  subst hw''
  go_wp2_with (go_at_call 137; refine (HO _ _ _ _ (HBl.out.ext _) (HAr.out.below (below_ext _ _) z1) ((ext_cell _ _ z2).trans HCe.out)).mono ?_; rintro e w' ⟨rfl, x, rfl⟩)
  refine bodyPost_ret (v := .tuple #[.float .f32 dv, .int .i64 0]) ?_ rfl ⟨rfl, ex_of (by (repeat' (first | (with_reducible exact Below.refl _ _) | (with_reducible assumption) | (with_reducible refine below_ext' ?_ ?_) | (with_reducible refine Below.alloc ?_ ?_ _) | (with_reducible refine below_drewN ?_ _) | (with_reducible refine Below.drew ?_) | (with_reducible refine Below.setCell ?_ ?_ _) | (with_reducible exact Nat.le_refl _) | (with_reducible refine ext_le _ _ ?_) | (with_reducible refine le_alloc ?_ _) | (with_reducible refine le_set ?_ _ _) | (with_reducible refine le_drew ?_) | (with_reducible refine le_drewN ?_ _) | (simp; done) | (simp; omega) | omega)))⟩
  simp [results, Try.results113, go_sem]
set_option maxRecDepth 100000 in
set_option maxHeartbeats 2000000 in
theorem l07Day_any (bb : Nat) (sl : Int) (wd gp : Nat) (ti : Int) (sh : Nat) (b o : Nat) (f : Nat → Int) (fc : Int) (hB : BOk wd gp ti sh) (hv : vSun f = true) (hf0 : 0 ≤ fc) (hf1 : fc ≤ 255) (w : World) (h1 : BlindAt w bb 0 sl wd gp ti sh) (h2 : ArrAt w b o 48 f) :
    Calls Try.prog 65 #[.pointer (some ⟨bb, 0, none⟩), .pointer (some ⟨b, o, none⟩), .int .i64 fc] w fun e w' => e = .returned (.float .f32 (dayF f wd gp ti sh fc)) ∧ ∃ x, w' = ext w x := by
  have HS : ∀ k, k < 24 → fadd (sumF (dayG f wd gp ti sh fc) k) (dayG f wd gp ti sh fc k) = some (sumF (dayG f wd gp ti sh fc) (k + 1)) := fun k hk => dayG_step hB.w hB.g ti hB.s fc (fun j hj => (sun_at hv hj).1.2) hk
  have HC : ∀ h, h < 24 → ∀ W, Below w.heap.size w W → Calls Try.prog 110 #[.pointer (some ⟨bb, 0, none⟩), .pointer (some ⟨b, o, none⟩), .int .i64 (h : Nat), .int .i64 fc] W fun e w' => e = .returned (.float .f32 (dayG f wd gp ti sh fc h)) ∧ ∃ x, w' = ext W x := fun h hh W hW => by
    obtain ⟨⟨v0, v1⟩, t0, t1⟩ := sun_at hv hh
    have a := h2.below hW (h2.lt (by omega))
    have c1 := a h (by omega)
    have c2 := a (24 + h) (by omega)
    rw [← Nat.add_assoc] at c2
    exact l02Window_any bb 0 sl wd gp ti sh b o (h : Int) (f h) (f (24 + h)) fc hB.w hB.g hB.s hB.t0 hB.t1 (by omega) (by omega) v0 v1 t0 t1 (by omega) (by omega) W
      ⟨(hW.cell (p := ⟨bb, 0, none⟩) h1.lt).trans h1.c0, (hW.cell (p := ⟨bb, 0 + 1, none⟩) h1.lt).trans h1.c1, (hW.cell (p := ⟨bb, 0 + 2, none⟩) h1.lt).trans h1.c2, (hW.cell (p := ⟨bb, 0 + 3, none⟩) h1.lt).trans h1.c3, (hW.cell (p := ⟨bb, 0 + 4, none⟩) h1.lt).trans h1.c4⟩ c1 c2
  unfold dayF
  generalize dayG f wd gp ti sh fc = g at HS HC ⊢
  have HC' := Lib.hid HC; have HS' := Lib.hid HS; clear HC HS hB hv h1 h2
  go_enter Try.func65, Try.ntmps65
  go_wp2
  go_loopg [7, 8] 24 (fun gg s3 s5 wr => ∃ kk : Nat, kk ≤ 24 ∧ 24 - kk ≤ gg ∧ s3 = .float .f32 (sumF g kk) ∧ s5 = .int .i64 kk ∧ Aside (Below w.heap.size w wr))
  case atStart => exact ⟨0, by omega, by omega, rfl, rfl, Below.refl _ _⟩
  case round =>
    obtain ⟨kk, hkk, hg, rfl, rfl, BW⟩ := hrel
    by_cases hlt : kk < 24
    · have hltz : (kk : Int) < 24 := by omega
      have HC1 := HC'.out kk hlt wr BW.out
      have HS1 := HS'.out kk hlt
      generalize hs1 : sumF g (kk + 1) = s1 at HS1
      have Hs1 := Lib.hid hs1; clear hs1
      go_wp2_with (go_at_call 110; refine (Calls.mono HC1) ?_; rintro e w' ⟨rfl, x, rfl⟩)
      go_roundg (24 - (kk + 1))
      case measure => omega
      case rel =>
        refine ⟨kk + 1, by omega, by omega, by rw [Hs1.out], by go_num, (show Aside _ from below_ext' BW.out BW.out.size)⟩
    · have hltz : ¬ (kk : Int) < 24 := by omega
      have E := Lib.hid (show kk = 24 by omega)
      go_wp2
      go_ret
      exact ⟨by rw [E.out]; rfl, ex_of BW.out⟩
end Go.Proofs.Ytbelopcfmjgfiaa
