/- Contracts: what passes through slats (both packages). No condition. -/
import Derived.Test.YtbelopcfmjgfiaaFall
namespace Go.Proofs.Ytbelopcfmjgfiaa
open Go Go.RowKit
attribute [local go_sem] binOp_flt binOp_fgt binOp_feq binOp_fne binOp_fle binOp_fge faRes_some run_fadd run_fsub run_fmul run_fdiv run_ofI run_store_float run_neg run_min1 ext_cell ext_frozen ext_lt ext_setCell ext_drew ext_drewN

set_option maxRecDepth 100000 in
set_option maxHeartbeats 1000000 in
theorem pass_any (sl : Int) (wd gp : Nat) (ti : Int) (sh : Nat) (h : Int) (hw : Len wd) (hg : Len gp) (hs : Part sh) (h0 : 1 ≤ h) (h1 : h ≤ 64) (ht0 : -64 ≤ ti) (ht1 : ti ≤ 64) (w : World) :
    Calls Try.prog 134 #[.agg #[.int .i8 sl, .float .f32 wd, .float .f32 gp, .int .i16 ti, .float .f32 sh], .int .i64 h] w fun e w' => e = .returned (.float .f32 (passF wd gp ti sh h)) ∧ ∃ x, w' = ext w x := by
  obtain ⟨e1, e2, e3, e4, _, _⟩ := pass_steps hw hg ti hs h0 h1
  have HW := Lib.hid hw; have HG := Lib.hid hg; clear hw hg hs
  go_enter Try.func134, Try.ntmps134
  go_wp2
  refine wp_region_ex (by kernel_rfl) (by kernel_rfl) ?_
  repeat (quiet_step ((first | (go_at_call 146; exact Calls.ex_of (blocked_any sl wd gp ti sh h HW.out HG.out h0 h1 ht0 ht1 _)) | (go_at_call 147; exact Calls.ex_of (open_any sl wd gp ti sh 1 HW.out HG.out (by omega) (by omega) ht0 ht1 _)))))
  refine wpQuiet_nil ?_
  intro _ hw'
  obtain ⟨xq, hw''⟩ := hw'
  subst hw''
  go_wp2_with (go_at_call 147; refine (open_any sl wd gp ti sh h HW.out HG.out h0 h1 ht0 ht1 _).mono ?_; rintro e w2 ⟨rfl, x2, rfl⟩)
  go_ret
  exact ⟨rfl, ex_of (by (repeat' (first | (with_reducible exact Below.refl _ _) | (with_reducible assumption) | (with_reducible refine below_ext' ?_ ?_) | (with_reducible refine Below.alloc ?_ ?_ _) | (with_reducible refine below_drewN ?_ _) | (with_reducible refine Below.drew ?_) | (with_reducible refine Below.setCell ?_ ?_ _) | (with_reducible exact Nat.le_refl _) | (with_reducible refine ext_le _ _ ?_) | (simp; done) | (simp; omega) | omega)))⟩

set_option maxRecDepth 100000 in
set_option maxHeartbeats 1000000 in
theorem passWindow_any (sl : Int) (wd gp : Nat) (ti : Int) (sh : Nat) (b o : Nat) (h v t f : Int) (hw : Len wd) (hg : Len gp) (hs : Part sh) (hti0 : -64 ≤ ti) (hti1 : ti ≤ 64)
    (h0 : 0 ≤ h) (h1 : h < 24) (hv0 : -64 ≤ v) (hv1 : v ≤ 64) (ht0 : 0 ≤ t) (ht1 : t ≤ 255) (hf0 : -1000 ≤ f) (hf1 : f ≤ 1000) (w : World)
    (hc : w.cell? ⟨b, o + h.toNat, none⟩ = some (.int .i16 v)) (hd : w.cell? ⟨b, o + 24 + h.toNat, none⟩ = some (.int .i16 t)) :
    Calls Try.prog 139 #[.agg #[.int .i8 sl, .float .f32 wd, .float .f32 gp, .int .i16 ti, .float .f32 sh], .pointer (some ⟨b, o, none⟩), .int .i64 h, .int .i64 f] w fun e w' => e = .returned (.float .f32 (winF wd gp ti sh v t f)) ∧ ∃ x, w' = ext w x := by
  have H : Hid (winF wd gp ti sh v t f = if v ≤ 0 then 0 else mulv (fallF v t f) (passF wd gp ti sh v)) := (rfl : winF wd gp ti sh v t f = _)
  have lb : b < w.heap.size := World.block_lt_of_cell? w _ hc
  by_cases hup : 0 < v
  · obtain ⟨e1, e2⟩ := win_step hw hg ti hs v t f hup hv1
    clear e2
    have HW := Lib.hid hw; have HG := Lib.hid hg; have HS := Lib.hid hs; clear hw hg hs
    have hdec : decide (0 < v) = true := by simpa using hup
    have hc1 : ∀ o', (w.alloc o').cell? ⟨b, o + h.toNat, none⟩ = some (.int .i16 v) := fun o' => (World.cell?_alloc_lt w o' ⟨b, o + h.toNat, none⟩ lb).trans hc
    have hd1 : ∀ o', (w.alloc o').cell? ⟨b, o + 24 + h.toNat, none⟩ = some (.int .i16 t) := fun o' => (World.cell?_alloc_lt w o' ⟨b, o + 24 + h.toNat, none⟩ lb).trans hd
    have hl1 : ∀ o', b < (w.alloc o').heap.size := fun o' => by simp; omega
    have hv64 : IntKind.i64.wrap v = v := IntWalk.i64_in _ (by omega)
    have HC := Lib.hid hc1; have HD := Lib.hid hd1; have HL := Lib.hid hl1; clear hc1 hd1 hl1
    go_enter Try.func139, Try.ntmps139
    go_wp2_with (go_at_call 148; refine (isUp_any b o h v h0 h1 _ (HC.out _)).mono ?_; rw [hdec]; rintro e w' ⟨rfl, rfl⟩)
    refine wp_region_ex (by kernel_rfl) (by kernel_rfl) ?_
    repeat (quiet_step ((first | (go_at_call 141; exact Calls.ex_of_drewN (fall_any b o h v t f h0 h1 hv0 hv1 ht0 ht1 hf0 hf1 _ ((ext_cell _ _ (HL.out _)).trans (HC.out _)) ((ext_cell _ _ (HL.out _)).trans (HD.out _)))) | (go_at_call 134; exact Calls.ex_of (pass_any sl wd gp ti sh v HW.out HG.out HS.out hup hv1 hti0 hti1 _)))))
    refine wpQuiet_nil ?_
    intro _ hw'
    obtain ⟨xq, hw''⟩ := hw'
    subst hw''
    go_wp2
    go_ret
    exact ⟨by rw [H.out, if_neg (by omega)]; rfl, ex_of (by (repeat' (first | (with_reducible exact Below.refl _ _) | (with_reducible assumption) | (with_reducible refine below_ext' ?_ ?_) | (with_reducible refine Below.alloc ?_ ?_ _) | (with_reducible refine below_drewN ?_ _) | (with_reducible refine Below.drew ?_) | (with_reducible refine Below.setCell ?_ ?_ _) | (with_reducible exact Nat.le_refl _) | (with_reducible refine ext_le _ _ ?_) | (simp; done) | (simp; omega) | omega)))⟩
  · have hdec : decide (0 < v) = false := by simpa using hup
    have hc1 : ∀ o', (w.alloc o').cell? ⟨b, o + h.toNat, none⟩ = some (.int .i16 v) := fun o' => (World.cell?_alloc_lt w o' ⟨b, o + h.toNat, none⟩ lb).trans hc
    have HC := Lib.hid hc1; clear hc1
    go_enter Try.func139, Try.ntmps139
    go_wp2_with (go_at_call 148; refine (isUp_any b o h v h0 h1 _ (HC.out _)).mono ?_; rw [hdec]; rintro e w' ⟨rfl, rfl⟩)
    go_ret
    exact ⟨by rw [H.out, if_pos (by omega)]; rfl, ex_of (by (repeat' (first | (with_reducible exact Below.refl _ _) | (with_reducible assumption) | (with_reducible refine below_ext' ?_ ?_) | (with_reducible refine Below.alloc ?_ ?_ _) | (with_reducible refine below_drewN ?_ _) | (with_reducible refine Below.drew ?_) | (with_reducible refine Below.setCell ?_ ?_ _) | (with_reducible exact Nat.le_refl _) | (with_reducible refine ext_le _ _ ?_) | (simp; done) | (simp; omega) | omega)))⟩

set_option maxRecDepth 100000 in
set_option maxHeartbeats 1000000 in
theorem tilted_any (sl : Int) (wd gp : Nat) (ti : Int) (sh : Nat) (n : Int) (h0 : -64 ≤ n) (h1 : n ≤ 64) (w : World) :
    Calls Try.prog 133 #[.agg #[.int .i8 sl, .float .f32 wd, .float .f32 gp, .int .i16 ti, .float .f32 sh], .int .i64 n] w fun e w' => e = .returned (.agg #[.int .i8 sl, .float .f32 wd, .float .f32 gp, .int .i16 n, .float .f32 sh]) ∧ ∃ x, w' = ext w x := by
  go_enter Try.func133, Try.ntmps133
  go_wp2
  exact bodyPost_ret (v := .agg #[.int .i8 sl, .float .f32 wd, .float .f32 gp, .int .i16 n, .float .f32 sh]) (by simp [results, Try.results133, go_sem]) rfl ⟨rfl, ex_of (by (repeat' (first | (with_reducible exact Below.refl _ _) | (with_reducible assumption) | (with_reducible refine below_ext' ?_ ?_) | (with_reducible refine Below.alloc ?_ ?_ _) | (with_reducible refine below_drewN ?_ _) | (with_reducible refine Below.drew ?_) | (with_reducible refine Below.setCell ?_ ?_ _) | (with_reducible exact Nat.le_refl _) | (with_reducible refine ext_le _ _ ?_) | (simp; done) | (simp; omega) | omega)))⟩

/-- A blind in memory. -/
structure BlindAt (w : World) (b o : Nat) (sl : Int) (wd gp : Nat) (ti : Int) (sh : Nat) : Prop where
  c0 : w.cell? ⟨b, o, none⟩ = some (.int .i8 sl)
  c1 : w.cell? ⟨b, o + 1, none⟩ = some (.float .f32 wd)
  c2 : w.cell? ⟨b, o + 2, none⟩ = some (.float .f32 gp)
  c3 : w.cell? ⟨b, o + 3, none⟩ = some (.int .i16 ti)
  c4 : w.cell? ⟨b, o + 4, none⟩ = some (.float .f32 sh)
section
variable {w : World} {b o : Nat} {sl : Int} {wd gp : Nat} {ti : Int} {sh : Nat}
theorem BlindAt.lt (h : BlindAt w b o sl wd gp ti sh) : b < w.heap.size := World.block_lt_of_cell? w _ h.c0
theorem BlindAt.ext (h : BlindAt w b o sl wd gp ti sh) (x : World) : BlindAt (ext w x) b o sl wd gp ti sh :=
  ⟨(ext_cell _ _ h.lt).trans h.c0, (ext_cell _ _ h.lt).trans h.c1, (ext_cell _ _ h.lt).trans h.c2, (ext_cell _ _ h.lt).trans h.c3, (ext_cell _ _ h.lt).trans h.c4⟩
end

set_option maxRecDepth 100000 in
set_option maxHeartbeats 1000000 in
theorem l02Blocked_any (b o : Nat) (sl : Int) (wd gp : Nat) (ti : Int) (sh : Nat) (h : Int) (hw : Len wd) (hg : Len gp) (h0 : 1 ≤ h) (h1 : h ≤ 64) (ht0 : -64 ≤ ti) (ht1 : ti ≤ 64) (w : World) (hB : BlindAt w b o sl wd gp ti sh) :
    Calls Try.prog 128 #[.pointer (some ⟨b, o, none⟩), .int .i64 h] w fun e w' => e = .returned (.float .f32 (blkF wd gp ti h)) ∧ ∃ x, w' = ext w x := by
  have H : Hid (blkF wd gp ti h = if feq (cosine h) 0 = true then 1065353216 else min1 (divv (mulv wd (sizeF (sine (h + ti)))) (mulv gp (cosine h)))) := (rfl : blkF wd gp ti h = _)
  have HM : Hid (∀ x, min1 x = if fgt x 1065353216 = true then 1065353216 else x) := fun x => (rfl : min1 x = _)
  obtain ⟨c0, c1, c2, c3, c4⟩ := hB
  have lb : b < w.heap.size := World.block_lt_of_cell? w _ c0
  cases hc : feq (cosine h) 0
  · obtain ⟨e1, e2, e3, e4⟩ := blk_steps hw hg ti h0 h1 hc
    clear hw hg
    cases hf : fgt (divv (mulv wd (sizeF (sine (h + ti)))) (mulv gp (cosine h))) 1065353216
    all_goals
      go_enter Try.func128, Try.ntmps128
      go_wp2_with (first
        | (go_at_call 144; refine (l01Sine_any _ _).mono ?_; rintro e w' ⟨rfl, rfl⟩)
        | (go_at_call 145; refine (l01Cosine_any _ _).mono ?_; rintro e w' ⟨rfl, rfl⟩)
        | (go_at_call 143; refine (l01Size_any _ _).mono ?_; rintro e w' ⟨rfl, rfl⟩))
      refine wp_region_ex (by kernel_rfl) (by kernel_rfl) ?_
      repeat (quiet_step ((fail)))
      refine wpQuiet_nil ?_
      intro _ hw'
      obtain ⟨xq, hw''⟩ := hw'
      subst hw''
      go_wp2
      go_ret
      exact ⟨by rw [H.out, hc, HM.out, hf]; rfl, ex_of (by (repeat' (first | (with_reducible exact Below.refl _ _) | (with_reducible assumption) | (with_reducible refine below_ext' ?_ ?_) | (with_reducible refine Below.alloc ?_ ?_ _) | (with_reducible refine below_drewN ?_ _) | (with_reducible refine Below.drew ?_) | (with_reducible refine Below.setCell ?_ ?_ _) | (with_reducible exact Nat.le_refl _) | (with_reducible refine ext_le _ _ ?_) | (simp; done) | (simp; omega) | omega)))⟩
  · clear hw hg
    go_enter Try.func128, Try.ntmps128
    go_wp2_with (first
      | (go_at_call 144; refine (l01Sine_any _ _).mono ?_; rintro e w' ⟨rfl, rfl⟩)
      | (go_at_call 145; refine (l01Cosine_any _ _).mono ?_; rintro e w' ⟨rfl, rfl⟩)
      | (go_at_call 143; refine (l01Size_any _ _).mono ?_; rintro e w' ⟨rfl, rfl⟩))
    go_ret
    exact ⟨by rw [H.out, hc]; rfl, ex_of (Below.refl _ _)⟩

set_option maxRecDepth 100000 in
set_option maxHeartbeats 1000000 in
theorem l02Open_any (b o : Nat) (sl : Int) (wd gp : Nat) (ti : Int) (sh : Nat) (h : Int) (hw : Len wd) (hg : Len gp) (h0 : 1 ≤ h) (h1 : h ≤ 64) (ht0 : -64 ≤ ti) (ht1 : ti ≤ 64) (w : World) (hB : BlindAt w b o sl wd gp ti sh) :
    Calls Try.prog 127 #[.pointer (some ⟨b, o, none⟩), .int .i64 h] w fun e w' => e = .returned (.float .f32 (openF wd gp ti h)) ∧ ∃ x, w' = ext w x := by
  have e1 := (open_step hw hg ti h0 h1).1
  have HW := Lib.hid hw; have HG := Lib.hid hg; have HB := Lib.hid hB; clear hw hg hB
  go_enter Try.func127, Try.ntmps127
  go_wp2_with (go_at_call 128; refine (l02Blocked_any b o sl wd gp ti sh h HW.out HG.out h0 h1 ht0 ht1 _ HB.out).mono ?_; rintro e w' ⟨rfl, x, rfl⟩)
  go_ret
  exact ⟨rfl, ex_of (by (repeat' (first | (with_reducible exact Below.refl _ _) | (with_reducible assumption) | (with_reducible refine below_ext' ?_ ?_) | (with_reducible refine Below.alloc ?_ ?_ _) | (with_reducible refine below_drewN ?_ _) | (with_reducible refine Below.drew ?_) | (with_reducible refine Below.setCell ?_ ?_ _) | (with_reducible exact Nat.le_refl _) | (with_reducible refine ext_le _ _ ?_) | (simp; done) | (simp; omega) | omega)))⟩

set_option maxRecDepth 100000 in
set_option maxHeartbeats 1000000 in
theorem l02Pass_any (b o : Nat) (sl : Int) (wd gp : Nat) (ti : Int) (sh : Nat) (h : Int) (hw : Len wd) (hg : Len gp) (hs : Part sh) (h0 : 1 ≤ h) (h1 : h ≤ 64) (ht0 : -64 ≤ ti) (ht1 : ti ≤ 64) (w : World) (hB : BlindAt w b o sl wd gp ti sh) :
    Calls Try.prog 99 #[.pointer (some ⟨b, o, none⟩), .int .i64 h] w fun e w' => e = .returned (.float .f32 (passF wd gp ti sh h)) ∧ ∃ x, w' = ext w x := by
  obtain ⟨e1, e2, e3, e4, _, _⟩ := pass_steps hw hg ti hs h0 h1
  have HW := Lib.hid hw; have HG := Lib.hid hg; have HB := Lib.hid hB; clear hw hg hs
  obtain ⟨c0, c1, c2, c3, c4⟩ := hB
  have lb : b < w.heap.size := World.block_lt_of_cell? w _ c0
  go_enter Try.func99, Try.ntmps99
  go_wp2_with (go_at_call 127; refine (l02Open_any b o sl wd gp ti sh 1 HW.out HG.out (by omega) (by omega) ht0 ht1 _ HB.out).mono ?_; rintro e w' ⟨rfl, x, rfl⟩)
  refine wp_region_ex (by kernel_rfl) (by kernel_rfl) ?_
  repeat (quiet_step ((go_at_call 128; exact Calls.ex_of (l02Blocked_any b o sl wd gp ti sh h HW.out HG.out h0 h1 ht0 ht1 _ ((HB.out.ext _).ext _)))))
  refine wpQuiet_nil ?_
  intro _ hw'
  obtain ⟨xq, hw''⟩ := hw'
  subst hw''
  go_wp2_with (go_at_call 127; refine (l02Open_any b o sl wd gp ti sh h HW.out HG.out h0 h1 ht0 ht1 _ ((HB.out.ext _).ext _)).mono ?_; rintro e w' ⟨rfl, x, rfl⟩)
  go_ret
  exact ⟨rfl, ex_of (by (repeat' (first | (with_reducible exact Below.refl _ _) | (with_reducible assumption) | (with_reducible refine below_ext' ?_ ?_) | (with_reducible refine Below.alloc ?_ ?_ _) | (with_reducible refine below_drewN ?_ _) | (with_reducible refine Below.drew ?_) | (with_reducible refine Below.setCell ?_ ?_ _) | (with_reducible exact Nat.le_refl _) | (with_reducible refine ext_le _ _ ?_) | (simp; done) | (simp; omega) | omega)))⟩

set_option maxRecDepth 100000 in
set_option maxHeartbeats 1000000 in
theorem l02Window_any (b o : Nat) (sl : Int) (wd gp : Nat) (ti : Int) (sh : Nat) (b' o' : Nat) (h v t f : Int) (hw : Len wd) (hg : Len gp) (hs : Part sh) (hti0 : -64 ≤ ti) (hti1 : ti ≤ 64)
    (h0 : 0 ≤ h) (h1 : h < 24) (hv0 : -64 ≤ v) (hv1 : v ≤ 64) (ht0 : 0 ≤ t) (ht1 : t ≤ 255) (hf0 : -1000 ≤ f) (hf1 : f ≤ 1000) (w : World) (hB : BlindAt w b o sl wd gp ti sh)
    (hc : w.cell? ⟨b', o' + h.toNat, none⟩ = some (.int .i16 v)) (hd : w.cell? ⟨b', o' + 24 + h.toNat, none⟩ = some (.int .i16 t)) :
    Calls Try.prog 110 #[.pointer (some ⟨b, o, none⟩), .pointer (some ⟨b', o', none⟩), .int .i64 h, .int .i64 f] w fun e w' => e = .returned (.float .f32 (winF wd gp ti sh v t f)) ∧ ∃ x, w' = ext w x := by
  have H : Hid (winF wd gp ti sh v t f = if v ≤ 0 then 0 else mulv (fallF v t f) (passF wd gp ti sh v)) := (rfl : winF wd gp ti sh v t f = _)
  have lb : b' < w.heap.size := World.block_lt_of_cell? w _ hc
  have HC := Lib.hid hc; have HD := Lib.hid hd
  by_cases hup : 0 < v
  · obtain ⟨e1, e2⟩ := win_step hw hg ti hs v t f hup hv1
    clear e2
    have HW := Lib.hid hw; have HG := Lib.hid hg; have HS := Lib.hid hs; have HB := Lib.hid hB; clear hw hg hs hB
    have hv64 : IntKind.i64.wrap v = v := IntWalk.i64_in _ (by omega)
    go_enter Try.func110, Try.ntmps110
    go_wp2
    refine wp_region_ex (by kernel_rfl) (by kernel_rfl) ?_
    repeat (quiet_step ((first | (go_at_call 136; exact Calls.ex_of_drewN (l01Fall_any b' o' h v t f h0 h1 hv0 hv1 ht0 ht1 hf0 hf1 _ ((ext_cell _ _ lb).trans HC.out) ((ext_cell _ _ lb).trans HD.out))) | (go_at_call 99; exact Calls.ex_of (l02Pass_any b o sl wd gp ti sh v HW.out HG.out HS.out hup hv1 hti0 hti1 _ (HB.out.ext _))))))
    refine wpQuiet_nil ?_
    intro _ hw'
    obtain ⟨xq, hw''⟩ := hw'
    subst hw''
    go_wp2
    go_ret
    exact ⟨by rw [H.out, if_neg (by omega)]; rfl, ex_of (by (repeat' (first | (with_reducible exact Below.refl _ _) | (with_reducible assumption) | (with_reducible refine below_ext' ?_ ?_) | (with_reducible refine Below.alloc ?_ ?_ _) | (with_reducible refine below_drewN ?_ _) | (with_reducible refine Below.drew ?_) | (with_reducible refine Below.setCell ?_ ?_ _) | (with_reducible exact Nat.le_refl _) | (with_reducible refine ext_le _ _ ?_) | (simp; done) | (simp; omega) | omega)))⟩
  · clear hw hg hs hB
    go_enter Try.func110, Try.ntmps110
    go_wp2
    go_ret
    exact ⟨by rw [H.out, if_pos (by omega)]; rfl, ex_of (by (repeat' (first | (with_reducible exact Below.refl _ _) | (with_reducible assumption) | (with_reducible refine below_ext' ?_ ?_) | (with_reducible refine Below.alloc ?_ ?_ _) | (with_reducible refine below_drewN ?_ _) | (with_reducible refine Below.drew ?_) | (with_reducible refine Below.setCell ?_ ?_ _) | (with_reducible exact Nat.le_refl _) | (with_reducible refine ext_le _ _ ?_) | (simp; done) | (simp; omega) | omega)))⟩
end Go.Proofs.Ytbelopcfmjgfiaa
