/- The law FnExactYearLight, walked: it answers true. No condition. -/
import Derived.Test.YtbelopcfmjgfiaaLawSun
import Derived.Test.YtbelopcfmjgfiaaMark
namespace Go.Proofs.Ytbelopcfmjgfiaa
open Go Go.RowKit Go.BigFrame
attribute [local go_sem] binOp_flt binOp_fgt binOp_feq binOp_fne binOp_fle binOp_fge faRes_some run_fadd run_fsub run_fmul run_fdiv run_ofI run_store_float run_neg run_min1 ext_cell ext_frozen ext_lt ext_setCell ext_drew ext_drewN
/-- What the law holds in memory behind both calls: the blind's box, the results, the suns. -/
structure LY (Y : Yr) (fc : Int) (n N : Nat) (w : World) (gx B2 : Nat) (A1 A2 : Option Addr) (f : Nat → Value) (W : World) : Prop where
  l : BInv Y w W
  a1 : Own W w.heap.size A1 N 24 (fun k => .float .f32 (Y.day fc k))
  a2 : Own W B2 A2 N 24 f
  xr : RowOf W gx n 48 71
  d0 : w.heap.size < gx
  d2 : gx < B2
  d4 : ∀ j, 0 < N → blk A1 j → j < gx
section
variable {Y : Yr} {fc : Int} {n N : Nat} {w : World} {gx B2 : Nat} {A1 A2 : Option Addr} {f f' : Nat → Value} {W W' : World}
theorem LY.grow (h : LY Y fc n N w gx B2 A1 A2 f W) (hb : Below W.heap.size W W') : LY Y fc n N w gx B2 A1 A2 f W' :=
  ⟨h.l.grow hb, h.a1.below hb, h.a2.below hb, h.xr.below hb h.xr.lt0, h.d0, h.d2, h.d4⟩
theorem BInv.apart {X : Nat → Prop} (h : BInv Y w W) (hb : Apart X W W') (hX : ∀ j, X j → w.heap.size < j) : BInv Y w W' :=
  ⟨⟨hb.os.trans h.old.os, hb.tape.trans h.old.tape, hb.output.trans h.old.output, Nat.le_trans h.old.size hb.size, fun k hk => (hb.block k (Nat.lt_of_lt_of_le hk h.old.size) (fun x => by have := hX k x; omega)).trans (h.old.block k hk)⟩,
   (hb.block _ (size_of_heap h.b) (fun x => by have := hX _ x; omega)).trans h.b⟩
theorem LY.mark3 (h : LY Y fc n N w gx B2 A1 A2 f W) (hb : Apart (fun j => j = gx) W W') (hr : RowOf W' gx n 48 71) : LY Y fc n N w gx B2 A1 A2 f W' := by
  have d0 := h.d0; have d2 := h.d2
  refine ⟨h.l.apart hb (fun j e => by omega), ?_, ?_, hr, h.d0, h.d2, h.d4⟩
  · by_cases hN : 0 < N
    · exact h.a1.block fun j hj hbk => hb.block j hj (by have := h.d4 j hN hbk; omega)
    · exact .inl (by omega)
  · by_cases hN : 0 < N
    · exact h.a2.block fun j hj hbk => hb.block j hj (by have := h.a2.ge hN hbk; omega)
    · exact .inl (by omega)
theorem LY.mark2 (h : LY Y fc n N w gx B2 A1 A2 f W) (hb : Apart (fun j => 0 < N ∧ blk A2 j) W W') (ho : Own W' B2 A2 N 24 f') : LY Y fc n N w gx B2 A1 A2 f' W' := by
  have d0 := h.d0; have d2 := h.d2
  have ge : ∀ j, (0 < N ∧ blk A2 j) → B2 ≤ j := fun j e => h.a2.ge e.1 e.2
  refine ⟨h.l.apart hb (fun j e => by have := ge j e; omega), ?_, ho, ?_, h.d0, h.d2, h.d4⟩
  · by_cases hN : 0 < N
    · exact h.a1.block fun j hj hbk => hb.block j hj (fun e => by have := ge j e; have := h.d4 j hN hbk; omega)
    · exact .inl (by omega)
  · obtain ⟨cur, h1, h2⟩ := h.xr.row
    exact ⟨cur, (hb.block _ (size_of_heap h1) (fun e => by have := ge _ e; omega)).trans h1, h2⟩
end
set_option maxRecDepth 100000 in
set_option maxHeartbeats 16000000 in
theorem FnExactYearLight_any (Y : Yr) (fc : Int) (A : Option Addr) (n c : Nat) (F : Y.Fits n) (hn : n ≤ 9223372036854775807) (w : World) (hS : RdS w A n Y.S) :
    Calls Try.prog 8 #[.agg #[.int .i8 Y.sl, .float .f32 Y.wd, .float .f32 Y.gp, .int .i16 Y.ti, .float .f32 Y.sh], .slice A n c, .int .i64 fc] w fun e w' => e = .returned (.bool true) ∧ ∃ x, w' = ext w x := by
  have I0 := Lib.hid (b_start Y w)
  have HS := Lib.hid hS
  have HZ := fun W => szSunS_any A n c 1048576 hn (by omega) (by omega) W
  by_cases hbig : 1048576 < n
  · have hz : (1048576 : Int) < (n : Int) := by omega
    rw [if_pos hz] at HZ
    clear F hS
    go_enter Try.func8, Try.ntmps8
    go_wp2_with (go_at_call 28; refine (HZ _).mono ?_; rintro e w' ⟨rfl, rfl⟩)
    go_ret
    exact ⟨rfl, ex_of I0.out.old⟩
  · have hz : ¬ (1048576 : Int) < (n : Int) := by omega
    have hz2 : ¬ (1048576 : Int) - (n : Int) < 0 := by omega
    have hn1 : n ≤ 1048576 := by omega
    rw [if_neg hz] at HZ
    have HRS := fun (c' : Nat) (B : Option Addr) W hW => YearLightS_any Y fc B n c' F hn W hW
    have HRI := fun (c' : Nat) (B : Option Addr) W hW => YearLight_any Y fc B n c' F hn W hW
    have HEQ := fun (B B' : Option Addr) (c1 c2 : Nat) W h1 h2 => eqSunS_any B B' n c1 c2 Y.S hn1 W h1 h2
    have HTS := fun (B : Option Addr) (c1 : Nat) W h1 => toSunS_x B n c1 Y.S hn1 W h1
    have HB := fun W => toBlind_any Y.sl Y.wd Y.gp Y.ti Y.sh W
    have hN1 : Y.len n (inB fc 0 255) ≤ 1048576 := by unfold Yr.len; split <;> omega
    have HEF := fun (B B' : Option Addr) (c1 c2 : Nat) W h1 h2 => eqFloat32S_any B B' (Y.len n (inB fc 0 255)) c1 c2 (Y.day fc) hN1 W h1 h2
    have HM3 := fun (g c1 : Nat) W h1 => markSunS_any g n c1 1 hn1 (by omega) (by omega) W h1
    have HMF := fun (B : Option Addr) (c1 : Nat) (b : Nat) (f : Nat → Value) W h1 => markFloat32S_any B (Y.len n (inB fc 0 255)) c1 1 b f hN1 (by omega) (by omega) W h1
    have HHF := fun (B : Option Addr) (c1 : Nat) W h1 => heldFloat32S_any B (Y.len n (inB fc 0 255)) c1 1 hN1 (by omega) (by omega) W h1
    clear F hS
    unfold YearAns at HRS HRI
    generalize Y.len n (inB fc 0 255) = N at HRS HRI hN1 HEF HMF HHF
    generalize Y.code n (inB fc 0 255) = cd at HRS HRI
    have hk3 : ¬ (1 + (n : Int) * 48 < 0) := by omega
    have hkN : ¬ (1 + (N : Int) < 0) := by omega
    go_enter Try.func8, Try.ntmps8
    go_upto_region 5 with (go_at_call 28; refine (HZ _).mono ?_; rintro e w' ⟨rfl, rfl⟩)
    have BW := I0.out.old
    have ZW := I0.out.old.size
    obtain ⟨p0, p1, p2, p3, p4⟩ := row5b I0.out.b
    have zb := size_of_heap I0.out.b
    generalize w.alloc (.cells #[.int .i8 Y.sl, .float .f32 Y.wd, .float .f32 Y.gp, .int .i16 Y.ti, .float .f32 Y.sh] 40) = W0 at I0 BW ZW p0 p1 p2 p3 p4 zb ⊢
    go_upto_region 6 with (first
      | (go_at_call 23; refine (HB _).mono ?_; rintro e w' ⟨rfl, x, rfl⟩)
      | (go_at_call 30; refine (HTS _ _ _ (HS.out.below (by (repeat' (first | (with_reducible exact Below.refl _ _) | (with_reducible assumption) | (with_reducible refine below_ext' ?_ ?_) | (with_reducible refine Below.alloc ?_ ?_ _) | (with_reducible refine below_drewN ?_ _) | (with_reducible refine Below.drew ?_) | (with_reducible refine Below.setCell ?_ ?_ _) | (with_reducible exact Nat.le_refl _) | (with_reducible refine ext_le _ _ ?_) | (with_reducible refine le_alloc ?_ _) | (with_reducible refine le_set ?_ _ _) | (with_reducible refine le_drew ?_) | (with_reducible refine le_drewN ?_ _) | (simp; done) | (simp; omega) | omega))))).mono ?_; rintro e w' ⟨g, x1, rfl, rfl, ho⟩)
      | (go_at_call 39; refine (HRS _ _ _ ho.out.2.2.1).mono ?_; rintro e w' ⟨A1, c1, rfl, ⟨x2, rfl⟩, hO⟩))
    have I5 := Lib.hid (((I0.out.grow (below_ext _ x)).grow (below_ext _ x1)).grow (below_ext _ x2))
    have O5 := Lib.hid (hO.lower (show w.heap.size ≤ _ by (repeat' (first | (with_reducible exact Below.refl _ _) | (with_reducible assumption) | (with_reducible refine below_ext' ?_ ?_) | (with_reducible refine Below.alloc ?_ ?_ _) | (with_reducible refine below_drewN ?_ _) | (with_reducible refine Below.drew ?_) | (with_reducible refine Below.setCell ?_ ?_ _) | (with_reducible exact Nat.le_refl _) | (with_reducible refine ext_le _ _ ?_) | (with_reducible refine le_alloc ?_ _) | (with_reducible refine le_set ?_ _ _) | (with_reducible refine le_drew ?_) | (with_reducible refine le_drewN ?_ _) | (simp; done) | (simp; omega) | omega))))
    clear I0 BW ZW p0 p1 p2 p3 p4 zb ho hO
    generalize ext (ext (ext W0 x) x1) x2 = W5 at I5 O5 ⊢
    go_upto_region 7 with (go_at_call 30; refine (HTS _ _ _ (HS.out.below I5.out.old)).mono ?_; rintro e w' ⟨gx, x3, rfl, rfl, ho⟩)
    have I6 := Lib.hid (I5.out.grow (below_ext _ x3))
    have O6 := Lib.hid (O5.out.below (below_ext _ x3))
    have D6 := Lib.hid ho.out.2.2.1
    have X6 := Lib.hid ho.out.2.2.2
    have hd4 : Hid (∀ j, 0 < N → blk A1 j → j < gx) := fun j hN hb => Nat.lt_of_lt_of_le (O5.out.lt hN hb) ho.out.1
    have hd0 : Hid (w.heap.size < gx) := Nat.lt_of_lt_of_le (size_of_heap I5.out.b) ho.out.1
    have hgx := Lib.hid ho.out.2.1
    clear I5 O5 ho
    generalize ext W5 x3 = W6 at I6 O6 D6 X6 hgx ⊢
    have BW := I6.out.old
    have ZW := I6.out.old.size
    obtain ⟨p0, p1, p2, p3, p4⟩ := row5b I6.out.b
    have zb := size_of_heap I6.out.b
    go_upto_region 8 with (first
      | (go_at_call 23; refine (HB _).mono ?_; rintro e w' ⟨rfl, x4, rfl⟩)
      | (go_at_call 40; refine (HRI _ _ _ (D6.out.below (by (repeat' (first | (with_reducible exact Below.refl _ _) | (with_reducible assumption) | (with_reducible refine below_ext' ?_ ?_) | (with_reducible refine Below.alloc ?_ ?_ _) | (with_reducible refine below_drewN ?_ _) | (with_reducible refine Below.drew ?_) | (with_reducible refine Below.setCell ?_ ?_ _) | (with_reducible exact Nat.le_refl _) | (with_reducible refine ext_le _ _ ?_) | (with_reducible refine le_alloc ?_ _) | (with_reducible refine le_set ?_ _ _) | (with_reducible refine le_drew ?_) | (with_reducible refine le_drewN ?_ _) | (simp; done) | (simp; omega) | omega))))).mono ?_; rintro e w' ⟨A2, c2, rfl, ⟨x5, rfl⟩, hO⟩))
    have L0 : Hid (LY Y fc n N w gx W6.heap.size A1 A2 (fun k => .float .f32 (Y.day fc k)) (ext (ext W6 x4) x5)) :=
      ⟨(I6.out.grow (below_ext _ x4)).grow (below_ext _ x5), (O6.out.below (below_ext _ x4)).below (below_ext _ x5), hO.lower (by (repeat' (first | (with_reducible exact Below.refl _ _) | (with_reducible assumption) | (with_reducible refine below_ext' ?_ ?_) | (with_reducible refine Below.alloc ?_ ?_ _) | (with_reducible refine below_drewN ?_ _) | (with_reducible refine Below.drew ?_) | (with_reducible refine Below.setCell ?_ ?_ _) | (with_reducible exact Nat.le_refl _) | (with_reducible refine ext_le _ _ ?_) | (with_reducible refine le_alloc ?_ _) | (with_reducible refine le_set ?_ _ _) | (with_reducible refine le_drew ?_) | (with_reducible refine le_drewN ?_ _) | (simp; done) | (simp; omega) | omega))), (X6.out.below (below_ext _ x4) hgx.out).below (below_ext _ x5) (ext_lt _ _ hgx.out), hd0.out, hgx.out, hd4.out⟩
    have X0 := Lib.hid (((D6.out.below (below_ext _ x4))).below (below_ext _ x5))
    clear I6 O6 D6 X6 hd0 hd4 hgx BW ZW p0 p1 p2 p3 p4 zb hO
    generalize ext (ext W6 x4) x5 = W7 at L0 X0 ⊢
    generalize W6.heap.size = B2 at L0
    have BW := L0.out.l.old
    have ZW := L0.out.l.old.size
    go_upto_region 13 with (first
      | (go_at_call 16; refine (HEF _ _ _ _ _ ((L0.out.grow (by (repeat' (first | (with_reducible exact Below.refl _ _) | (with_reducible assumption) | (with_reducible refine below_ext' ?_ ?_) | (with_reducible refine Below.alloc ?_ ?_ _) | (with_reducible refine below_drewN ?_ _) | (with_reducible refine Below.drew ?_) | (with_reducible refine Below.setCell ?_ ?_ _) | (with_reducible exact Nat.le_refl _) | (with_reducible refine ext_le _ _ ?_) | (with_reducible refine le_alloc ?_ _) | (with_reducible refine le_set ?_ _ _) | (with_reducible refine le_drew ?_) | (with_reducible refine le_drewN ?_ _) | (simp; done) | (simp; omega) | omega)))).a2.rd) ((L0.out.grow (by (repeat' (first | (with_reducible exact Below.refl _ _) | (with_reducible assumption) | (with_reducible refine below_ext' ?_ ?_) | (with_reducible refine Below.alloc ?_ ?_ _) | (with_reducible refine below_drewN ?_ _) | (with_reducible refine Below.drew ?_) | (with_reducible refine Below.setCell ?_ ?_ _) | (with_reducible exact Nat.le_refl _) | (with_reducible refine ext_le _ _ ?_) | (with_reducible refine le_alloc ?_ _) | (with_reducible refine le_set ?_ _ _) | (with_reducible refine le_drew ?_) | (with_reducible refine le_drewN ?_ _) | (simp; done) | (simp; omega) | omega)))).a1.rd)).mono ?_; rintro e w' ⟨rfl, x, rfl⟩)
      | (go_at_call 30; refine (HTS _ _ _ (HS.out.below (by (repeat' (first | (with_reducible exact Below.refl _ _) | (with_reducible assumption) | (with_reducible refine below_ext' ?_ ?_) | (with_reducible refine Below.alloc ?_ ?_ _) | (with_reducible refine below_drewN ?_ _) | (with_reducible refine Below.drew ?_) | (with_reducible refine Below.setCell ?_ ?_ _) | (with_reducible exact Nat.le_refl _) | (with_reducible refine ext_le _ _ ?_) | (with_reducible refine le_alloc ?_ _) | (with_reducible refine le_set ?_ _ _) | (with_reducible refine le_drew ?_) | (with_reducible refine le_drewN ?_ _) | (simp; done) | (simp; omega) | omega))))).mono ?_; rintro e w' ⟨g2, x, rfl, rfl, ho⟩)
      | (go_at_call 32; refine (HEQ _ _ _ _ _ (X0.out.below (by (repeat' (first | (with_reducible exact Below.refl _ _) | (with_reducible assumption) | (with_reducible refine below_ext' ?_ ?_) | (with_reducible refine Below.alloc ?_ ?_ _) | (with_reducible refine below_drewN ?_ _) | (with_reducible refine Below.drew ?_) | (with_reducible refine Below.setCell ?_ ?_ _) | (with_reducible exact Nat.le_refl _) | (with_reducible refine ext_le _ _ ?_) | (with_reducible refine le_alloc ?_ _) | (with_reducible refine le_set ?_ _ _) | (with_reducible refine le_drew ?_) | (with_reducible refine le_drewN ?_ _) | (simp; done) | (simp; omega) | omega)))) ho.out.2.2.1).mono ?_; rintro e w' ⟨rfl, x, rfl⟩))
    go_upto_region 14 with (go_at_call 41
                            refine (HM3 _ _ _ (L0.out.grow (by (repeat' (first | (with_reducible exact Below.refl _ _) | (with_reducible assumption) | (with_reducible refine below_ext' ?_ ?_) | (with_reducible refine Below.alloc ?_ ?_ _) | (with_reducible refine below_drewN ?_ _) | (with_reducible refine Below.drew ?_) | (with_reducible refine Below.setCell ?_ ?_ _) | (with_reducible exact Nat.le_refl _) | (with_reducible refine ext_le _ _ ?_) | (with_reducible refine le_alloc ?_ _) | (with_reducible refine le_set ?_ _ _) | (with_reducible refine le_drew ?_) | (with_reducible refine le_drewN ?_ _) | (simp; done) | (simp; omega) | omega)))).xr).mono ?_
                            rintro e w1 ⟨rfl, hap, hr⟩
                            have L1a := LY.mark3 (L0.out.grow (by (repeat' (first | (with_reducible exact Below.refl _ _) | (with_reducible assumption) | (with_reducible refine below_ext' ?_ ?_) | (with_reducible refine Below.alloc ?_ ?_ _) | (with_reducible refine below_drewN ?_ _) | (with_reducible refine Below.drew ?_) | (with_reducible refine Below.setCell ?_ ?_ _) | (with_reducible exact Nat.le_refl _) | (with_reducible refine ext_le _ _ ?_) | (with_reducible refine le_alloc ?_ _) | (with_reducible refine le_set ?_ _ _) | (with_reducible refine le_drew ?_) | (with_reducible refine le_drewN ?_ _) | (simp; done) | (simp; omega) | omega)))) hap hr
                            clear hap hr)
    clear BW ZW L0 X0
    have L1 := Lib.hid L1a; clear L1a
    have BW := L1.out.l.old
    have ZW := L1.out.l.old.size
    go_upto_region 17 with (go_at_call 16; refine (HEF _ _ _ _ _ ((L1.out.grow (by (repeat' (first | (with_reducible exact Below.refl _ _) | (with_reducible assumption) | (with_reducible refine below_ext' ?_ ?_) | (with_reducible refine Below.alloc ?_ ?_ _) | (with_reducible refine below_drewN ?_ _) | (with_reducible refine Below.drew ?_) | (with_reducible refine Below.setCell ?_ ?_ _) | (with_reducible exact Nat.le_refl _) | (with_reducible refine ext_le _ _ ?_) | (with_reducible refine le_alloc ?_ _) | (with_reducible refine le_set ?_ _ _) | (with_reducible refine le_drew ?_) | (with_reducible refine le_drewN ?_ _) | (simp; done) | (simp; omega) | omega)))).a2.rd) ((L1.out.grow (by (repeat' (first | (with_reducible exact Below.refl _ _) | (with_reducible assumption) | (with_reducible refine below_ext' ?_ ?_) | (with_reducible refine Below.alloc ?_ ?_ _) | (with_reducible refine below_drewN ?_ _) | (with_reducible refine Below.drew ?_) | (with_reducible refine Below.setCell ?_ ?_ _) | (with_reducible exact Nat.le_refl _) | (with_reducible refine ext_le _ _ ?_) | (with_reducible refine le_alloc ?_ _) | (with_reducible refine le_set ?_ _ _) | (with_reducible refine le_drew ?_) | (with_reducible refine le_drewN ?_ _) | (simp; done) | (simp; omega) | omega)))).a1.rd)).mono ?_; rintro e w' ⟨rfl, x, rfl⟩)
    go_upto_region 18 with (go_at_call 17
                            refine (HMF _ _ B2 _ _ (L1.out.grow (by (repeat' (first | (with_reducible exact Below.refl _ _) | (with_reducible assumption) | (with_reducible refine below_ext' ?_ ?_) | (with_reducible refine Below.alloc ?_ ?_ _) | (with_reducible refine below_drewN ?_ _) | (with_reducible refine Below.drew ?_) | (with_reducible refine Below.setCell ?_ ?_ _) | (with_reducible exact Nat.le_refl _) | (with_reducible refine ext_le _ _ ?_) | (with_reducible refine le_alloc ?_ _) | (with_reducible refine le_set ?_ _ _) | (with_reducible refine le_drew ?_) | (with_reducible refine le_drewN ?_ _) | (simp; done) | (simp; omega) | omega)))).a2).mono ?_
                            rintro e w2 ⟨rfl, hap, ho⟩
                            have L2a := LY.mark2 (L1.out.grow (by (repeat' (first | (with_reducible exact Below.refl _ _) | (with_reducible assumption) | (with_reducible refine below_ext' ?_ ?_) | (with_reducible refine Below.alloc ?_ ?_ _) | (with_reducible refine below_drewN ?_ _) | (with_reducible refine Below.drew ?_) | (with_reducible refine Below.setCell ?_ ?_ _) | (with_reducible exact Nat.le_refl _) | (with_reducible refine ext_le _ _ ?_) | (with_reducible refine le_alloc ?_ _) | (with_reducible refine le_set ?_ _ _) | (with_reducible refine le_drew ?_) | (with_reducible refine le_drewN ?_ _) | (simp; done) | (simp; omega) | omega)))) hap ho
                            clear hap ho)
    clear BW ZW L1
    have L2 := Lib.hid L2a; clear L2a
    have BW := L2.out.l.old
    have ZW := L2.out.l.old.size
    go_upto_region 24 with (go_at_call 42; refine (HHF _ _ _ L2.out.a2.rd).mono ?_; rintro e w' ⟨rfl, rfl⟩)
    obtain ⟨p0, p1, p2, p3, p4⟩ := row5b L2.out.l.b
    have zb := size_of_heap L2.out.l.b
    go_upto_region 25 with (first
      | (go_at_call 23; refine (HB _).mono ?_; rintro e w' ⟨rfl, x, rfl⟩)
      | (go_at_call 30; refine (HTS _ _ _ (HS.out.below (by (repeat' (first | (with_reducible exact Below.refl _ _) | (with_reducible assumption) | (with_reducible refine below_ext' ?_ ?_) | (with_reducible refine Below.alloc ?_ ?_ _) | (with_reducible refine below_drewN ?_ _) | (with_reducible refine Below.drew ?_) | (with_reducible refine Below.setCell ?_ ?_ _) | (with_reducible exact Nat.le_refl _) | (with_reducible refine ext_le _ _ ?_) | (with_reducible refine le_alloc ?_ _) | (with_reducible refine le_set ?_ _ _) | (with_reducible refine le_drew ?_) | (with_reducible refine le_drewN ?_ _) | (simp; done) | (simp; omega) | omega))))).mono ?_; rintro e w' ⟨g, x1, rfl, rfl, ho⟩)
      | (go_at_call 40; refine (HRI _ _ _ ho.out.2.2.1).mono ?_; rintro e w' ⟨A3, c3, rfl, ⟨x2, rfl⟩, hO⟩))
    have L3 := Lib.hid (((L2.out.grow (below_ext _ x)).grow (below_ext _ x1)).grow (below_ext _ x2))
    have O3 := Lib.hid hO.rd
    clear L2 BW ZW p0 p1 p2 p3 p4 zb ho hO
    generalize ext (ext (ext w2 x) x1) x2 = W8 at L3 O3 ⊢
    have BW := L3.out.l.old
    have ZW := L3.out.l.old.size
    go_wp2_with (first
      | (go_at_call 16; refine (HEF _ _ _ _ _ (O3.out.below (by (repeat' (first | (with_reducible exact Below.refl _ _) | (with_reducible assumption) | (with_reducible refine below_ext' ?_ ?_) | (with_reducible refine Below.alloc ?_ ?_ _) | (with_reducible refine below_drewN ?_ _) | (with_reducible refine Below.drew ?_) | (with_reducible refine Below.setCell ?_ ?_ _) | (with_reducible exact Nat.le_refl _) | (with_reducible refine ext_le _ _ ?_) | (with_reducible refine le_alloc ?_ _) | (with_reducible refine le_set ?_ _ _) | (with_reducible refine le_drew ?_) | (with_reducible refine le_drewN ?_ _) | (simp; done) | (simp; omega) | omega)))) ((L3.out.grow (by (repeat' (first | (with_reducible exact Below.refl _ _) | (with_reducible assumption) | (with_reducible refine below_ext' ?_ ?_) | (with_reducible refine Below.alloc ?_ ?_ _) | (with_reducible refine below_drewN ?_ _) | (with_reducible refine Below.drew ?_) | (with_reducible refine Below.setCell ?_ ?_ _) | (with_reducible exact Nat.le_refl _) | (with_reducible refine ext_le _ _ ?_) | (with_reducible refine le_alloc ?_ _) | (with_reducible refine le_set ?_ _ _) | (with_reducible refine le_drew ?_) | (with_reducible refine le_drewN ?_ _) | (simp; done) | (simp; omega) | omega)))).a1.rd)).mono ?_; rintro e w' ⟨rfl, x, rfl⟩)
      | (go_at_call 42; refine (HHF _ _ _ (L3.out.grow (by (repeat' (first | (with_reducible exact Below.refl _ _) | (with_reducible assumption) | (with_reducible refine below_ext' ?_ ?_) | (with_reducible refine Below.alloc ?_ ?_ _) | (with_reducible refine below_drewN ?_ _) | (with_reducible refine Below.drew ?_) | (with_reducible refine Below.setCell ?_ ?_ _) | (with_reducible exact Nat.le_refl _) | (with_reducible refine ext_le _ _ ?_) | (with_reducible refine le_alloc ?_ _) | (with_reducible refine le_set ?_ _ _) | (with_reducible refine le_drew ?_) | (with_reducible refine le_drewN ?_ _) | (simp; done) | (simp; omega) | omega)))).a2.rd).mono ?_; rintro e w' ⟨rfl, rfl⟩))
    go_ret
    exact ⟨rfl, ex_of (by (repeat' (first | (with_reducible exact Below.refl _ _) | (with_reducible assumption) | (with_reducible refine below_ext' ?_ ?_) | (with_reducible refine Below.alloc ?_ ?_ _) | (with_reducible refine below_drewN ?_ _) | (with_reducible refine Below.drew ?_) | (with_reducible refine Below.setCell ?_ ?_ _) | (with_reducible exact Nat.le_refl _) | (with_reducible refine ext_le _ _ ?_) | (with_reducible refine le_alloc ?_ _) | (with_reducible refine le_set ?_ _ _) | (with_reducible refine le_drew ?_) | (with_reducible refine le_drewN ?_ _) | (simp; done) | (simp; omega) | omega)))⟩
end Go.Proofs.Ytbelopcfmjgfiaa
