/- The law FnExactGlareTicks, walked: it answers true. No condition. -/
import Derived.Test.YtbelopcfmjgfiaaLawTick
import Derived.Test.YtbelopcfmjgfiaaGlareS
import Derived.Test.YtbelopcfmjgfiaaMark
import Derived.Deep.RegionHeld3
import Derived.Deep.DrawnRows
namespace Go.Proofs.Ytbelopcfmjgfiaa
open Go Go.RowKit Go.BigFrame
attribute [local go_sem] binOp_flt binOp_fgt binOp_feq binOp_fne binOp_fle binOp_fge faRes_some run_fadd run_fsub run_fmul run_fdiv run_ofI run_store_float run_neg run_min1 ext_cell ext_frozen ext_lt ext_setCell ext_drew ext_drewN
/-- What the law holds in memory behind both calls: boxes, the results, the ticks. -/
structure LG (R : Rn) (sl ti : Int) (n N : Nat) (w : World) (gx B2 : Nat) (A1 A2 : Option Addr) (L : List Int) (f : Nat → Value) (W : World) : Prop where
  l : LInv R sl ti w W
  a1 : Own W w.heap.size A1 N 2 (fI L)
  a2 : Own W B2 A2 N 2 f
  xr : RowOf W gx n 3 102
  d0 : w.heap.size + 1 + 1 < gx
  d2 : gx < B2
  d4 : ∀ j, 0 < N → blk A1 j → j < gx
section
variable {R : Rn} {sl ti : Int} {n N : Nat} {w : World} {gx B2 : Nat} {A1 A2 : Option Addr} {L : List Int} {f f' : Nat → Value} {W W' : World}
theorem rowof_lt {w : World} {g n m : Nat} {t : TypeId} (h : RowOf w g n m t) : g < w.heap.size := by
  obtain ⟨cur, h1, _⟩ := h.row
  exact lt_of_block h1
theorem LG.grow (h : LG R sl ti n N w gx B2 A1 A2 L f W) (hb : Below W.heap.size W W') : LG R sl ti n N w gx B2 A1 A2 L f W' :=
  ⟨h.l.grow hb, h.a1.below hb, h.a2.below hb, h.xr.below hb (rowof_lt h.xr), h.d0, h.d2, h.d4⟩
theorem linv_apart {X : Nat → Prop} (h : LInv R sl ti w W) (hb : Apart X W W') (hX : ∀ j, X j → w.heap.size + 1 + 1 < j) : LInv R sl ti w W' :=
  ⟨⟨hb.os.trans h.old.os, hb.tape.trans h.old.tape, hb.output.trans h.old.output, Nat.le_trans h.old.size hb.size, fun k hk => (hb.block k (Nat.lt_of_lt_of_le hk h.old.size) (fun x => by have := hX k x; omega)).trans (h.old.block k hk)⟩,
   (hb.block _ (lt_of_block h.c) (fun x => by have := hX _ x; omega)).trans h.c, (hb.block _ (lt_of_block h.b) (fun x => by have := hX _ x; omega)).trans h.b, (hb.block _ (lt_of_block h.s) (fun x => by have := hX _ x; omega)).trans h.s⟩
theorem LG.mark3 (h : LG R sl ti n N w gx B2 A1 A2 L f W) (hb : Apart (fun j => j = gx) W W') (hr : RowOf W' gx n 3 102) : LG R sl ti n N w gx B2 A1 A2 L f W' := by
  have d0 := h.d0; have d2 := h.d2
  refine ⟨linv_apart h.l hb (fun j e => by omega), ?_, ?_, hr, h.d0, h.d2, h.d4⟩
  · by_cases hN : 0 < N
    · exact h.a1.block fun j hj hbk => hb.block j hj (by have := h.d4 j hN hbk; omega)
    · exact .inl (by omega)
  · by_cases hN : 0 < N
    · exact h.a2.block fun j hj hbk => hb.block j hj (by have := h.a2.ge hN hbk; omega)
    · exact .inl (by omega)
theorem LG.mark2 (h : LG R sl ti n N w gx B2 A1 A2 L f W) (hb : Apart (fun j => 0 < N ∧ blk A2 j) W W') (ho : Own W' B2 A2 N 2 f') : LG R sl ti n N w gx B2 A1 A2 L f' W' := by
  have d0 := h.d0; have d2 := h.d2
  have ge : ∀ j, (0 < N ∧ blk A2 j) → B2 ≤ j := fun j e => h.a2.ge e.1 e.2
  refine ⟨linv_apart h.l hb (fun j e => by have := ge j e; omega), ?_, ho, ?_, h.d0, h.d2, h.d4⟩
  · by_cases hN : 0 < N
    · exact h.a1.block fun j hj hbk => hb.block j hj (fun e => by have := ge j e; have := h.d4 j hN hbk; omega)
    · exact .inl (by omega)
  · obtain ⟨cur, h1, h2⟩ := h.xr.row
    exact ⟨cur, (hb.block _ (lt_of_block h1) (fun e => by have := ge _ e; omega)).trans h1, h2⟩
end
set_option maxRecDepth 100000 in
set_option maxHeartbeats 16000000 in
theorem FnExactGlareTicks_any (R : Rn) (sl ti : Int) (A : Option Addr) (n c bd : Nat) (hS : Small n R.T) (hn : n ≤ 9223372036854775807) (hw : R.wd < 4294967296) (hg : R.gp < 4294967296) (F : Fits R.st R.de R.ca sl ti R.s0) (w : World) (hT : RdT w A n R.T) :
    Calls Try.prog 10 #[.agg #[.float .f32 R.lo, .float .f32 R.hi, .float .f32 R.wi, .int .i8 R.st, .int .i8 R.de, .int .i8 R.ca], .agg #[.int .i8 sl, .float .f32 R.wd, .float .f32 R.gp, .int .i16 ti, .float .f32 R.sh], R.s0.v, .slice A n c, .float .f32 bd] w fun e w' => e = .returned (.bool true) ∧ ∃ x, w' = ext w x := by
  have I0 := Lib.hid (l_start (R := R) (sl := sl) (ti := ti) (w := w))
  have HT := Lib.hid hT
  have HZ := fun W => szTickS_any A n c 1048576 hn (by omega) (by omega) W
  by_cases hbig : 1048576 < n
  · have hz : (1048576 : Int) < (n : Int) := by omega
    rw [if_pos hz] at HZ
    clear hS hw hg F hT
    unfold St.v
    go_enter Try.func10, Try.ntmps10
    go_wp2_with (go_at_call 20; refine (HZ _).mono ?_; rintro e w' ⟨rfl, rfl⟩)
    go_ret
    exact ⟨rfl, ex_of I0.out.old⟩
  · have hz : ¬ (1048576 : Int) < (n : Int) := by omega
    have hz2 : ¬ (1048576 : Int) - (n : Int) < 0 := by omega
    have hn1 : n ≤ 1048576 := by omega
    rw [if_neg hz] at HZ
    have HRS := fun (c' : Nat) (B : Option Addr) W hW => GlareTicksS_any R sl ti B n c' bd hS hn hw hg F W hW
    have HRI := fun (c' : Nat) (B : Option Addr) W hW => GlareTicks_any R sl ti B n c' bd hS hn hw hg F W hW
    have HEQ := fun (B B' : Option Addr) (c1 c2 : Nat) W h1 h2 => eqTickS_any B B' n c1 c2 R.T hn1 W h1 h2
    have HTS := fun (B : Option Addr) (c1 : Nat) W h1 => toTickS_x B n c1 R.T hn1 W h1
    have HC := fun W => toControl_any R.lo R.hi R.wi R.st R.de R.ca W
    have HB := fun W => toBlind_any sl R.wd R.gp ti R.sh W
    have HSt := fun W => toState_any R.s0.ti R.s0.wa R.s0.sm W
    have hN1 : (R.gOut sl ti n bd).length ≤ 1048576 := by
      unfold Rn.gOut; split
      · have := R.glareL_le bd n; omega
      · simp
    have HEF := fun (B B' : Option Addr) (c1 c2 : Nat) W h1 h2 => eqInt64S_any B B' (R.gOut sl ti n bd).length c1 c2 (nthI (R.gOut sl ti n bd)) hN1 W h1 h2
    have HM3 := fun (g c1 : Nat) W h1 => markTickS_any g n c1 1 hn1 (by omega) (by omega) W h1
    have HMF := fun (B : Option Addr) (c1 : Nat) (b : Nat) (f : Nat → Value) W h1 => markInt64S_any B (R.gOut sl ti n bd).length c1 1 b f hN1 (by omega) (by omega) W h1
    have HHF := fun (B : Option Addr) (c1 : Nat) W h1 => heldInt64S_any B (R.gOut sl ti n bd).length c1 1 hN1 (by omega) (by omega) W h1
    clear hS hw hg F hT
    unfold GlareAns at HRS HRI
    unfold St.v at HRS HRI ⊢
    generalize R.gOut sl ti n bd = L at HRS HRI hN1 HEF HMF HHF
    generalize hNN : L.length = N at HRS HRI hN1 HEF HMF HHF
    clear hNN
    generalize R.gAsk sl ti n bd = a2 at HRS HRI
    go_enter Try.func10, Try.ntmps10
    go_wp2_with (go_at_call 20; refine (HZ _).mono ?_; rintro e w' ⟨rfl, rfl⟩)
    go_cut [12, 13] from 14 to 123 (fun s12 s13 wx => ∃ A1 c1, s12 = .slice A1 N c1 ∧ s13 = .int .i64 a2 ∧ Aside (LInv R sl ti w wx ∧ Own wx w.heap.size A1 N 2 (fI L)))
    case first =>
      have J := I0.out
      unfold lW at J
      generalize ((w.alloc (.cells #[.float .f32 R.lo, .float .f32 R.hi, .float .f32 R.wi, .int .i8 R.st, .int .i8 R.de, .int .i8 R.ca] 37)).alloc (.cells #[.int .i8 sl, .float .f32 R.wd, .float .f32 R.gp, .int .i16 ti, .float .f32 R.sh] 40)).alloc (.cells #[.int .i16 R.s0.ti, .int .i8 R.s0.wa, .int .i8 R.s0.sm] 42) = W0 at J ⊢
      clear I0
      have BW := J.old
      have ZW := J.old.size
      have HJ := Lib.hid J; clear J
      go_region_held3 (fun w' : World => w'.cell? ⟨w.heap.size, 0, none⟩ = some (.float .f32 R.lo) ∧ w'.cell? ⟨w.heap.size, 1, none⟩ = some (.float .f32 R.hi) ∧ w'.cell? ⟨w.heap.size, 2, none⟩ = some (.float .f32 R.wi) ∧ w'.cell? ⟨w.heap.size, 3, none⟩ = some (.int .i8 R.st) ∧ w'.cell? ⟨w.heap.size, 4, none⟩ = some (.int .i8 R.de) ∧ w'.cell? ⟨w.heap.size, 5, none⟩ = some (.int .i8 R.ca) ∧ w'.cell? ⟨w.heap.size + 1, 0, none⟩ = some (.int .i8 sl) ∧ w'.cell? ⟨w.heap.size + 1, 1, none⟩ = some (.float .f32 R.wd) ∧ w'.cell? ⟨w.heap.size + 1, 2, none⟩ = some (.float .f32 R.gp) ∧ w'.cell? ⟨w.heap.size + 1, 3, none⟩ = some (.int .i16 ti) ∧ w'.cell? ⟨w.heap.size + 1, 4, none⟩ = some (.float .f32 R.sh) ∧ w'.cell? ⟨w.heap.size + 1 + 1, 0, none⟩ = some (.int .i16 R.s0.ti) ∧ w'.cell? ⟨w.heap.size + 1 + 1, 1, none⟩ = some (.int .i8 R.s0.wa) ∧ w'.cell? ⟨w.heap.size + 1 + 1, 2, none⟩ = some (.int .i8 R.s0.sm)) (exact (LInv.grow HJ.out (by (repeat' (first | (with_reducible exact Below.refl _ _) | (with_reducible assumption) | (with_reducible refine below_ext' ?_ ?_) | (with_reducible refine Below.alloc ?_ ?_ _) | (with_reducible refine below_drewN ?_ _) | (with_reducible refine Below.drew ?_) | (with_reducible refine Below.setCell ?_ ?_ _) | (with_reducible exact Nat.le_refl _) | (with_reducible refine ext_le _ _ ?_) | (with_reducible refine le_alloc ?_ _) | (with_reducible refine le_set ?_ _ _) | (with_reducible refine le_drew ?_) | (with_reducible refine le_drewN ?_ _) | (simp; done) | (simp; omega) | omega)))).cells) (first
        | (go_at_call 22; refine (HC _).mono ?_; rintro e w' ⟨rfl, x, rfl⟩)
        | (go_at_call 23; refine (HB _).mono ?_; rintro e w' ⟨rfl, x, rfl⟩)
        | (go_at_call 24; refine (HSt _).mono ?_; rintro e w' ⟨rfl, x, rfl⟩)
        | (go_at_call 25; refine (HTS _ _ _ (HT.out.below (by (repeat' (first | (with_reducible exact Below.refl _ _) | (with_reducible assumption) | (with_reducible refine below_ext' ?_ ?_) | (with_reducible refine Below.alloc ?_ ?_ _) | (with_reducible refine below_drewN ?_ _) | (with_reducible refine Below.drew ?_) | (with_reducible refine Below.setCell ?_ ?_ _) | (with_reducible exact Nat.le_refl _) | (with_reducible refine ext_le _ _ ?_) | (with_reducible refine le_alloc ?_ _) | (with_reducible refine le_set ?_ _ _) | (with_reducible refine le_drew ?_) | (with_reducible refine le_drewN ?_ _) | (simp; done) | (simp; omega) | omega))))).mono ?_; rintro e w' ⟨g, x, rfl, rfl, ho⟩) | (go_at_call 47; refine (HRS _ _ _ (ho.out.2.2.1.below (by (repeat' (first | (with_reducible exact Below.refl _ _) | (with_reducible assumption) | (with_reducible refine below_ext' ?_ ?_) | (with_reducible refine Below.alloc ?_ ?_ _) | (with_reducible refine below_drewN ?_ _) | (with_reducible refine Below.drew ?_) | (with_reducible refine Below.setCell ?_ ?_ _) | (with_reducible exact Nat.le_refl _) | (with_reducible refine ext_le _ _ ?_) | (with_reducible refine le_alloc ?_ _) | (with_reducible refine le_set ?_ _ _) | (with_reducible refine le_drew ?_) | (with_reducible refine le_drewN ?_ _) | (simp; done) | (simp; omega) | omega))))).mono ?_; rintro e w' ⟨A1, c1, rfl, ⟨x, rfl⟩, hO⟩))
      go_wp2_with fail
      go_meet
      exact ⟨_, _, rfl, rfl, (show Aside _ from ⟨HJ.out.grow (by (repeat' (first | (with_reducible exact Below.refl _ _) | (with_reducible assumption) | (with_reducible refine below_ext' ?_ ?_) | (with_reducible refine Below.alloc ?_ ?_ _) | (with_reducible refine below_drewN ?_ _) | (with_reducible refine Below.drew ?_) | (with_reducible refine Below.setCell ?_ ?_ _) | (with_reducible exact Nat.le_refl _) | (with_reducible refine ext_le _ _ ?_) | (with_reducible refine le_alloc ?_ _) | (with_reducible refine le_set ?_ _ _) | (with_reducible refine le_drew ?_) | (with_reducible refine le_drewN ?_ _) | (simp; done) | (simp; omega) | omega))), hO.lower (by (repeat' (first | (with_reducible exact Below.refl _ _) | (with_reducible assumption) | (with_reducible refine below_ext' ?_ ?_) | (with_reducible refine Below.alloc ?_ ?_ _) | (with_reducible refine below_drewN ?_ _) | (with_reducible refine Below.drew ?_) | (with_reducible refine Below.setCell ?_ ?_ _) | (with_reducible exact Nat.le_refl _) | (with_reducible refine ext_le _ _ ?_) | (with_reducible refine le_alloc ?_ _) | (with_reducible refine le_set ?_ _ _) | (with_reducible refine le_drew ?_) | (with_reducible refine le_drewN ?_ _) | (simp; done) | (simp; omega) | omega)))⟩)⟩
    case rest =>
      obtain ⟨A1, c1, rfl, rfl, I1⟩ := hcut
      clear I0
      have BW := I1.out.1.old
      have ZW := I1.out.1.old.size
      go_wp2_with (go_at_call 25; refine (HTS _ _ _ (HT.out.below (by (repeat' (first | (with_reducible exact Below.refl _ _) | (with_reducible assumption) | (with_reducible refine below_ext' ?_ ?_) | (with_reducible refine Below.alloc ?_ ?_ _) | (with_reducible refine below_drewN ?_ _) | (with_reducible refine Below.drew ?_) | (with_reducible refine Below.setCell ?_ ?_ _) | (with_reducible exact Nat.le_refl _) | (with_reducible refine ext_le _ _ ?_) | (with_reducible refine le_alloc ?_ _) | (with_reducible refine le_set ?_ _ _) | (with_reducible refine le_drew ?_) | (with_reducible refine le_drewN ?_ _) | (simp; done) | (simp; omega) | omega))))).mono ?_; rintro e w' ⟨gx, x, rfl, rfl, ho⟩)
      have hL := I1.out.1.grow (below_ext wc x)
      have hA1 := I1.out.2.below (below_ext wc x)
      have hd4 : ∀ j, 0 < N → blk A1 j → j < gx := fun j hN hb => Nat.lt_of_lt_of_le (I1.out.2.lt hN hb) ho.out.1
      have hd0 : w.heap.size + 1 + 1 < gx := Nat.lt_of_lt_of_le (lt_of_block I1.out.1.s) ho.out.1
      have hx3 := ho.out.2.2.1
      have hxr := ho.out.2.2.2
      have hgx := ho.out.2.1
      clear I1 ho BW ZW
      generalize ext wc x = W0 at hL hA1 hx3 hxr hgx ⊢
      have BW := hL.old
      have ZW := hL.old.size
      have HJ := Lib.hid hL; have H2 := Lib.hid hA1; have H3 := Lib.hid hx3; have H4 := Lib.hid hxr; have H5 := Lib.hid hd4; have H6 := Lib.hid hgx; have H7 := Lib.hid hd0
      clear hL hA1 hx3 hxr hd4 hgx hd0
      go_cut [15, 16] from 17 to 123 (fun s15 s16 wy => ∃ A2 c2, s15 = .slice A2 N c2 ∧ s16 = .int .i64 a2 ∧ Aside (Below W0.heap.size W0 wy ∧ Own wy W0.heap.size A2 N 2 (fI L)))
      case first =>
        go_region_held3 (fun w' : World => w'.cell? ⟨w.heap.size, 0, none⟩ = some (.float .f32 R.lo) ∧ w'.cell? ⟨w.heap.size, 1, none⟩ = some (.float .f32 R.hi) ∧ w'.cell? ⟨w.heap.size, 2, none⟩ = some (.float .f32 R.wi) ∧ w'.cell? ⟨w.heap.size, 3, none⟩ = some (.int .i8 R.st) ∧ w'.cell? ⟨w.heap.size, 4, none⟩ = some (.int .i8 R.de) ∧ w'.cell? ⟨w.heap.size, 5, none⟩ = some (.int .i8 R.ca) ∧ w'.cell? ⟨w.heap.size + 1, 0, none⟩ = some (.int .i8 sl) ∧ w'.cell? ⟨w.heap.size + 1, 1, none⟩ = some (.float .f32 R.wd) ∧ w'.cell? ⟨w.heap.size + 1, 2, none⟩ = some (.float .f32 R.gp) ∧ w'.cell? ⟨w.heap.size + 1, 3, none⟩ = some (.int .i16 ti) ∧ w'.cell? ⟨w.heap.size + 1, 4, none⟩ = some (.float .f32 R.sh) ∧ w'.cell? ⟨w.heap.size + 1 + 1, 0, none⟩ = some (.int .i16 R.s0.ti) ∧ w'.cell? ⟨w.heap.size + 1 + 1, 1, none⟩ = some (.int .i8 R.s0.wa) ∧ w'.cell? ⟨w.heap.size + 1 + 1, 2, none⟩ = some (.int .i8 R.s0.sm)) (exact (LInv.grow HJ.out (by (repeat' (first | (with_reducible exact Below.refl _ _) | (with_reducible assumption) | (with_reducible refine below_ext' ?_ ?_) | (with_reducible refine Below.alloc ?_ ?_ _) | (with_reducible refine below_drewN ?_ _) | (with_reducible refine Below.drew ?_) | (with_reducible refine Below.setCell ?_ ?_ _) | (with_reducible exact Nat.le_refl _) | (with_reducible refine ext_le _ _ ?_) | (with_reducible refine le_alloc ?_ _) | (with_reducible refine le_set ?_ _ _) | (with_reducible refine le_drew ?_) | (with_reducible refine le_drewN ?_ _) | (simp; done) | (simp; omega) | omega)))).cells) (first
          | (go_at_call 22; refine (HC _).mono ?_; rintro e w' ⟨rfl, x, rfl⟩)
          | (go_at_call 23; refine (HB _).mono ?_; rintro e w' ⟨rfl, x, rfl⟩)
          | (go_at_call 24; refine (HSt _).mono ?_; rintro e w' ⟨rfl, x, rfl⟩)
          | (go_at_call 48; refine (HRI _ _ _ (H3.out.below (by (repeat' (first | (with_reducible exact Below.refl _ _) | (with_reducible assumption) | (with_reducible refine below_ext' ?_ ?_) | (with_reducible refine Below.alloc ?_ ?_ _) | (with_reducible refine below_drewN ?_ _) | (with_reducible refine Below.drew ?_) | (with_reducible refine Below.setCell ?_ ?_ _) | (with_reducible exact Nat.le_refl _) | (with_reducible refine ext_le _ _ ?_) | (with_reducible refine le_alloc ?_ _) | (with_reducible refine le_set ?_ _ _) | (with_reducible refine le_drew ?_) | (with_reducible refine le_drewN ?_ _) | (simp; done) | (simp; omega) | omega))))).mono ?_; rintro e w' ⟨A2, c2, rfl, ⟨x, rfl⟩, hO⟩))
        go_wp2_with fail
        go_meet
        exact ⟨_, _, rfl, rfl, (show Aside _ from ⟨by (repeat' (first | (with_reducible exact Below.refl _ _) | (with_reducible assumption) | (with_reducible refine below_ext' ?_ ?_) | (with_reducible refine Below.alloc ?_ ?_ _) | (with_reducible refine below_drewN ?_ _) | (with_reducible refine Below.drew ?_) | (with_reducible refine Below.setCell ?_ ?_ _) | (with_reducible exact Nat.le_refl _) | (with_reducible refine ext_le _ _ ?_) | (with_reducible refine le_alloc ?_ _) | (with_reducible refine le_set ?_ _ _) | (with_reducible refine le_drew ?_) | (with_reducible refine le_drewN ?_ _) | (simp; done) | (simp; omega) | omega)), hO.lower (by (repeat' (first | (with_reducible exact Below.refl _ _) | (with_reducible assumption) | (with_reducible refine below_ext' ?_ ?_) | (with_reducible refine Below.alloc ?_ ?_ _) | (with_reducible refine below_drewN ?_ _) | (with_reducible refine Below.drew ?_) | (with_reducible refine Below.setCell ?_ ?_ _) | (with_reducible exact Nat.le_refl _) | (with_reducible refine ext_le _ _ ?_) | (with_reducible refine le_alloc ?_ _) | (with_reducible refine le_set ?_ _ _) | (with_reducible refine le_drew ?_) | (with_reducible refine le_drewN ?_ _) | (simp; done) | (simp; omega) | omega)))⟩)⟩
      case rest =>
        obtain ⟨A2, c2, rfl, rfl, I2⟩ := hcut
        obtain ⟨hbl, ho2⟩ := I2.out
        have hLT : LG R sl ti n N w gx W0.heap.size A1 A2 L (fI L) wc :=
          ⟨HJ.out.grow hbl, H2.out.below hbl, ho2, H4.out.below hbl H6.out, H7.out, H6.out, H5.out⟩
        have hx3 := H3.out.below hbl
        clear BW ZW H2 H3 H4 H5 H6 H7 HJ I2 hbl ho2
        have L0 := Lib.hid hLT; have X0 := Lib.hid hx3; clear hLT hx3
        have BW := L0.out.l.old
        have ZW := L0.out.l.old.size
        have hk3 : ¬ (1 + (n : Int) * 3 < 0) := by omega
        have hkN : ¬ (1 + (N : Int) < 0) := by omega
        go_upto_region 13 with (first
          | (go_at_call 14; refine (HEF _ _ _ _ _ ((L0.out.grow (by (repeat' (first | (with_reducible exact Below.refl _ _) | (with_reducible assumption) | (with_reducible refine below_ext' ?_ ?_) | (with_reducible refine Below.alloc ?_ ?_ _) | (with_reducible refine below_drewN ?_ _) | (with_reducible refine Below.drew ?_) | (with_reducible refine Below.setCell ?_ ?_ _) | (with_reducible exact Nat.le_refl _) | (with_reducible refine ext_le _ _ ?_) | (with_reducible refine le_alloc ?_ _) | (with_reducible refine le_set ?_ _ _) | (with_reducible refine le_drew ?_) | (with_reducible refine le_drewN ?_ _) | (simp; done) | (simp; omega) | omega)))).a2.rd) ((L0.out.grow (by (repeat' (first | (with_reducible exact Below.refl _ _) | (with_reducible assumption) | (with_reducible refine below_ext' ?_ ?_) | (with_reducible refine Below.alloc ?_ ?_ _) | (with_reducible refine below_drewN ?_ _) | (with_reducible refine Below.drew ?_) | (with_reducible refine Below.setCell ?_ ?_ _) | (with_reducible exact Nat.le_refl _) | (with_reducible refine ext_le _ _ ?_) | (with_reducible refine le_alloc ?_ _) | (with_reducible refine le_set ?_ _ _) | (with_reducible refine le_drew ?_) | (with_reducible refine le_drewN ?_ _) | (simp; done) | (simp; omega) | omega)))).a1.rd)).mono ?_; rintro e w' ⟨rfl, x, rfl⟩)
          | (go_at_call 25; refine (HTS _ _ _ (HT.out.below (by (repeat' (first | (with_reducible exact Below.refl _ _) | (with_reducible assumption) | (with_reducible refine below_ext' ?_ ?_) | (with_reducible refine Below.alloc ?_ ?_ _) | (with_reducible refine below_drewN ?_ _) | (with_reducible refine Below.drew ?_) | (with_reducible refine Below.setCell ?_ ?_ _) | (with_reducible exact Nat.le_refl _) | (with_reducible refine ext_le _ _ ?_) | (with_reducible refine le_alloc ?_ _) | (with_reducible refine le_set ?_ _ _) | (with_reducible refine le_drew ?_) | (with_reducible refine le_drewN ?_ _) | (simp; done) | (simp; omega) | omega))))).mono ?_; rintro e w' ⟨g2, x, rfl, rfl, ho⟩)
          | (go_at_call 27; refine (HEQ _ _ _ _ _ (X0.out.below (by (repeat' (first | (with_reducible exact Below.refl _ _) | (with_reducible assumption) | (with_reducible refine below_ext' ?_ ?_) | (with_reducible refine Below.alloc ?_ ?_ _) | (with_reducible refine below_drewN ?_ _) | (with_reducible refine Below.drew ?_) | (with_reducible refine Below.setCell ?_ ?_ _) | (with_reducible exact Nat.le_refl _) | (with_reducible refine ext_le _ _ ?_) | (with_reducible refine le_alloc ?_ _) | (with_reducible refine le_set ?_ _ _) | (with_reducible refine le_drew ?_) | (with_reducible refine le_drewN ?_ _) | (simp; done) | (simp; omega) | omega)))) ho.out.2.2.1).mono ?_; rintro e w' ⟨rfl, x, rfl⟩))
        go_upto_region 14 with (go_at_call 46
                                refine (HM3 _ _ _ (L0.out.grow (by (repeat' (first | (with_reducible exact Below.refl _ _) | (with_reducible assumption) | (with_reducible refine below_ext' ?_ ?_) | (with_reducible refine Below.alloc ?_ ?_ _) | (with_reducible refine below_drewN ?_ _) | (with_reducible refine Below.drew ?_) | (with_reducible refine Below.setCell ?_ ?_ _) | (with_reducible exact Nat.le_refl _) | (with_reducible refine ext_le _ _ ?_) | (with_reducible refine le_alloc ?_ _) | (with_reducible refine le_set ?_ _ _) | (with_reducible refine le_drew ?_) | (with_reducible refine le_drewN ?_ _) | (simp; done) | (simp; omega) | omega)))).xr).mono ?_
                                rintro e w1 ⟨rfl, hap, hr⟩
                                have L1a := LG.mark3 (L0.out.grow (by (repeat' (first | (with_reducible exact Below.refl _ _) | (with_reducible assumption) | (with_reducible refine below_ext' ?_ ?_) | (with_reducible refine Below.alloc ?_ ?_ _) | (with_reducible refine below_drewN ?_ _) | (with_reducible refine Below.drew ?_) | (with_reducible refine Below.setCell ?_ ?_ _) | (with_reducible exact Nat.le_refl _) | (with_reducible refine ext_le _ _ ?_) | (with_reducible refine le_alloc ?_ _) | (with_reducible refine le_set ?_ _ _) | (with_reducible refine le_drew ?_) | (with_reducible refine le_drewN ?_ _) | (simp; done) | (simp; omega) | omega)))) hap hr
                                clear hap hr)
        clear BW ZW L0 X0
        have L1 := Lib.hid L1a; clear L1a
        have BW := L1.out.l.old
        have ZW := L1.out.l.old.size
        go_upto_region 17 with (go_at_call 14; refine (HEF _ _ _ _ _ ((L1.out.grow (by (repeat' (first | (with_reducible exact Below.refl _ _) | (with_reducible assumption) | (with_reducible refine below_ext' ?_ ?_) | (with_reducible refine Below.alloc ?_ ?_ _) | (with_reducible refine below_drewN ?_ _) | (with_reducible refine Below.drew ?_) | (with_reducible refine Below.setCell ?_ ?_ _) | (with_reducible exact Nat.le_refl _) | (with_reducible refine ext_le _ _ ?_) | (with_reducible refine le_alloc ?_ _) | (with_reducible refine le_set ?_ _ _) | (with_reducible refine le_drew ?_) | (with_reducible refine le_drewN ?_ _) | (simp; done) | (simp; omega) | omega)))).a2.rd) ((L1.out.grow (by (repeat' (first | (with_reducible exact Below.refl _ _) | (with_reducible assumption) | (with_reducible refine below_ext' ?_ ?_) | (with_reducible refine Below.alloc ?_ ?_ _) | (with_reducible refine below_drewN ?_ _) | (with_reducible refine Below.drew ?_) | (with_reducible refine Below.setCell ?_ ?_ _) | (with_reducible exact Nat.le_refl _) | (with_reducible refine ext_le _ _ ?_) | (with_reducible refine le_alloc ?_ _) | (with_reducible refine le_set ?_ _ _) | (with_reducible refine le_drew ?_) | (with_reducible refine le_drewN ?_ _) | (simp; done) | (simp; omega) | omega)))).a1.rd)).mono ?_; rintro e w' ⟨rfl, x, rfl⟩)
        go_upto_region 18 with (go_at_call 18
                                refine (HMF _ _ W0.heap.size _ _ (L1.out.grow (by (repeat' (first | (with_reducible exact Below.refl _ _) | (with_reducible assumption) | (with_reducible refine below_ext' ?_ ?_) | (with_reducible refine Below.alloc ?_ ?_ _) | (with_reducible refine below_drewN ?_ _) | (with_reducible refine Below.drew ?_) | (with_reducible refine Below.setCell ?_ ?_ _) | (with_reducible exact Nat.le_refl _) | (with_reducible refine ext_le _ _ ?_) | (with_reducible refine le_alloc ?_ _) | (with_reducible refine le_set ?_ _ _) | (with_reducible refine le_drew ?_) | (with_reducible refine le_drewN ?_ _) | (simp; done) | (simp; omega) | omega)))).a2).mono ?_
                                rintro e w2 ⟨rfl, hap, ho⟩
                                have L2a := LG.mark2 (L1.out.grow (by (repeat' (first | (with_reducible exact Below.refl _ _) | (with_reducible assumption) | (with_reducible refine below_ext' ?_ ?_) | (with_reducible refine Below.alloc ?_ ?_ _) | (with_reducible refine below_drewN ?_ _) | (with_reducible refine Below.drew ?_) | (with_reducible refine Below.setCell ?_ ?_ _) | (with_reducible exact Nat.le_refl _) | (with_reducible refine ext_le _ _ ?_) | (with_reducible refine le_alloc ?_ _) | (with_reducible refine le_set ?_ _ _) | (with_reducible refine le_drew ?_) | (with_reducible refine le_drewN ?_ _) | (simp; done) | (simp; omega) | omega)))) hap ho
                                clear hap ho)
        clear BW ZW L1
        have L2 := Lib.hid L2a; clear L2a
        have BW := L2.out.l.old
        have ZW := L2.out.l.old.size
        go_wp2_with (go_at_call 19; refine (HHF _ _ _ L2.out.a2.rd).mono ?_; rintro e w' ⟨rfl, rfl⟩)
        go_cut [20, 21] from 22 to 123 (fun s20 s21 wy => ∃ A3 c3, s20 = .slice A3 N c3 ∧ s21 = .int .i64 a2 ∧ Aside (Below w2.heap.size w2 wy ∧ Own wy w.heap.size A3 N 2 (fI L)))
        case first =>
          have HJ := Lib.hid L2.out.l
          go_region_held3 (fun w' : World => w'.cell? ⟨w.heap.size, 0, none⟩ = some (.float .f32 R.lo) ∧ w'.cell? ⟨w.heap.size, 1, none⟩ = some (.float .f32 R.hi) ∧ w'.cell? ⟨w.heap.size, 2, none⟩ = some (.float .f32 R.wi) ∧ w'.cell? ⟨w.heap.size, 3, none⟩ = some (.int .i8 R.st) ∧ w'.cell? ⟨w.heap.size, 4, none⟩ = some (.int .i8 R.de) ∧ w'.cell? ⟨w.heap.size, 5, none⟩ = some (.int .i8 R.ca) ∧ w'.cell? ⟨w.heap.size + 1, 0, none⟩ = some (.int .i8 sl) ∧ w'.cell? ⟨w.heap.size + 1, 1, none⟩ = some (.float .f32 R.wd) ∧ w'.cell? ⟨w.heap.size + 1, 2, none⟩ = some (.float .f32 R.gp) ∧ w'.cell? ⟨w.heap.size + 1, 3, none⟩ = some (.int .i16 ti) ∧ w'.cell? ⟨w.heap.size + 1, 4, none⟩ = some (.float .f32 R.sh) ∧ w'.cell? ⟨w.heap.size + 1 + 1, 0, none⟩ = some (.int .i16 R.s0.ti) ∧ w'.cell? ⟨w.heap.size + 1 + 1, 1, none⟩ = some (.int .i8 R.s0.wa) ∧ w'.cell? ⟨w.heap.size + 1 + 1, 2, none⟩ = some (.int .i8 R.s0.sm)) (exact (LInv.grow HJ.out (by (repeat' (first | (with_reducible exact Below.refl _ _) | (with_reducible assumption) | (with_reducible refine below_ext' ?_ ?_) | (with_reducible refine Below.alloc ?_ ?_ _) | (with_reducible refine below_drewN ?_ _) | (with_reducible refine Below.drew ?_) | (with_reducible refine Below.setCell ?_ ?_ _) | (with_reducible exact Nat.le_refl _) | (with_reducible refine ext_le _ _ ?_) | (with_reducible refine le_alloc ?_ _) | (with_reducible refine le_set ?_ _ _) | (with_reducible refine le_drew ?_) | (with_reducible refine le_drewN ?_ _) | (simp; done) | (simp; omega) | omega)))).cells) (first
            | (go_at_call 22; refine (HC _).mono ?_; rintro e w' ⟨rfl, x, rfl⟩)
            | (go_at_call 23; refine (HB _).mono ?_; rintro e w' ⟨rfl, x, rfl⟩)
            | (go_at_call 24; refine (HSt _).mono ?_; rintro e w' ⟨rfl, x, rfl⟩)
            | (go_at_call 25; refine (HTS _ _ _ (HT.out.below (by (repeat' (first | (with_reducible exact Below.refl _ _) | (with_reducible assumption) | (with_reducible refine below_ext' ?_ ?_) | (with_reducible refine Below.alloc ?_ ?_ _) | (with_reducible refine below_drewN ?_ _) | (with_reducible refine Below.drew ?_) | (with_reducible refine Below.setCell ?_ ?_ _) | (with_reducible exact Nat.le_refl _) | (with_reducible refine ext_le _ _ ?_) | (with_reducible refine le_alloc ?_ _) | (with_reducible refine le_set ?_ _ _) | (with_reducible refine le_drew ?_) | (with_reducible refine le_drewN ?_ _) | (simp; done) | (simp; omega) | omega))))).mono ?_; rintro e w' ⟨g, x, rfl, rfl, ho⟩) | (go_at_call 48; refine (HRI _ _ _ (ho.out.2.2.1.below (by (repeat' (first | (with_reducible exact Below.refl _ _) | (with_reducible assumption) | (with_reducible refine below_ext' ?_ ?_) | (with_reducible refine Below.alloc ?_ ?_ _) | (with_reducible refine below_drewN ?_ _) | (with_reducible refine Below.drew ?_) | (with_reducible refine Below.setCell ?_ ?_ _) | (with_reducible exact Nat.le_refl _) | (with_reducible refine ext_le _ _ ?_) | (with_reducible refine le_alloc ?_ _) | (with_reducible refine le_set ?_ _ _) | (with_reducible refine le_drew ?_) | (with_reducible refine le_drewN ?_ _) | (simp; done) | (simp; omega) | omega))))).mono ?_; rintro e w' ⟨A3, c3, rfl, ⟨x, rfl⟩, hO⟩))
          go_wp2_with fail
          go_meet
          exact ⟨_, _, rfl, rfl, (show Aside _ from ⟨by (repeat' (first | (with_reducible exact Below.refl _ _) | (with_reducible assumption) | (with_reducible refine below_ext' ?_ ?_) | (with_reducible refine Below.alloc ?_ ?_ _) | (with_reducible refine below_drewN ?_ _) | (with_reducible refine Below.drew ?_) | (with_reducible refine Below.setCell ?_ ?_ _) | (with_reducible exact Nat.le_refl _) | (with_reducible refine ext_le _ _ ?_) | (with_reducible refine le_alloc ?_ _) | (with_reducible refine le_set ?_ _ _) | (with_reducible refine le_drew ?_) | (with_reducible refine le_drewN ?_ _) | (simp; done) | (simp; omega) | omega)), hO.lower (by (repeat' (first | (with_reducible exact Below.refl _ _) | (with_reducible assumption) | (with_reducible refine below_ext' ?_ ?_) | (with_reducible refine Below.alloc ?_ ?_ _) | (with_reducible refine below_drewN ?_ _) | (with_reducible refine Below.drew ?_) | (with_reducible refine Below.setCell ?_ ?_ _) | (with_reducible exact Nat.le_refl _) | (with_reducible refine ext_le _ _ ?_) | (with_reducible refine le_alloc ?_ _) | (with_reducible refine le_set ?_ _ _) | (with_reducible refine le_drew ?_) | (with_reducible refine le_drewN ?_ _) | (simp; done) | (simp; omega) | omega)))⟩)⟩
        case rest =>
          obtain ⟨A3, c3, rfl, rfl, I3⟩ := hcut
          have L3a := L2.out.grow I3.out.1
          have ho3 := Lib.hid I3.out.2
          clear L2 I3 BW ZW
          have L3 := Lib.hid L3a; clear L3a
          have BW := L3.out.l.old
          have ZW := L3.out.l.old.size
          go_wp2_with (first
            | (go_at_call 14; refine (HEF _ _ _ _ _ (ho3.out.rd.below (by (repeat' (first | (with_reducible exact Below.refl _ _) | (with_reducible assumption) | (with_reducible refine below_ext' ?_ ?_) | (with_reducible refine Below.alloc ?_ ?_ _) | (with_reducible refine below_drewN ?_ _) | (with_reducible refine Below.drew ?_) | (with_reducible refine Below.setCell ?_ ?_ _) | (with_reducible exact Nat.le_refl _) | (with_reducible refine ext_le _ _ ?_) | (with_reducible refine le_alloc ?_ _) | (with_reducible refine le_set ?_ _ _) | (with_reducible refine le_drew ?_) | (with_reducible refine le_drewN ?_ _) | (simp; done) | (simp; omega) | omega)))) ((L3.out.grow (by (repeat' (first | (with_reducible exact Below.refl _ _) | (with_reducible assumption) | (with_reducible refine below_ext' ?_ ?_) | (with_reducible refine Below.alloc ?_ ?_ _) | (with_reducible refine below_drewN ?_ _) | (with_reducible refine Below.drew ?_) | (with_reducible refine Below.setCell ?_ ?_ _) | (with_reducible exact Nat.le_refl _) | (with_reducible refine ext_le _ _ ?_) | (with_reducible refine le_alloc ?_ _) | (with_reducible refine le_set ?_ _ _) | (with_reducible refine le_drew ?_) | (with_reducible refine le_drewN ?_ _) | (simp; done) | (simp; omega) | omega)))).a1.rd)).mono ?_; rintro e w' ⟨rfl, x, rfl⟩)
            | (go_at_call 19; refine (HHF _ _ _ (L3.out.grow (by (repeat' (first | (with_reducible exact Below.refl _ _) | (with_reducible assumption) | (with_reducible refine below_ext' ?_ ?_) | (with_reducible refine Below.alloc ?_ ?_ _) | (with_reducible refine below_drewN ?_ _) | (with_reducible refine Below.drew ?_) | (with_reducible refine Below.setCell ?_ ?_ _) | (with_reducible exact Nat.le_refl _) | (with_reducible refine ext_le _ _ ?_) | (with_reducible refine le_alloc ?_ _) | (with_reducible refine le_set ?_ _ _) | (with_reducible refine le_drew ?_) | (with_reducible refine le_drewN ?_ _) | (simp; done) | (simp; omega) | omega)))).a2.rd).mono ?_; rintro e w' ⟨rfl, rfl⟩))
          go_ret
          exact ⟨rfl, ex_of (by (repeat' (first | (with_reducible exact Below.refl _ _) | (with_reducible assumption) | (with_reducible refine below_ext' ?_ ?_) | (with_reducible refine Below.alloc ?_ ?_ _) | (with_reducible refine below_drewN ?_ _) | (with_reducible refine Below.drew ?_) | (with_reducible refine Below.setCell ?_ ?_ _) | (with_reducible exact Nat.le_refl _) | (with_reducible refine ext_le _ _ ?_) | (with_reducible refine le_alloc ?_ _) | (with_reducible refine le_set ?_ _ _) | (with_reducible refine le_drew ?_) | (with_reducible refine le_drewN ?_ _) | (simp; done) | (simp; omega) | omega)))⟩
end Go.Proofs.Ytbelopcfmjgfiaa
