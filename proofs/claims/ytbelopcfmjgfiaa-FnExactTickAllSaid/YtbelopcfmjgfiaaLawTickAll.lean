/- The law FnExactTickAll, walked: it answers true. No condition. -/
import Derived.Test.YtbelopcfmjgfiaaLawTick
import Derived.Test.YtbelopcfmjgfiaaTickAllS
import Derived.Test.YtbelopcfmjgfiaaMark
import Derived.Test.YtbelopcfmjgfiaaGrow
import Derived.Deep.RegionHeld3
import Derived.Deep.DrawnRows
namespace Go.Proofs.Ytbelopcfmjgfiaa
open Go Go.RowKit Go.BigFrame
attribute [local go_sem] binOp_flt binOp_fgt binOp_feq binOp_fne binOp_fle binOp_fge faRes_some run_fadd run_fsub run_fmul run_fdiv run_ofI run_store_float run_neg run_min1 ext_cell ext_frozen ext_lt ext_setCell ext_drew ext_drewN
/-- What the law holds in memory behind both calls: boxes, the states' boxes, the results, the ticks. -/
structure LT (R : Rn) (sl ti : Int) (n N : Nat) (v : St) (w : World) (q1 q2 gx B2 : Nat) (A1 A2 : Option Addr) (f : Nat → Value) (W : World) : Prop where
  l : LInv R sl ti w W
  s1 : W.heap[q1]? = some (.cells #[.int .i16 v.ti, .int .i8 v.wa, .int .i8 v.sm] 51 (0, 0))
  s2 : W.heap[q2]? = some (.cells #[.int .i16 v.ti, .int .i8 v.wa, .int .i8 v.sm] 51 (0, 0))
  a1 : Own W w.heap.size A1 N 24 (fun k => .float .f32 (R.light k))
  a2 : Own W B2 A2 N 24 f
  xr : RowOf W gx n 3 102
  d0 : w.heap.size + 1 + 1 < gx
  d1 : q1 < gx
  d2 : gx < B2
  d3 : B2 ≤ q2
  d4 : ∀ j, 0 < N → blk A1 j → j < gx
  d5 : 0 < N → ¬ blk A2 q2
section
variable {R : Rn} {sl ti : Int} {n N : Nat} {v : St} {w : World} {q1 q2 gx B2 : Nat} {A1 A2 : Option Addr} {f f' : Nat → Value} {W W' : World}
theorem RowOf.lt {w : World} {g n m : Nat} {t : TypeId} (h : RowOf w g n m t) : g < w.heap.size := by
  obtain ⟨cur, h1, _⟩ := h.row
  exact lt_of_block h1
theorem LT.grow (h : LT R sl ti n N v w q1 q2 gx B2 A1 A2 f W) (hb : Below W.heap.size W W') : LT R sl ti n N v w q1 q2 gx B2 A1 A2 f W' :=
  ⟨h.l.grow hb, (hb.block _ (lt_of_block h.s1)).trans h.s1, (hb.block _ (lt_of_block h.s2)).trans h.s2, h.a1.below hb, h.a2.below hb, h.xr.below hb h.xr.lt, h.d0, h.d1, h.d2, h.d3, h.d4, h.d5⟩
theorem LInv.apart {X : Nat → Prop} (h : LInv R sl ti w W) (hb : Apart X W W') (hX : ∀ j, X j → w.heap.size + 1 + 1 < j) : LInv R sl ti w W' :=
  ⟨⟨hb.os.trans h.old.os, hb.tape.trans h.old.tape, hb.output.trans h.old.output, Nat.le_trans h.old.size hb.size, fun k hk => (hb.block k (Nat.lt_of_lt_of_le hk h.old.size) (fun x => by have := hX k x; omega)).trans (h.old.block k hk)⟩,
   (hb.block _ (lt_of_block h.c) (fun x => by have := hX _ x; omega)).trans h.c, (hb.block _ (lt_of_block h.b) (fun x => by have := hX _ x; omega)).trans h.b, (hb.block _ (lt_of_block h.s) (fun x => by have := hX _ x; omega)).trans h.s⟩
theorem LT.mark3 (h : LT R sl ti n N v w q1 q2 gx B2 A1 A2 f W) (hb : Apart (fun j => j = gx) W W') (hr : RowOf W' gx n 3 102) : LT R sl ti n N v w q1 q2 gx B2 A1 A2 f W' := by
  have d0 := h.d0; have d1 := h.d1; have d2 := h.d2; have d3 := h.d3
  refine ⟨h.l.apart hb (fun j e => by omega), (hb.block _ (lt_of_block h.s1) (by omega)).trans h.s1, (hb.block _ (lt_of_block h.s2) (by omega)).trans h.s2, ?_, ?_, hr, h.d0, h.d1, h.d2, h.d3, h.d4, h.d5⟩
  · by_cases hN : 0 < N
    · exact h.a1.block fun j hj hbk => hb.block j hj (by have := h.d4 j hN hbk; omega)
    · exact .inl (by omega)
  · by_cases hN : 0 < N
    · exact h.a2.block fun j hj hbk => hb.block j hj (by have := h.a2.ge hN hbk; omega)
    · exact .inl (by omega)
theorem LT.mark2 (h : LT R sl ti n N v w q1 q2 gx B2 A1 A2 f W) (hb : Apart (fun j => 0 < N ∧ blk A2 j) W W') (ho : Own W' B2 A2 N 24 f') : LT R sl ti n N v w q1 q2 gx B2 A1 A2 f' W' := by
  have d0 := h.d0; have d1 := h.d1; have d2 := h.d2; have d3 := h.d3
  have ge : ∀ j, (0 < N ∧ blk A2 j) → B2 ≤ j := fun j e => h.a2.ge e.1 e.2
  refine ⟨h.l.apart hb (fun j e => by have := ge j e; omega), (hb.block _ (lt_of_block h.s1) (fun e => by have := ge _ e; omega)).trans h.s1, (hb.block _ (lt_of_block h.s2) (fun e => h.d5 e.1 e.2)).trans h.s2, ?_, ho, ?_, h.d0, h.d1, h.d2, h.d3, h.d4, h.d5⟩
  · by_cases hN : 0 < N
    · exact h.a1.block fun j hj hbk => hb.block j hj (fun e => by have := ge j e; have := h.d4 j hN hbk; omega)
    · exact .inl (by omega)
  · obtain ⟨cur, h1, h2⟩ := h.xr.row
    exact ⟨cur, (hb.block _ (lt_of_block h1) (fun e => by have := ge _ e; omega)).trans h1, h2⟩
end
theorem own_stx {w w2 x : World} {B N : Nat} {A : Option Addr} {t : TypeId} {f : Nat → Value} {p : Addr} {v : Value} (hO : Own (ext w x) B A N t f) (hp : p.block < w.heap.size) (hB : p.block < B)
    (e : w2 = w.setCell p v) : Own (ext w2 (stx w x p v)) B A N t f := by
  rw [e, ← ext_setCell w x p v hp]
  by_cases hN : 0 < N
  · refine hO.block fun j hj hb => ?_
    have h1 := hO.ge hN hb
    have h2 : ¬ p.block = j := by omega
    simp only [World.setCell, Array.getElem?_modify, if_neg h2]
  · exact .inl (by omega)
set_option maxRecDepth 100000 in
set_option maxHeartbeats 16000000 in
theorem FnExactTickAll_any (R : Rn) (sl ti : Int) (A : Option Addr) (n c : Nat) (hS : Small n R.T) (hn : n ≤ 9223372036854775807) (hw : R.wd < 4294967296) (hg : R.gp < 4294967296) (F : Fits R.st R.de R.ca sl ti R.s0) (w : World) (hT : RdT w A n R.T) :
    Calls Try.prog 9 #[.agg #[.float .f32 R.lo, .float .f32 R.hi, .float .f32 R.wi, .int .i8 R.st, .int .i8 R.de, .int .i8 R.ca], .agg #[.int .i8 sl, .float .f32 R.wd, .float .f32 R.gp, .int .i16 ti, .float .f32 R.sh], R.s0.v, .slice A n c] w fun e w' => e = .returned (.bool true) ∧ ∃ x, w' = ext w x := by
  have I0 := Lib.hid (l_start (R := R) (sl := sl) (ti := ti) (w := w))
  have HT := Lib.hid hT
  have HZ := fun W => szTickS_any A n c 1048576 hn (by omega) (by omega) W
  by_cases hbig : 1048576 < n
  · have hz : (1048576 : Int) < (n : Int) := by omega
    rw [if_pos hz] at HZ
    clear hS hw hg F hT
    unfold St.v
    go_enter Try.func9, Try.ntmps9
    go_wp2_with (go_at_call 20; refine (HZ _).mono ?_; rintro e w' ⟨rfl, rfl⟩)
    go_ret
    exact ⟨rfl, ex_of I0.out.old⟩
  · have hz : ¬ (1048576 : Int) < (n : Int) := by omega
    have hz2 : ¬ (1048576 : Int) - (n : Int) < 0 := by omega
    have hn1 : n ≤ 1048576 := by omega
    rw [if_neg hz] at HZ
    have HRS := fun (c' : Nat) (B : Option Addr) W hW => TickAllS_any R sl ti B n c' hS hn hw hg F W hW
    have HRI := fun (c' : Nat) (B : Option Addr) W hW => TickAll_any R sl ti B n c' hS hn hw hg F W hW
    have HEQ := fun (B B' : Option Addr) (c1 c2 : Nat) W h1 h2 => eqTickS_any B B' n c1 c2 R.T hn1 W h1 h2
    have HTS := fun (B : Option Addr) (c1 : Nat) W h1 => toTickS_x B n c1 R.T hn1 W h1
    have HC := fun W => toControl_any R.lo R.hi R.wi R.st R.de R.ca W
    have HB := fun W => toBlind_any sl R.wd R.gp ti R.sh W
    have HSt := fun W => toState_any R.s0.ti R.s0.wa R.s0.sm W
    have hN1 : R.outN sl ti n ≤ 1048576 := by unfold Rn.outN; split <;> omega
    have HES := fun W => eqState_any (R.outS sl ti n) W
    have HEF := fun (B B' : Option Addr) (c1 c2 : Nat) W h1 h2 => eqFloat32S_any B B' (R.outN sl ti n) c1 c2 R.light hN1 W h1 h2
    have HM3 := fun (g c1 : Nat) W h1 => markTickS_any g n c1 1 hn1 (by omega) (by omega) W h1
    have HMF := fun (B : Option Addr) (c1 : Nat) (b : Nat) (f : Nat → Value) W h1 => markFloat32S_any B (R.outN sl ti n) c1 1 b f hN1 (by omega) (by omega) W h1
    have HHF := fun (B : Option Addr) (c1 : Nat) W h1 => heldFloat32S_any B (R.outN sl ti n) c1 1 hN1 (by omega) (by omega) W h1
    clear hS hw hg F hT
    unfold TickAns at HRS HRI
    unfold St.v at HRS HRI HES ⊢
    generalize R.outN sl ti n = N at HRS HRI hN1 HEF HMF HHF
    generalize R.outS sl ti n = v at HRS HRI HES
    generalize R.ask sl ti n = a2 at HRS HRI
    go_enter Try.func9, Try.ntmps9
    go_wp2_with (go_at_call 20; refine (HZ _).mono ?_; rintro e w' ⟨rfl, rfl⟩)
    go_cut [10, 11, 12] from 13 to 144 (fun s10 s11 s12 wx => ∃ q1 A1 c1, s10 = .pointer (some ⟨q1, 0, none⟩) ∧ s11 = .slice A1 N c1 ∧ s12 = .int .i64 a2 ∧ Aside (LInv R sl ti w wx ∧ wx.heap[q1]? = some (.cells #[.int .i16 v.ti, .int .i8 v.wa, .int .i8 v.sm] 51 (0, 0)) ∧ Own wx w.heap.size A1 N 24 (fun k => .float .f32 (R.light k))))
    case first =>
      have J := I0.out
      unfold lW at J
      generalize ((w.alloc (.cells #[.float .f32 R.lo, .float .f32 R.hi, .float .f32 R.wi, .int .i8 R.st, .int .i8 R.de, .int .i8 R.ca] 37)).alloc (.cells #[.int .i8 sl, .float .f32 R.wd, .float .f32 R.gp, .int .i16 ti, .float .f32 R.sh] 40)).alloc (.cells #[.int .i16 R.s0.ti, .int .i8 R.s0.wa, .int .i8 R.s0.sm] 42) = W0 at J ⊢
      clear I0
      have BW := J.old
      have ZW := J.old.size
      have HJ := Lib.hid J; clear J
      go_region_held3 (fun w' : World => w'.cell? ⟨w.heap.size, 0, none⟩ = some (.float .f32 R.lo) ∧ w'.cell? ⟨w.heap.size, 1, none⟩ = some (.float .f32 R.hi) ∧ w'.cell? ⟨w.heap.size, 2, none⟩ = some (.float .f32 R.wi) ∧ w'.cell? ⟨w.heap.size, 3, none⟩ = some (.int .i8 R.st) ∧ w'.cell? ⟨w.heap.size, 4, none⟩ = some (.int .i8 R.de) ∧ w'.cell? ⟨w.heap.size, 5, none⟩ = some (.int .i8 R.ca) ∧ w'.cell? ⟨w.heap.size + 1, 0, none⟩ = some (.int .i8 sl) ∧ w'.cell? ⟨w.heap.size + 1, 1, none⟩ = some (.float .f32 R.wd) ∧ w'.cell? ⟨w.heap.size + 1, 2, none⟩ = some (.float .f32 R.gp) ∧ w'.cell? ⟨w.heap.size + 1, 3, none⟩ = some (.int .i16 ti) ∧ w'.cell? ⟨w.heap.size + 1, 4, none⟩ = some (.float .f32 R.sh) ∧ w'.cell? ⟨w.heap.size + 1 + 1, 0, none⟩ = some (.int .i16 R.s0.ti) ∧ w'.cell? ⟨w.heap.size + 1 + 1, 1, none⟩ = some (.int .i8 R.s0.wa) ∧ w'.cell? ⟨w.heap.size + 1 + 1, 2, none⟩ = some (.int .i8 R.s0.sm)) (exact (LInv.grow HJ.out (by (repeat' (first | (with_reducible exact Below.refl _ _) | (with_reducible assumption) | (with_reducible refine below_ext' ?_ ?_) | (with_reducible refine Below.alloc ?_ ?_ _) | (with_reducible refine below_drewN ?_ _) | (with_reducible refine Below.drew ?_) | (with_reducible refine Below.setCell ?_ ?_ _) | (with_reducible exact Nat.le_refl _) | (with_reducible refine ext_le _ _ ?_) | (with_reducible refine le_alloc ?_ _) | (with_reducible refine le_set ?_ _ _) | (with_reducible refine le_drew ?_) | (with_reducible refine le_drewN ?_ _) | (simp; done) | (simp; omega) | omega)))).cells) (first
        | (go_at_call 22; refine (HC _).mono ?_; rintro e w' ⟨rfl, x, rfl⟩)
        | (go_at_call 23; refine (HB _).mono ?_; rintro e w' ⟨rfl, x, rfl⟩; (try simp only [ext_ext]))
        | (go_at_call 24; refine (HSt _).mono ?_; rintro e w' ⟨rfl, x, rfl⟩; (try simp only [ext_ext]))
        | (go_at_call 25; refine (HTS _ _ _ (HT.out.below (by (repeat' (first | (with_reducible exact Below.refl _ _) | (with_reducible assumption) | (with_reducible refine below_ext' ?_ ?_) | (with_reducible refine Below.alloc ?_ ?_ _) | (with_reducible refine below_drewN ?_ _) | (with_reducible refine Below.drew ?_) | (with_reducible refine Below.setCell ?_ ?_ _) | (with_reducible exact Nat.le_refl _) | (with_reducible refine ext_le _ _ ?_) | (with_reducible refine le_alloc ?_ _) | (with_reducible refine le_set ?_ _ _) | (with_reducible refine le_drew ?_) | (with_reducible refine le_drewN ?_ _) | (simp; done) | (simp; omega) | omega))))).mono ?_; rintro e w' ⟨g, x, rfl, rfl, ho⟩; (try simp only [ext_ext] at ho ⊢))
        | (go_at_call 43; refine (HRS _ _ _ (ho.out.2.2.1.below (by (repeat' (first | (with_reducible exact Below.refl _ _) | (with_reducible assumption) | (with_reducible refine below_ext' ?_ ?_) | (with_reducible refine Below.alloc ?_ ?_ _) | (with_reducible refine below_drewN ?_ _) | (with_reducible refine Below.drew ?_) | (with_reducible refine Below.setCell ?_ ?_ _) | (with_reducible exact Nat.le_refl _) | (with_reducible refine ext_le _ _ ?_) | (with_reducible refine le_alloc ?_ _) | (with_reducible refine le_set ?_ _ _) | (with_reducible refine le_drew ?_) | (with_reducible refine le_drewN ?_ _) | (simp; done) | (simp; omega) | omega))))).mono ?_; rintro e w' ⟨A1, c1, rfl, ⟨x, rfl⟩, hO⟩; (try simp only [ext_ext] at hO ⊢)))
      all_goals go_wp2_with fail
      all_goals go_meet
      all_goals refine ⟨_, _, _, rfl, rfl, rfl, (show Aside _ from ⟨HJ.out.grow (by (repeat' (first | (with_reducible exact Below.refl _ _) | (with_reducible assumption) | (with_reducible refine below_ext' ?_ ?_) | (with_reducible refine Below.alloc ?_ ?_ _) | (with_reducible refine below_drewN ?_ _) | (with_reducible refine Below.drew ?_) | (with_reducible refine Below.setCell ?_ ?_ _) | (with_reducible exact Nat.le_refl _) | (with_reducible refine ext_le _ _ ?_) | (with_reducible refine le_alloc ?_ _) | (with_reducible refine le_set ?_ _ _) | (with_reducible refine le_drew ?_) | (with_reducible refine le_drewN ?_ _) | (simp; done) | (simp; omega) | omega))), ?_, ?_⟩)⟩
      all_goals first
        | (refine Own.lower (hO.below ?_) ?_ <;> ((repeat' (first | (with_reducible exact Below.refl _ _) | (with_reducible assumption) | (with_reducible refine below_ext' ?_ ?_) | (with_reducible refine Below.alloc ?_ ?_ _) | (with_reducible refine below_drewN ?_ _) | (with_reducible refine Below.drew ?_) | (with_reducible refine Below.setCell ?_ ?_ _) | (with_reducible exact Nat.le_refl _) | (with_reducible refine ext_le _ _ ?_) | (with_reducible refine le_alloc ?_ _) | (with_reducible refine le_set ?_ _ _) | (with_reducible refine le_drew ?_) | (with_reducible refine le_drewN ?_ _) | (simp; done) | (simp; omega) | omega)); done))
        | (refine Own.lower (own_stx (own_stx (own_stx hO ?_ ?_ ?_) ?_ ?_ ?_) ?_ ?_ ?_) ?_ <;> first | (simp; done) | (exact ext_lt _ _ (by simp)) | (go_simp; done) | ((repeat' (first | (with_reducible exact Below.refl _ _) | (with_reducible assumption) | (with_reducible refine below_ext' ?_ ?_) | (with_reducible refine Below.alloc ?_ ?_ _) | (with_reducible refine below_drewN ?_ _) | (with_reducible refine Below.drew ?_) | (with_reducible refine Below.setCell ?_ ?_ _) | (with_reducible exact Nat.le_refl _) | (with_reducible refine ext_le _ _ ?_) | (with_reducible refine le_alloc ?_ _) | (with_reducible refine le_set ?_ _ _) | (with_reducible refine le_drew ?_) | (with_reducible refine le_drewN ?_ _) | (simp; done) | (simp; omega) | omega)); done))
        | ((repeat' (first | (with_reducible exact heap_alloc_new _ _) | (with_reducible refine (ext_block _ _ ?_).trans ?_) | (with_reducible refine (Below.heap_alloc _ _ _ ?_).trans ?_) | (with_reducible refine ext_lt _ _ ?_) | (simp; done) | (simp; omega) | (exact heap_alloc_new _ _))); done)
    case rest =>
      obtain ⟨q1, A1, c1, rfl, rfl, rfl, I1⟩ := hcut
      clear I0
      have BW := I1.out.1.old
      have ZW := I1.out.1.old.size
      go_wp2_with (go_at_call 25; refine (HTS _ _ _ (HT.out.below (by (repeat' (first | (with_reducible exact Below.refl _ _) | (with_reducible assumption) | (with_reducible refine below_ext' ?_ ?_) | (with_reducible refine Below.alloc ?_ ?_ _) | (with_reducible refine below_drewN ?_ _) | (with_reducible refine Below.drew ?_) | (with_reducible refine Below.setCell ?_ ?_ _) | (with_reducible exact Nat.le_refl _) | (with_reducible refine ext_le _ _ ?_) | (with_reducible refine le_alloc ?_ _) | (with_reducible refine le_set ?_ _ _) | (with_reducible refine le_drew ?_) | (with_reducible refine le_drewN ?_ _) | (simp; done) | (simp; omega) | omega))))).mono ?_; rintro e w' ⟨gx, x, rfl, rfl, ho⟩)
      have hL := I1.out.1.grow (below_ext wc x)
      have hS1 := ((below_ext wc x).block _ (lt_of_block I1.out.2.1)).trans I1.out.2.1
      have hA1 := I1.out.2.2.below (below_ext wc x)
      have hd1 : q1 < gx := Nat.lt_of_lt_of_le (lt_of_block I1.out.2.1) ho.out.1
      have hd4 : ∀ j, 0 < N → blk A1 j → j < gx := fun j hN hb => Nat.lt_of_lt_of_le (I1.out.2.2.lt hN hb) ho.out.1
      have hd0 : w.heap.size + 1 + 1 < gx := Nat.lt_of_lt_of_le (lt_of_block I1.out.1.s) ho.out.1
      have hx3 := ho.out.2.2.1
      have hxr := ho.out.2.2.2
      have hgx := ho.out.2.1
      clear I1 ho BW ZW
      generalize ext wc x = W0 at hL hS1 hA1 hx3 hxr hgx ⊢
      have BW := hL.old
      have ZW := hL.old.size
      have HJ := Lib.hid hL; have H1 := Lib.hid hS1; have H2 := Lib.hid hA1; have H3 := Lib.hid hx3; have H4 := Lib.hid hxr; have H5 := Lib.hid hd4; have H6 := Lib.hid hgx; have H7 := Lib.hid hd0; have H8 := Lib.hid hd1
      clear hL hS1 hA1 hx3 hxr hd4 hgx hd0 hd1
      go_cut [14, 15, 16] from 17 to 144 (fun s14 s15 s16 wy => ∃ q2 A2 c2, s14 = .pointer (some ⟨q2, 0, none⟩) ∧ s15 = .slice A2 N c2 ∧ s16 = .int .i64 a2 ∧ Aside (Below W0.heap.size W0 wy ∧ wy.heap[q2]? = some (.cells #[.int .i16 v.ti, .int .i8 v.wa, .int .i8 v.sm] 51 (0, 0)) ∧ W0.heap.size ≤ q2 ∧ Own wy W0.heap.size A2 N 24 (fun k => .float .f32 (R.light k)) ∧ (0 < N → ¬ blk A2 q2)))
      case first =>
        go_region_held3 (fun w' : World => w'.cell? ⟨w.heap.size, 0, none⟩ = some (.float .f32 R.lo) ∧ w'.cell? ⟨w.heap.size, 1, none⟩ = some (.float .f32 R.hi) ∧ w'.cell? ⟨w.heap.size, 2, none⟩ = some (.float .f32 R.wi) ∧ w'.cell? ⟨w.heap.size, 3, none⟩ = some (.int .i8 R.st) ∧ w'.cell? ⟨w.heap.size, 4, none⟩ = some (.int .i8 R.de) ∧ w'.cell? ⟨w.heap.size, 5, none⟩ = some (.int .i8 R.ca) ∧ w'.cell? ⟨w.heap.size + 1, 0, none⟩ = some (.int .i8 sl) ∧ w'.cell? ⟨w.heap.size + 1, 1, none⟩ = some (.float .f32 R.wd) ∧ w'.cell? ⟨w.heap.size + 1, 2, none⟩ = some (.float .f32 R.gp) ∧ w'.cell? ⟨w.heap.size + 1, 3, none⟩ = some (.int .i16 ti) ∧ w'.cell? ⟨w.heap.size + 1, 4, none⟩ = some (.float .f32 R.sh) ∧ w'.cell? ⟨w.heap.size + 1 + 1, 0, none⟩ = some (.int .i16 R.s0.ti) ∧ w'.cell? ⟨w.heap.size + 1 + 1, 1, none⟩ = some (.int .i8 R.s0.wa) ∧ w'.cell? ⟨w.heap.size + 1 + 1, 2, none⟩ = some (.int .i8 R.s0.sm)) (exact (LInv.grow HJ.out (by (repeat' (first | (with_reducible exact Below.refl _ _) | (with_reducible assumption) | (with_reducible refine below_ext' ?_ ?_) | (with_reducible refine Below.alloc ?_ ?_ _) | (with_reducible refine below_drewN ?_ _) | (with_reducible refine Below.drew ?_) | (with_reducible refine Below.setCell ?_ ?_ _) | (with_reducible exact Nat.le_refl _) | (with_reducible refine ext_le _ _ ?_) | (with_reducible refine le_alloc ?_ _) | (with_reducible refine le_set ?_ _ _) | (with_reducible refine le_drew ?_) | (with_reducible refine le_drewN ?_ _) | (simp; done) | (simp; omega) | omega)))).cells) (first
          | (go_at_call 22; refine (HC _).mono ?_; rintro e w' ⟨rfl, x, rfl⟩)
          | (go_at_call 23; refine (HB _).mono ?_; rintro e w' ⟨rfl, x, rfl⟩; (try simp only [ext_ext]))
          | (go_at_call 24; refine (HSt _).mono ?_; rintro e w' ⟨rfl, x, rfl⟩; (try simp only [ext_ext]))
          | (go_at_call 44; refine (HRI _ _ _ (H3.out.below (by (repeat' (first | (with_reducible exact Below.refl _ _) | (with_reducible assumption) | (with_reducible refine below_ext' ?_ ?_) | (with_reducible refine Below.alloc ?_ ?_ _) | (with_reducible refine below_drewN ?_ _) | (with_reducible refine Below.drew ?_) | (with_reducible refine Below.setCell ?_ ?_ _) | (with_reducible exact Nat.le_refl _) | (with_reducible refine ext_le _ _ ?_) | (with_reducible refine le_alloc ?_ _) | (with_reducible refine le_set ?_ _ _) | (with_reducible refine le_drew ?_) | (with_reducible refine le_drewN ?_ _) | (simp; done) | (simp; omega) | omega))))).mono ?_; rintro e w' ⟨A2, c2, rfl, ⟨x, rfl⟩, hO⟩; (try simp only [ext_ext] at hO ⊢)))
        all_goals go_wp2_with fail
        all_goals go_meet
        all_goals refine ⟨_, _, _, rfl, rfl, rfl, (show Aside _ from ⟨by (repeat' (first | (with_reducible exact Below.refl _ _) | (with_reducible assumption) | (with_reducible refine below_ext' ?_ ?_) | (with_reducible refine Below.alloc ?_ ?_ _) | (with_reducible refine below_drewN ?_ _) | (with_reducible refine Below.drew ?_) | (with_reducible refine Below.setCell ?_ ?_ _) | (with_reducible exact Nat.le_refl _) | (with_reducible refine ext_le _ _ ?_) | (with_reducible refine le_alloc ?_ _) | (with_reducible refine le_set ?_ _ _) | (with_reducible refine le_drew ?_) | (with_reducible refine le_drewN ?_ _) | (simp; done) | (simp; omega) | omega)), ?_, by (repeat' (first | (with_reducible exact Below.refl _ _) | (with_reducible assumption) | (with_reducible refine below_ext' ?_ ?_) | (with_reducible refine Below.alloc ?_ ?_ _) | (with_reducible refine below_drewN ?_ _) | (with_reducible refine Below.drew ?_) | (with_reducible refine Below.setCell ?_ ?_ _) | (with_reducible exact Nat.le_refl _) | (with_reducible refine ext_le _ _ ?_) | (with_reducible refine le_alloc ?_ _) | (with_reducible refine le_set ?_ _ _) | (with_reducible refine le_drew ?_) | (with_reducible refine le_drewN ?_ _) | (simp; done) | (simp; omega) | omega)), ?_, ?_⟩)⟩
        all_goals first
          | (refine Own.lower (hO.below ?_) ?_ <;> ((repeat' (first | (with_reducible exact Below.refl _ _) | (with_reducible assumption) | (with_reducible refine below_ext' ?_ ?_) | (with_reducible refine Below.alloc ?_ ?_ _) | (with_reducible refine below_drewN ?_ _) | (with_reducible refine Below.drew ?_) | (with_reducible refine Below.setCell ?_ ?_ _) | (with_reducible exact Nat.le_refl _) | (with_reducible refine ext_le _ _ ?_) | (with_reducible refine le_alloc ?_ _) | (with_reducible refine le_set ?_ _ _) | (with_reducible refine le_drew ?_) | (with_reducible refine le_drewN ?_ _) | (simp; done) | (simp; omega) | omega)); done))
          | (refine Own.lower (own_stx (own_stx (own_stx hO ?_ ?_ ?_) ?_ ?_ ?_) ?_ ?_ ?_) ?_ <;> first | (simp; done) | (exact ext_lt _ _ (by simp)) | (go_simp; done) | ((repeat' (first | (with_reducible exact Below.refl _ _) | (with_reducible assumption) | (with_reducible refine below_ext' ?_ ?_) | (with_reducible refine Below.alloc ?_ ?_ _) | (with_reducible refine below_drewN ?_ _) | (with_reducible refine Below.drew ?_) | (with_reducible refine Below.setCell ?_ ?_ _) | (with_reducible exact Nat.le_refl _) | (with_reducible refine ext_le _ _ ?_) | (with_reducible refine le_alloc ?_ _) | (with_reducible refine le_set ?_ _ _) | (with_reducible refine le_drew ?_) | (with_reducible refine le_drewN ?_ _) | (simp; done) | (simp; omega) | omega)); done))
          | ((repeat' (first | (with_reducible exact heap_alloc_new _ _) | (with_reducible refine (ext_block _ _ ?_).trans ?_) | (with_reducible refine (Below.heap_alloc _ _ _ ?_).trans ?_) | (with_reducible refine ext_lt _ _ ?_) | (simp; done) | (simp; omega) | (exact heap_alloc_new _ _))); done)
          | (intro hN hb; exact absurd (hO.lt hN hb) (Nat.lt_irrefl _))
          | (intro hN hb; refine absurd (hO.ge hN hb) (Nat.not_le.2 ?_); simp; done)
          | (intro hN hb; refine absurd (hO.ge hN hb) (Nat.not_le.2 (ext_lt _ _ ?_)); simp; done)
      case rest =>
        obtain ⟨q2, A2, c2, rfl, rfl, rfl, I2⟩ := hcut
        obtain ⟨hbl, hs2, hq2, ho2, hd5⟩ := I2.out
        have hLT : LT R sl ti n N v w q1 q2 gx W0.heap.size A1 A2 (fun k => .float .f32 (R.light k)) wc :=
          ⟨HJ.out.grow hbl, (hbl.block _ (Nat.lt_trans H8.out H6.out)).trans H1.out, hs2, H2.out.below hbl, ho2, H4.out.below hbl H6.out, H7.out, H8.out, H6.out, hq2, H5.out, hd5⟩
        have hx3 := H3.out.below hbl
        clear BW ZW H1 H2 H3 H4 H5 H6 H7 H8 HJ I2 hbl hs2 hq2 ho2 hd5
        have L0 := Lib.hid hLT; have X0 := Lib.hid hx3; clear hLT hx3
        have BW := L0.out.l.old
        have ZW := L0.out.l.old.size
        obtain ⟨p0, p1, p2, _, _, _⟩ := row3 L0.out.s1
        obtain ⟨r0, r1, r2, _, _, _⟩ := row3 L0.out.s2
        have zq1 := lt_of_block L0.out.s1
        have zq2 := lt_of_block L0.out.s2
        go_upto_region 13 with (first
          | (go_at_call 45; refine (HES _).mono ?_; rintro e w' ⟨rfl, x, rfl⟩)
          | (go_at_call 16; refine (HEF _ _ _ _ _ ((L0.out.grow (by (repeat' (first | (with_reducible exact Below.refl _ _) | (with_reducible assumption) | (with_reducible refine below_ext' ?_ ?_) | (with_reducible refine Below.alloc ?_ ?_ _) | (with_reducible refine below_drewN ?_ _) | (with_reducible refine Below.drew ?_) | (with_reducible refine Below.setCell ?_ ?_ _) | (with_reducible exact Nat.le_refl _) | (with_reducible refine ext_le _ _ ?_) | (with_reducible refine le_alloc ?_ _) | (with_reducible refine le_set ?_ _ _) | (with_reducible refine le_drew ?_) | (with_reducible refine le_drewN ?_ _) | (simp; done) | (simp; omega) | omega)))).a2.rd) ((L0.out.grow (by (repeat' (first | (with_reducible exact Below.refl _ _) | (with_reducible assumption) | (with_reducible refine below_ext' ?_ ?_) | (with_reducible refine Below.alloc ?_ ?_ _) | (with_reducible refine below_drewN ?_ _) | (with_reducible refine Below.drew ?_) | (with_reducible refine Below.setCell ?_ ?_ _) | (with_reducible exact Nat.le_refl _) | (with_reducible refine ext_le _ _ ?_) | (with_reducible refine le_alloc ?_ _) | (with_reducible refine le_set ?_ _ _) | (with_reducible refine le_drew ?_) | (with_reducible refine le_drewN ?_ _) | (simp; done) | (simp; omega) | omega)))).a1.rd)).mono ?_; rintro e w' ⟨rfl, x, rfl⟩)
          | (go_at_call 25; refine (HTS _ _ _ (HT.out.below (by (repeat' (first | (with_reducible exact Below.refl _ _) | (with_reducible assumption) | (with_reducible refine below_ext' ?_ ?_) | (with_reducible refine Below.alloc ?_ ?_ _) | (with_reducible refine below_drewN ?_ _) | (with_reducible refine Below.drew ?_) | (with_reducible refine Below.setCell ?_ ?_ _) | (with_reducible exact Nat.le_refl _) | (with_reducible refine ext_le _ _ ?_) | (with_reducible refine le_alloc ?_ _) | (with_reducible refine le_set ?_ _ _) | (with_reducible refine le_drew ?_) | (with_reducible refine le_drewN ?_ _) | (simp; done) | (simp; omega) | omega))))).mono ?_; rintro e w' ⟨g2, x, rfl, rfl, ho⟩)
          | (go_at_call 27; refine (HEQ _ _ _ _ _ (X0.out.below (by (repeat' (first | (with_reducible exact Below.refl _ _) | (with_reducible assumption) | (with_reducible refine below_ext' ?_ ?_) | (with_reducible refine Below.alloc ?_ ?_ _) | (with_reducible refine below_drewN ?_ _) | (with_reducible refine Below.drew ?_) | (with_reducible refine Below.setCell ?_ ?_ _) | (with_reducible exact Nat.le_refl _) | (with_reducible refine ext_le _ _ ?_) | (with_reducible refine le_alloc ?_ _) | (with_reducible refine le_set ?_ _ _) | (with_reducible refine le_drew ?_) | (with_reducible refine le_drewN ?_ _) | (simp; done) | (simp; omega) | omega)))) ho.out.2.2.1).mono ?_; rintro e w' ⟨rfl, x, rfl⟩))
        have hk3 : ¬ (1 + (n : Int) * 3 < 0) := by omega
        have hkN : ¬ (1 + (N : Int) < 0) := by omega
        go_upto_region 14 with (go_at_call 46
                                refine (HM3 _ _ _ (L0.out.grow (by (repeat' (first | (with_reducible exact Below.refl _ _) | (with_reducible assumption) | (with_reducible refine below_ext' ?_ ?_) | (with_reducible refine Below.alloc ?_ ?_ _) | (with_reducible refine below_drewN ?_ _) | (with_reducible refine Below.drew ?_) | (with_reducible refine Below.setCell ?_ ?_ _) | (with_reducible exact Nat.le_refl _) | (with_reducible refine ext_le _ _ ?_) | (with_reducible refine le_alloc ?_ _) | (with_reducible refine le_set ?_ _ _) | (with_reducible refine le_drew ?_) | (with_reducible refine le_drewN ?_ _) | (simp; done) | (simp; omega) | omega)))).xr).mono ?_
                                rintro e w1 ⟨rfl, hap, hr⟩
                                have L1a := LT.mark3 (L0.out.grow (by (repeat' (first | (with_reducible exact Below.refl _ _) | (with_reducible assumption) | (with_reducible refine below_ext' ?_ ?_) | (with_reducible refine Below.alloc ?_ ?_ _) | (with_reducible refine below_drewN ?_ _) | (with_reducible refine Below.drew ?_) | (with_reducible refine Below.setCell ?_ ?_ _) | (with_reducible exact Nat.le_refl _) | (with_reducible refine ext_le _ _ ?_) | (with_reducible refine le_alloc ?_ _) | (with_reducible refine le_set ?_ _ _) | (with_reducible refine le_drew ?_) | (with_reducible refine le_drewN ?_ _) | (simp; done) | (simp; omega) | omega)))) hap hr
                                clear hap hr)
        clear p0 p1 p2 r0 r1 r2 zq1 zq2 BW ZW L0 X0
        have L1 := Lib.hid L1a; clear L1a
        have BW := L1.out.l.old
        have ZW := L1.out.l.old.size
        obtain ⟨p0, p1, p2, _, _, _⟩ := row3 L1.out.s1
        obtain ⟨r0, r1, r2, _, _, _⟩ := row3 L1.out.s2
        have zq1 := lt_of_block L1.out.s1
        have zq2 := lt_of_block L1.out.s2
        go_upto_region 17 with (first
          | (go_at_call 45; refine (HES _).mono ?_; rintro e w' ⟨rfl, x, rfl⟩)
          | (go_at_call 16; refine (HEF _ _ _ _ _ ((L1.out.grow (by (repeat' (first | (with_reducible exact Below.refl _ _) | (with_reducible assumption) | (with_reducible refine below_ext' ?_ ?_) | (with_reducible refine Below.alloc ?_ ?_ _) | (with_reducible refine below_drewN ?_ _) | (with_reducible refine Below.drew ?_) | (with_reducible refine Below.setCell ?_ ?_ _) | (with_reducible exact Nat.le_refl _) | (with_reducible refine ext_le _ _ ?_) | (with_reducible refine le_alloc ?_ _) | (with_reducible refine le_set ?_ _ _) | (with_reducible refine le_drew ?_) | (with_reducible refine le_drewN ?_ _) | (simp; done) | (simp; omega) | omega)))).a2.rd) ((L1.out.grow (by (repeat' (first | (with_reducible exact Below.refl _ _) | (with_reducible assumption) | (with_reducible refine below_ext' ?_ ?_) | (with_reducible refine Below.alloc ?_ ?_ _) | (with_reducible refine below_drewN ?_ _) | (with_reducible refine Below.drew ?_) | (with_reducible refine Below.setCell ?_ ?_ _) | (with_reducible exact Nat.le_refl _) | (with_reducible refine ext_le _ _ ?_) | (with_reducible refine le_alloc ?_ _) | (with_reducible refine le_set ?_ _ _) | (with_reducible refine le_drew ?_) | (with_reducible refine le_drewN ?_ _) | (simp; done) | (simp; omega) | omega)))).a1.rd)).mono ?_; rintro e w' ⟨rfl, x, rfl⟩))
        go_upto_region 18 with (go_at_call 17
                                refine (HMF _ _ W0.heap.size _ _ (L1.out.grow (by (repeat' (first | (with_reducible exact Below.refl _ _) | (with_reducible assumption) | (with_reducible refine below_ext' ?_ ?_) | (with_reducible refine Below.alloc ?_ ?_ _) | (with_reducible refine below_drewN ?_ _) | (with_reducible refine Below.drew ?_) | (with_reducible refine Below.setCell ?_ ?_ _) | (with_reducible exact Nat.le_refl _) | (with_reducible refine ext_le _ _ ?_) | (with_reducible refine le_alloc ?_ _) | (with_reducible refine le_set ?_ _ _) | (with_reducible refine le_drew ?_) | (with_reducible refine le_drewN ?_ _) | (simp; done) | (simp; omega) | omega)))).a2).mono ?_
                                rintro e w2 ⟨rfl, hap, ho⟩
                                have L2a := LT.mark2 (L1.out.grow (by (repeat' (first | (with_reducible exact Below.refl _ _) | (with_reducible assumption) | (with_reducible refine below_ext' ?_ ?_) | (with_reducible refine Below.alloc ?_ ?_ _) | (with_reducible refine below_drewN ?_ _) | (with_reducible refine Below.drew ?_) | (with_reducible refine Below.setCell ?_ ?_ _) | (with_reducible exact Nat.le_refl _) | (with_reducible refine ext_le _ _ ?_) | (with_reducible refine le_alloc ?_ _) | (with_reducible refine le_set ?_ _ _) | (with_reducible refine le_drew ?_) | (with_reducible refine le_drewN ?_ _) | (simp; done) | (simp; omega) | omega)))) hap ho
                                clear hap ho)
        clear p0 p1 p2 r0 r1 r2 zq1 zq2 BW ZW L1
        have L2 := Lib.hid L2a; clear L2a
        have BW := L2.out.l.old
        have ZW := L2.out.l.old.size
        go_wp2_with (go_at_call 42; refine (HHF _ _ _ L2.out.a2.rd).mono ?_; rintro e w' ⟨rfl, rfl⟩)
        go_cut [20, 21, 22] from 23 to 144 (fun s20 s21 s22 wy => ∃ q3 A3 c3, s20 = .pointer (some ⟨q3, 0, none⟩) ∧ s21 = .slice A3 N c3 ∧ s22 = .int .i64 a2 ∧ Aside (Below w2.heap.size w2 wy ∧ wy.heap[q3]? = some (.cells #[.int .i16 v.ti, .int .i8 v.wa, .int .i8 v.sm] 51 (0, 0)) ∧ Own wy w.heap.size A3 N 24 (fun k => .float .f32 (R.light k))))
        case first =>
          have HJ := Lib.hid L2.out.l
          go_region_held3 (fun w' : World => w'.cell? ⟨w.heap.size, 0, none⟩ = some (.float .f32 R.lo) ∧ w'.cell? ⟨w.heap.size, 1, none⟩ = some (.float .f32 R.hi) ∧ w'.cell? ⟨w.heap.size, 2, none⟩ = some (.float .f32 R.wi) ∧ w'.cell? ⟨w.heap.size, 3, none⟩ = some (.int .i8 R.st) ∧ w'.cell? ⟨w.heap.size, 4, none⟩ = some (.int .i8 R.de) ∧ w'.cell? ⟨w.heap.size, 5, none⟩ = some (.int .i8 R.ca) ∧ w'.cell? ⟨w.heap.size + 1, 0, none⟩ = some (.int .i8 sl) ∧ w'.cell? ⟨w.heap.size + 1, 1, none⟩ = some (.float .f32 R.wd) ∧ w'.cell? ⟨w.heap.size + 1, 2, none⟩ = some (.float .f32 R.gp) ∧ w'.cell? ⟨w.heap.size + 1, 3, none⟩ = some (.int .i16 ti) ∧ w'.cell? ⟨w.heap.size + 1, 4, none⟩ = some (.float .f32 R.sh) ∧ w'.cell? ⟨w.heap.size + 1 + 1, 0, none⟩ = some (.int .i16 R.s0.ti) ∧ w'.cell? ⟨w.heap.size + 1 + 1, 1, none⟩ = some (.int .i8 R.s0.wa) ∧ w'.cell? ⟨w.heap.size + 1 + 1, 2, none⟩ = some (.int .i8 R.s0.sm)) (exact (LInv.grow HJ.out (by (repeat' (first | (with_reducible exact Below.refl _ _) | (with_reducible assumption) | (with_reducible refine below_ext' ?_ ?_) | (with_reducible refine Below.alloc ?_ ?_ _) | (with_reducible refine below_drewN ?_ _) | (with_reducible refine Below.drew ?_) | (with_reducible refine Below.setCell ?_ ?_ _) | (with_reducible exact Nat.le_refl _) | (with_reducible refine ext_le _ _ ?_) | (with_reducible refine le_alloc ?_ _) | (with_reducible refine le_set ?_ _ _) | (with_reducible refine le_drew ?_) | (with_reducible refine le_drewN ?_ _) | (simp; done) | (simp; omega) | omega)))).cells) (first
            | (go_at_call 22; refine (HC _).mono ?_; rintro e w' ⟨rfl, x, rfl⟩)
            | (go_at_call 23; refine (HB _).mono ?_; rintro e w' ⟨rfl, x, rfl⟩; (try simp only [ext_ext]))
            | (go_at_call 24; refine (HSt _).mono ?_; rintro e w' ⟨rfl, x, rfl⟩; (try simp only [ext_ext]))
            | (go_at_call 25; refine (HTS _ _ _ (HT.out.below (by (repeat' (first | (with_reducible exact Below.refl _ _) | (with_reducible assumption) | (with_reducible refine below_ext' ?_ ?_) | (with_reducible refine Below.alloc ?_ ?_ _) | (with_reducible refine below_drewN ?_ _) | (with_reducible refine Below.drew ?_) | (with_reducible refine Below.setCell ?_ ?_ _) | (with_reducible exact Nat.le_refl _) | (with_reducible refine ext_le _ _ ?_) | (with_reducible refine le_alloc ?_ _) | (with_reducible refine le_set ?_ _ _) | (with_reducible refine le_drew ?_) | (with_reducible refine le_drewN ?_ _) | (simp; done) | (simp; omega) | omega))))).mono ?_; rintro e w' ⟨g, x, rfl, rfl, ho⟩; (try simp only [ext_ext] at ho ⊢))
            | (go_at_call 44; refine (HRI _ _ _ (ho.out.2.2.1.below (by (repeat' (first | (with_reducible exact Below.refl _ _) | (with_reducible assumption) | (with_reducible refine below_ext' ?_ ?_) | (with_reducible refine Below.alloc ?_ ?_ _) | (with_reducible refine below_drewN ?_ _) | (with_reducible refine Below.drew ?_) | (with_reducible refine Below.setCell ?_ ?_ _) | (with_reducible exact Nat.le_refl _) | (with_reducible refine ext_le _ _ ?_) | (with_reducible refine le_alloc ?_ _) | (with_reducible refine le_set ?_ _ _) | (with_reducible refine le_drew ?_) | (with_reducible refine le_drewN ?_ _) | (simp; done) | (simp; omega) | omega))))).mono ?_; rintro e w' ⟨A3, c3, rfl, ⟨x, rfl⟩, hO⟩; (try simp only [ext_ext] at hO ⊢)))
          all_goals go_wp2_with fail
          all_goals go_meet
          all_goals refine ⟨_, _, _, rfl, rfl, rfl, (show Aside _ from ⟨by (repeat' (first | (with_reducible exact Below.refl _ _) | (with_reducible assumption) | (with_reducible refine below_ext' ?_ ?_) | (with_reducible refine Below.alloc ?_ ?_ _) | (with_reducible refine below_drewN ?_ _) | (with_reducible refine Below.drew ?_) | (with_reducible refine Below.setCell ?_ ?_ _) | (with_reducible exact Nat.le_refl _) | (with_reducible refine ext_le _ _ ?_) | (with_reducible refine le_alloc ?_ _) | (with_reducible refine le_set ?_ _ _) | (with_reducible refine le_drew ?_) | (with_reducible refine le_drewN ?_ _) | (simp; done) | (simp; omega) | omega)), ?_, ?_⟩)⟩
          all_goals first
            | (refine Own.lower (hO.below ?_) ?_ <;> ((repeat' (first | (with_reducible exact Below.refl _ _) | (with_reducible assumption) | (with_reducible refine below_ext' ?_ ?_) | (with_reducible refine Below.alloc ?_ ?_ _) | (with_reducible refine below_drewN ?_ _) | (with_reducible refine Below.drew ?_) | (with_reducible refine Below.setCell ?_ ?_ _) | (with_reducible exact Nat.le_refl _) | (with_reducible refine ext_le _ _ ?_) | (with_reducible refine le_alloc ?_ _) | (with_reducible refine le_set ?_ _ _) | (with_reducible refine le_drew ?_) | (with_reducible refine le_drewN ?_ _) | (simp; done) | (simp; omega) | omega)); done))
            | (refine Own.lower (own_stx (own_stx (own_stx hO ?_ ?_ ?_) ?_ ?_ ?_) ?_ ?_ ?_) ?_ <;> first | (simp; done) | (exact ext_lt _ _ (by simp)) | (go_simp; done) | ((repeat' (first | (with_reducible exact Below.refl _ _) | (with_reducible assumption) | (with_reducible refine below_ext' ?_ ?_) | (with_reducible refine Below.alloc ?_ ?_ _) | (with_reducible refine below_drewN ?_ _) | (with_reducible refine Below.drew ?_) | (with_reducible refine Below.setCell ?_ ?_ _) | (with_reducible exact Nat.le_refl _) | (with_reducible refine ext_le _ _ ?_) | (with_reducible refine le_alloc ?_ _) | (with_reducible refine le_set ?_ _ _) | (with_reducible refine le_drew ?_) | (with_reducible refine le_drewN ?_ _) | (simp; done) | (simp; omega) | omega)); done))
            | ((repeat' (first | (with_reducible exact heap_alloc_new _ _) | (with_reducible refine (ext_block _ _ ?_).trans ?_) | (with_reducible refine (Below.heap_alloc _ _ _ ?_).trans ?_) | (with_reducible refine ext_lt _ _ ?_) | (simp; done) | (simp; omega) | (exact heap_alloc_new _ _))); done)
        case rest =>
          obtain ⟨q3, A3, c3, rfl, rfl, rfl, I3⟩ := hcut
          have L3a := L2.out.grow I3.out.1
          have hs3 := I3.out.2.1
          have ho3 := Lib.hid I3.out.2.2
          clear L2 I3 BW ZW
          have L3 := Lib.hid L3a; clear L3a
          have BW := L3.out.l.old
          have ZW := L3.out.l.old.size
          obtain ⟨p0, p1, p2, _, _, _⟩ := row3 L3.out.s1
          obtain ⟨r0, r1, r2, _, _, _⟩ := row3 hs3
          have zq1 := lt_of_block L3.out.s1
          have zq2 := lt_of_block hs3
          clear hs3
          go_wp2_with (first
            | (go_at_call 45; refine (HES _).mono ?_; rintro e w' ⟨rfl, x, rfl⟩)
            | (go_at_call 16; refine (HEF _ _ _ _ _ (ho3.out.rd.below (by (repeat' (first | (with_reducible exact Below.refl _ _) | (with_reducible assumption) | (with_reducible refine below_ext' ?_ ?_) | (with_reducible refine Below.alloc ?_ ?_ _) | (with_reducible refine below_drewN ?_ _) | (with_reducible refine Below.drew ?_) | (with_reducible refine Below.setCell ?_ ?_ _) | (with_reducible exact Nat.le_refl _) | (with_reducible refine ext_le _ _ ?_) | (with_reducible refine le_alloc ?_ _) | (with_reducible refine le_set ?_ _ _) | (with_reducible refine le_drew ?_) | (with_reducible refine le_drewN ?_ _) | (simp; done) | (simp; omega) | omega)))) ((L3.out.grow (by (repeat' (first | (with_reducible exact Below.refl _ _) | (with_reducible assumption) | (with_reducible refine below_ext' ?_ ?_) | (with_reducible refine Below.alloc ?_ ?_ _) | (with_reducible refine below_drewN ?_ _) | (with_reducible refine Below.drew ?_) | (with_reducible refine Below.setCell ?_ ?_ _) | (with_reducible exact Nat.le_refl _) | (with_reducible refine ext_le _ _ ?_) | (with_reducible refine le_alloc ?_ _) | (with_reducible refine le_set ?_ _ _) | (with_reducible refine le_drew ?_) | (with_reducible refine le_drewN ?_ _) | (simp; done) | (simp; omega) | omega)))).a1.rd)).mono ?_; rintro e w' ⟨rfl, x, rfl⟩)
            | (go_at_call 42; refine (HHF _ _ _ (L3.out.grow (by (repeat' (first | (with_reducible exact Below.refl _ _) | (with_reducible assumption) | (with_reducible refine below_ext' ?_ ?_) | (with_reducible refine Below.alloc ?_ ?_ _) | (with_reducible refine below_drewN ?_ _) | (with_reducible refine Below.drew ?_) | (with_reducible refine Below.setCell ?_ ?_ _) | (with_reducible exact Nat.le_refl _) | (with_reducible refine ext_le _ _ ?_) | (with_reducible refine le_alloc ?_ _) | (with_reducible refine le_set ?_ _ _) | (with_reducible refine le_drew ?_) | (with_reducible refine le_drewN ?_ _) | (simp; done) | (simp; omega) | omega)))).a2.rd).mono ?_; rintro e w' ⟨rfl, rfl⟩))
          go_ret
          exact ⟨rfl, ex_of (by (repeat' (first | (with_reducible exact Below.refl _ _) | (with_reducible assumption) | (with_reducible refine below_ext' ?_ ?_) | (with_reducible refine Below.alloc ?_ ?_ _) | (with_reducible refine below_drewN ?_ _) | (with_reducible refine Below.drew ?_) | (with_reducible refine Below.setCell ?_ ?_ _) | (with_reducible exact Nat.le_refl _) | (with_reducible refine ext_le _ _ ?_) | (with_reducible refine le_alloc ?_ _) | (with_reducible refine le_set ?_ _ _) | (with_reducible refine le_drew ?_) | (with_reducible refine le_drewN ?_ _) | (simp; done) | (simp; omega) | omega)))⟩
end Go.Proofs.Ytbelopcfmjgfiaa
