/- The law FnExactRaisedIn, walked: it answers true. No condition. -/
import Derived.Test.YtbelopcfmjgfiaaLawTick
import Derived.Deep.RegionHeld3
import Derived.Deep.DrawnRows
namespace Go.Proofs.Ytbelopcfmjgfiaa
open Go Go.RowKit Go.BigFrame
attribute [local go_sem] binOp_flt binOp_fgt binOp_feq binOp_fne binOp_fle binOp_fge faRes_some run_fadd run_fsub run_fmul run_fdiv run_ofI run_store_float run_neg run_min1 ext_cell ext_frozen ext_lt ext_setCell ext_drew ext_drewN
set_option maxRecDepth 100000 in
set_option maxHeartbeats 8000000 in
theorem FnExactRaisedIn_any (R : Rn) (sl ti : Int) (A : Option Addr) (n c : Nat) (hS : Small n R.T) (hn : n ≤ 9223372036854775807) (hw : R.wd < 4294967296) (hg : R.gp < 4294967296) (F : Fits R.st R.de R.ca sl ti R.s0) (w : World) (hT : RdT w A n R.T) :
    Calls Try.prog 4 #[.agg #[.float .f32 R.lo, .float .f32 R.hi, .float .f32 R.wi, .int .i8 R.st, .int .i8 R.de, .int .i8 R.ca], .agg #[.int .i8 sl, .float .f32 R.wd, .float .f32 R.gp, .int .i16 ti, .float .f32 R.sh], R.s0.v, .slice A n c] w fun e w' => e = .returned (.bool true) ∧ ∃ x, w' = ext w x := by
  have I0 := Lib.hid (l_start (R := R) (sl := sl) (ti := ti) (w := w))
  have HT := Lib.hid hT
  have HZ := fun W => szTickS_any A n c 1048576 hn (by omega) (by omega) W
  by_cases hbig : 1048576 < n
  · have hz : (1048576 : Int) < (n : Int) := by omega
    rw [if_pos hz] at HZ
    clear hS hw hg F hT
    unfold St.v
    go_enter Try.func4, Try.ntmps4
    go_wp2_with (go_at_call 20; refine (HZ _).mono ?_; rintro e w' ⟨rfl, rfl⟩)
    go_ret
    exact ⟨rfl, ex_of I0.out.old⟩
  · have hz : ¬ (1048576 : Int) < (n : Int) := by omega
    have hz2 : ¬ (1048576 : Int) - (n : Int) < 0 := by omega
    have hn1 : n ≤ 1048576 := by omega
    rw [if_neg hz] at HZ
    have HRS := fun (c' : Nat) (B : Option Addr) W hW => RaisedInS_any R sl ti B n c' hS hn hw hg F W hW
    have HRI := fun (c' : Nat) (B : Option Addr) W hW => RaisedIn_any R sl ti B n c' hS hn hw hg F W hW
    have HEQ := fun (B B' : Option Addr) (c1 c2 : Nat) W h1 h2 => eqTickS_any B B' n c1 c2 R.T hn1 W h1 h2
    have HTS := fun (B : Option Addr) (c1 : Nat) W h1 => toTickS_x B n c1 R.T hn1 W h1
    have HC := fun W => toControl_any R.lo R.hi R.wi R.st R.de R.ca W
    have HB := fun W => toBlind_any sl R.wd R.gp ti R.sh W
    have HSt := fun W => toState_any R.s0.ti R.s0.wa R.s0.sm W
    clear hS hw hg F hT
    unfold St.v at HRS HRI ⊢
    generalize (if R.ask sl ti n = 0 then ((R.many n : Nat) : Int) else 0) = a1 at HRS HRI
    generalize R.ask sl ti n = a2 at HRS HRI
    go_enter Try.func4, Try.ntmps4
    go_wp2_with (go_at_call 20; refine (HZ _).mono ?_; rintro e w' ⟨rfl, rfl⟩)
    go_cut [10, 11] from 12 to 58 (fun s10 s11 wx => s10 = .int .i64 a1 ∧ s11 = .int .i64 a2 ∧ Aside (LInv R sl ti w wx))
    case first =>
      have J := I0.out
      unfold lW at J
      generalize ((w.alloc (.cells #[.float .f32 R.lo, .float .f32 R.hi, .float .f32 R.wi, .int .i8 R.st, .int .i8 R.de, .int .i8 R.ca] 37)).alloc (.cells #[.int .i8 sl, .float .f32 R.wd, .float .f32 R.gp, .int .i16 ti, .float .f32 R.sh] 40)).alloc (.cells #[.int .i16 R.s0.ti, .int .i8 R.s0.wa, .int .i8 R.s0.sm] 42) = W0 at J ⊢
      clear I0
      have BW := J.old
      have ZW := J.old.size
      have HJ := Lib.hid J; clear J
      go_region_held3 (fun w' : World => w'.cell? ⟨w.heap.size, 0, none⟩ = some (.float .f32 R.lo) ∧ w'.cell? ⟨w.heap.size, 1, none⟩ = some (.float .f32 R.hi) ∧ w'.cell? ⟨w.heap.size, 2, none⟩ = some (.float .f32 R.wi) ∧ w'.cell? ⟨w.heap.size, 3, none⟩ = some (.int .i8 R.st) ∧ w'.cell? ⟨w.heap.size, 4, none⟩ = some (.int .i8 R.de) ∧ w'.cell? ⟨w.heap.size, 5, none⟩ = some (.int .i8 R.ca) ∧ w'.cell? ⟨w.heap.size + 1, 0, none⟩ = some (.int .i8 sl) ∧ w'.cell? ⟨w.heap.size + 1, 1, none⟩ = some (.float .f32 R.wd) ∧ w'.cell? ⟨w.heap.size + 1, 2, none⟩ = some (.float .f32 R.gp) ∧ w'.cell? ⟨w.heap.size + 1, 3, none⟩ = some (.int .i16 ti) ∧ w'.cell? ⟨w.heap.size + 1, 4, none⟩ = some (.float .f32 R.sh) ∧ w'.cell? ⟨w.heap.size + 1 + 1, 0, none⟩ = some (.int .i16 R.s0.ti) ∧ w'.cell? ⟨w.heap.size + 1 + 1, 1, none⟩ = some (.int .i8 R.s0.wa) ∧ w'.cell? ⟨w.heap.size + 1 + 1, 2, none⟩ = some (.int .i8 R.s0.sm)) (exact (LInv.grow HJ.out (by (repeat' (first | (with_reducible exact Below.refl _ _) | (with_reducible assumption) | (with_reducible refine below_ext' ?_ ?_) | (with_reducible refine Below.alloc ?_ ?_ _) | (with_reducible refine below_drewN ?_ _) | (with_reducible refine Below.drew ?_) | (with_reducible refine Below.setCell ?_ ?_ _) | (with_reducible exact Nat.le_refl _) | (with_reducible refine ext_le _ _ ?_) | (simp; done) | (simp; omega) | omega)))).cells) (first
        | (go_at_call 22; refine (HC _).mono ?_; rintro e w' ⟨rfl, x, rfl⟩)
        | (go_at_call 23; refine (HB _).mono ?_; rintro e w' ⟨rfl, x, rfl⟩)
        | (go_at_call 24; refine (HSt _).mono ?_; rintro e w' ⟨rfl, x, rfl⟩)
        | (go_at_call 25; refine (HTS _ _ _ (HT.out.below (by (repeat' (first | (with_reducible exact Below.refl _ _) | (with_reducible assumption) | (with_reducible refine below_ext' ?_ ?_) | (with_reducible refine Below.alloc ?_ ?_ _) | (with_reducible refine below_drewN ?_ _) | (with_reducible refine Below.drew ?_) | (with_reducible refine Below.setCell ?_ ?_ _) | (with_reducible exact Nat.le_refl _) | (with_reducible refine ext_le _ _ ?_) | (simp; done) | (simp; omega) | omega))))).mono ?_; rintro e w' ⟨g, x, rfl, rfl, ho⟩)
        | (go_at_call 21; refine (HRS _ _ _ ho.out.2.2.1).mono ?_; rintro e w' ⟨rfl, x, rfl⟩))
      go_wp2_with fail
      go_meet
      exact ⟨rfl, rfl, (show Aside _ from HJ.out.grow (by (repeat' (first | (with_reducible exact Below.refl _ _) | (with_reducible assumption) | (with_reducible refine below_ext' ?_ ?_) | (with_reducible refine Below.alloc ?_ ?_ _) | (with_reducible refine below_drewN ?_ _) | (with_reducible refine Below.drew ?_) | (with_reducible refine Below.setCell ?_ ?_ _) | (with_reducible exact Nat.le_refl _) | (with_reducible refine ext_le _ _ ?_) | (simp; done) | (simp; omega) | omega))))⟩
    case rest =>
      obtain ⟨rfl, rfl, I1⟩ := hcut
      clear I0
      have BW := I1.out.old
      have ZW := I1.out.old.size
      go_wp2_with (go_at_call 25; refine (HTS _ _ _ (HT.out.below (by (repeat' (first | (with_reducible exact Below.refl _ _) | (with_reducible assumption) | (with_reducible refine below_ext' ?_ ?_) | (with_reducible refine Below.alloc ?_ ?_ _) | (with_reducible refine below_drewN ?_ _) | (with_reducible refine Below.drew ?_) | (with_reducible refine Below.setCell ?_ ?_ _) | (with_reducible exact Nat.le_refl _) | (with_reducible refine ext_le _ _ ?_) | (simp; done) | (simp; omega) | omega))))).mono ?_; rintro e w' ⟨g, x, rfl, rfl, ho⟩)
      have I2 := Lib.hid (I1.out.grow (below_ext wc x))
      go_cut [13, 14] from 34 to 58 (fun s13 s14 wy => s13 = .int .i64 a1 ∧ s14 = .int .i64 a2 ∧ Aside (LInv R sl ti w wy ∧ RdT wy (some ⟨g, 0, none⟩) n R.T))
      case first =>
        have J := I2.out
        have O := Lib.hid ho.out.2.2.1
        clear ho I1 I2 BW ZW
        generalize ext wc x = W0 at J O ⊢
        have BW := J.old
        have ZW := J.old.size
        have HJ := Lib.hid J; clear J
        go_region_held3 (fun w' : World => w'.cell? ⟨w.heap.size, 0, none⟩ = some (.float .f32 R.lo) ∧ w'.cell? ⟨w.heap.size, 1, none⟩ = some (.float .f32 R.hi) ∧ w'.cell? ⟨w.heap.size, 2, none⟩ = some (.float .f32 R.wi) ∧ w'.cell? ⟨w.heap.size, 3, none⟩ = some (.int .i8 R.st) ∧ w'.cell? ⟨w.heap.size, 4, none⟩ = some (.int .i8 R.de) ∧ w'.cell? ⟨w.heap.size, 5, none⟩ = some (.int .i8 R.ca) ∧ w'.cell? ⟨w.heap.size + 1, 0, none⟩ = some (.int .i8 sl) ∧ w'.cell? ⟨w.heap.size + 1, 1, none⟩ = some (.float .f32 R.wd) ∧ w'.cell? ⟨w.heap.size + 1, 2, none⟩ = some (.float .f32 R.gp) ∧ w'.cell? ⟨w.heap.size + 1, 3, none⟩ = some (.int .i16 ti) ∧ w'.cell? ⟨w.heap.size + 1, 4, none⟩ = some (.float .f32 R.sh) ∧ w'.cell? ⟨w.heap.size + 1 + 1, 0, none⟩ = some (.int .i16 R.s0.ti) ∧ w'.cell? ⟨w.heap.size + 1 + 1, 1, none⟩ = some (.int .i8 R.s0.wa) ∧ w'.cell? ⟨w.heap.size + 1 + 1, 2, none⟩ = some (.int .i8 R.s0.sm)) (exact (LInv.grow HJ.out (by (repeat' (first | (with_reducible exact Below.refl _ _) | (with_reducible assumption) | (with_reducible refine below_ext' ?_ ?_) | (with_reducible refine Below.alloc ?_ ?_ _) | (with_reducible refine below_drewN ?_ _) | (with_reducible refine Below.drew ?_) | (with_reducible refine Below.setCell ?_ ?_ _) | (with_reducible exact Nat.le_refl _) | (with_reducible refine ext_le _ _ ?_) | (simp; done) | (simp; omega) | omega)))).cells) (first
          | (go_at_call 22; refine (HC _).mono ?_; rintro e w' ⟨rfl, x, rfl⟩)
          | (go_at_call 23; refine (HB _).mono ?_; rintro e w' ⟨rfl, x, rfl⟩)
          | (go_at_call 24; refine (HSt _).mono ?_; rintro e w' ⟨rfl, x, rfl⟩)
          | (go_at_call 26; refine (HRI _ _ _ (O.out.below (by (repeat' (first | (with_reducible exact Below.refl _ _) | (with_reducible assumption) | (with_reducible refine below_ext' ?_ ?_) | (with_reducible refine Below.alloc ?_ ?_ _) | (with_reducible refine below_drewN ?_ _) | (with_reducible refine Below.drew ?_) | (with_reducible refine Below.setCell ?_ ?_ _) | (with_reducible exact Nat.le_refl _) | (with_reducible refine ext_le _ _ ?_) | (simp; done) | (simp; omega) | omega))))).mono ?_; rintro e w' ⟨rfl, x, rfl⟩))
        go_wp2_with fail
        go_meet
        exact ⟨rfl, rfl, (show Aside _ from ⟨HJ.out.grow (by (repeat' (first | (with_reducible exact Below.refl _ _) | (with_reducible assumption) | (with_reducible refine below_ext' ?_ ?_) | (with_reducible refine Below.alloc ?_ ?_ _) | (with_reducible refine below_drewN ?_ _) | (with_reducible refine Below.drew ?_) | (with_reducible refine Below.setCell ?_ ?_ _) | (with_reducible exact Nat.le_refl _) | (with_reducible refine ext_le _ _ ?_) | (simp; done) | (simp; omega) | omega))), O.out.below (by (repeat' (first | (with_reducible exact Below.refl _ _) | (with_reducible assumption) | (with_reducible refine below_ext' ?_ ?_) | (with_reducible refine Below.alloc ?_ ?_ _) | (with_reducible refine below_drewN ?_ _) | (with_reducible refine Below.drew ?_) | (with_reducible refine Below.setCell ?_ ?_ _) | (with_reducible exact Nat.le_refl _) | (with_reducible refine ext_le _ _ ?_) | (simp; done) | (simp; omega) | omega)))⟩)⟩
      case rest =>
        obtain ⟨rfl, rfl, I3⟩ := hcut
        clear I1 I2 ho BW ZW
        have BW := I3.out.1.old
        have ZW := I3.out.1.old.size
        go_wp2_with (first
          | (go_at_call 25; refine (HTS _ _ _ (HT.out.below (by (repeat' (first | (with_reducible exact Below.refl _ _) | (with_reducible assumption) | (with_reducible refine below_ext' ?_ ?_) | (with_reducible refine Below.alloc ?_ ?_ _) | (with_reducible refine below_drewN ?_ _) | (with_reducible refine Below.drew ?_) | (with_reducible refine Below.setCell ?_ ?_ _) | (with_reducible exact Nat.le_refl _) | (with_reducible refine ext_le _ _ ?_) | (simp; done) | (simp; omega) | omega))))).mono ?_; rintro e w' ⟨g2, x2, rfl, rfl, ho⟩)
          | (go_at_call 27; refine (HEQ _ _ _ _ _ (I3.out.2.below (below_ext _ _)) ho.out.2.2.1).mono ?_; rintro e w' ⟨rfl, x3, rfl⟩))
        go_ret
        exact ⟨rfl, ex_of (by (repeat' (first | (with_reducible exact Below.refl _ _) | (with_reducible assumption) | (with_reducible refine below_ext' ?_ ?_) | (with_reducible refine Below.alloc ?_ ?_ _) | (with_reducible refine below_drewN ?_ _) | (with_reducible refine Below.drew ?_) | (with_reducible refine Below.setCell ?_ ?_ _) | (with_reducible exact Nat.le_refl _) | (with_reducible refine ext_le _ _ ?_) | (simp; done) | (simp; omega) | omega)))⟩
end Go.Proofs.Ytbelopcfmjgfiaa
