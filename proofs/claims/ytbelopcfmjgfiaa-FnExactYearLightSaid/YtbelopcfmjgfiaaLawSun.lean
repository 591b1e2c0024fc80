/- The laws FnExactBestMonth, FnExactYearFacing, walked: they answer true. No condition. -/
import Derived.Test.YtbelopcfmjgfiaaSunE
import Derived.Test.YtbelopcfmjgfiaaEqTick
import Derived.Test.YtbelopcfmjgfiaaYear5
import Derived.Test.YtbelopcfmjgfiaaYear7
import Derived.Deep.RegionWith
namespace Go.Proofs.Ytbelopcfmjgfiaa
open Go Go.RowKit Go.BigFrame
attribute [local go_sem] binOp_flt binOp_fgt binOp_feq binOp_fne binOp_fle binOp_fge faRes_some run_fadd run_fsub run_fmul run_fdiv run_ofI run_store_float run_neg run_min1 ext_cell ext_frozen ext_lt ext_setCell ext_drew ext_drewN
/-- The box of a law's blind. -/
structure BInv (Y : Yr) (w wr : World) : Prop where
  old : Below w.heap.size w wr
  b : wr.heap[w.heap.size]? = some (.cells #[.int .i8 Y.sl, .float .f32 Y.wd, .float .f32 Y.gp, .int .i16 Y.ti, .float .f32 Y.sh] 40 (0, 0))
theorem BInv.grow {Y : Yr} {w wr W : World} (h : BInv Y w wr) (hb : Below wr.heap.size wr W) : BInv Y w W :=
  ⟨below_step h.old hb, (hb.block _ (size_of_heap h.b)).trans h.b⟩
theorem b_start (Y : Yr) (w : World) : BInv Y w (w.alloc (.cells #[.int .i8 Y.sl, .float .f32 Y.wd, .float .f32 Y.gp, .int .i16 Y.ti, .float .f32 Y.sh] 40)) := ⟨(Below.refl _ _).alloc (Nat.le_refl _) _, heap_alloc_new _ _⟩
set_option maxRecDepth 100000 in
set_option maxHeartbeats 8000000 in
theorem FnExactBestMonth_any (Y : Yr) (fc : Int) (A : Option Addr) (n c : Nat) (F : Y.Fits n) (hn : n ≤ 9223372036854775807) (w : World) (hS : RdS w A n Y.S) :
    Calls Try.prog 5 #[.agg #[.int .i8 Y.sl, .float .f32 Y.wd, .float .f32 Y.gp, .int .i16 Y.ti, .float .f32 Y.sh], .slice A n c, .int .i64 fc] w fun e w' => e = .returned (.bool true) ∧ ∃ x, w' = ext w x := by
  have I0 := Lib.hid (b_start Y w)
  have HS := Lib.hid hS
  have HZ := fun W => szSunS_any A n c 1048576 hn (by omega) (by omega) W
  by_cases hbig : 1048576 < n
  · have hz : (1048576 : Int) < (n : Int) := by omega
    rw [if_pos hz] at HZ
    clear F hS
    go_enter Try.func5, Try.ntmps5
    go_wp2_with (go_at_call 28; refine (HZ _).mono ?_; rintro e w' ⟨rfl, rfl⟩)
    go_ret
    exact ⟨rfl, ex_of I0.out.old⟩
  · have hz : ¬ (1048576 : Int) < (n : Int) := by omega
    have hz2 : ¬ (1048576 : Int) - (n : Int) < 0 := by omega
    have hn1 : n ≤ 1048576 := by omega
    rw [if_neg hz] at HZ
    have HRS := fun (c' : Nat) (B : Option Addr) W hW => BestMonthS_any Y fc B n c' F hn W hW
    have HRI := fun (c' : Nat) (B : Option Addr) W hW => BestMonth_any Y fc B n c' F hn W hW
    have HEQ := fun (B B' : Option Addr) (c1 c2 : Nat) W h1 h2 => eqSunS_any B B' n c1 c2 Y.S hn1 W h1 h2
    have HTS := fun (B : Option Addr) (c1 : Nat) W h1 => toSunS_x B n c1 Y.S hn1 W h1
    have HB := fun W => toBlind_any Y.sl Y.wd Y.gp Y.ti Y.sh W
    have HN := Lib.hid (fun x y W1 W2 W => sameFloat_nan (nanOf x W1) (nanOf y W2) (dne_nanOf x W1) (dne_nanOf y W2) W)
    clear F hS
    unfold BestAns at HRS HRI; generalize (Y.best n fc).1 = a1 at HRS HRI; generalize (Y.best n fc).2 = b2 at HRS HRI; generalize Y.code n (inB fc 0 255) = a3 at HRS HRI
    go_enter Try.func5, Try.ntmps5
    go_upto_region 5 with (go_at_call 28; refine (HZ _).mono ?_; rintro e w' ⟨rfl, rfl⟩)
    have BW := I0.out.old
    have ZW := I0.out.old.size
    obtain ⟨p0, p1, p2, p3, p4⟩ := row5b I0.out.b
    have zb := size_of_heap I0.out.b
    generalize w.alloc (.cells #[.int .i8 Y.sl, .float .f32 Y.wd, .float .f32 Y.gp, .int .i16 Y.ti, .float .f32 Y.sh] 40) = W0 at I0 BW ZW p0 p1 p2 p3 p4 zb ⊢
    go_upto_region 6 with (first
      | (go_at_call 23; refine (HB _).mono ?_; rintro e w' ⟨rfl, x, rfl⟩)
      | (go_at_call 30; refine (HTS _ _ _ (HS.out.below (by (repeat' (first | (with_reducible exact Below.refl _ _) | (with_reducible assumption) | (with_reducible refine below_ext' ?_ ?_) | (with_reducible refine Below.alloc ?_ ?_ _) | (with_reducible refine below_drewN ?_ _) | (with_reducible refine Below.drew ?_) | (with_reducible refine Below.setCell ?_ ?_ _) | (with_reducible exact Nat.le_refl _) | (with_reducible refine ext_le _ _ ?_) | (with_reducible refine le_alloc ?_ _) | (with_reducible refine le_set ?_ _ _) | (with_reducible refine le_drew ?_) | (with_reducible refine le_drewN ?_ _) | (simp; done) | (simp; omega) | omega))))).mono ?_; rintro e w' ⟨g, x1, rfl, rfl, ho⟩)
      | (go_at_call 29; refine (HRS _ _ _ ho.out.2.2.1).mono ?_; rintro e w' ⟨rfl, x2, rfl⟩))
    have I5 := Lib.hid (((I0.out.grow (below_ext _ x)).grow (below_ext _ x1)).grow (below_ext _ x2))
    clear I0 BW ZW p0 p1 p2 p3 p4 zb ho
    generalize ext (ext (ext W0 x) x1) x2 = W5 at I5 ⊢
    go_upto_region 7 with (go_at_call 30; refine (HTS _ _ _ (HS.out.below I5.out.old)).mono ?_; rintro e w' ⟨gx, x3, rfl, rfl, ho⟩)
    have I6 := Lib.hid (I5.out.grow (below_ext _ x3))
    have D6 := Lib.hid ho.out.2.2.1
    clear I5 ho
    generalize ext W5 x3 = W6 at I6 D6 ⊢
    have BW := I6.out.old
    have ZW := I6.out.old.size
    obtain ⟨p0, p1, p2, p3, p4⟩ := row5b I6.out.b
    have zb := size_of_heap I6.out.b
    go_upto_region 8 with (first
      | (go_at_call 23; refine (HB _).mono ?_; rintro e w' ⟨rfl, x4, rfl⟩)
      | (go_at_call 31; refine (HRI _ _ _ (D6.out.below (by (repeat' (first | (with_reducible exact Below.refl _ _) | (with_reducible assumption) | (with_reducible refine below_ext' ?_ ?_) | (with_reducible refine Below.alloc ?_ ?_ _) | (with_reducible refine below_drewN ?_ _) | (with_reducible refine Below.drew ?_) | (with_reducible refine Below.setCell ?_ ?_ _) | (with_reducible exact Nat.le_refl _) | (with_reducible refine ext_le _ _ ?_) | (with_reducible refine le_alloc ?_ _) | (with_reducible refine le_set ?_ _ _) | (with_reducible refine le_drew ?_) | (with_reducible refine le_drewN ?_ _) | (simp; done) | (simp; omega) | omega))))).mono ?_; rintro e w' ⟨rfl, x5, rfl⟩))
    have I7 := Lib.hid ((I6.out.grow (below_ext _ x4)).grow (below_ext _ x5))
    have D7 := Lib.hid (((D6.out.below (below_ext _ x4))).below (below_ext _ x5))
    clear I6 D6 BW ZW p0 p1 p2 p3 p4 zb
    generalize ext (ext W6 x4) x5 = W7 at I7 D7 ⊢
    have BW := I7.out.old
    have ZW := I7.out.old.size
    rcases wide_cases b2 with ⟨_, c1⟩ | ⟨r1, q1, d1, v1, c1⟩
    · go_wp2_with (first
        | (go_at_call 15; refine (HN.out _ _ _ _ _).mono ?_; rintro e w' ⟨rfl, rfl⟩)
        | (go_at_call 30; refine (HTS _ _ _ (HS.out.below (by (repeat' (first | (with_reducible exact Below.refl _ _) | (with_reducible assumption) | (with_reducible refine below_ext' ?_ ?_) | (with_reducible refine Below.alloc ?_ ?_ _) | (with_reducible refine below_drewN ?_ _) | (with_reducible refine Below.drew ?_) | (with_reducible refine Below.setCell ?_ ?_ _) | (with_reducible exact Nat.le_refl _) | (with_reducible refine ext_le _ _ ?_) | (with_reducible refine le_alloc ?_ _) | (with_reducible refine le_set ?_ _ _) | (with_reducible refine le_drew ?_) | (with_reducible refine le_drewN ?_ _) | (simp; done) | (simp; omega) | omega))))).mono ?_; rintro e w' ⟨g2, x6, rfl, rfl, ho⟩)
        | (go_at_call 32; refine (HEQ _ _ _ _ _ (D7.out.below (by (repeat' (first | (with_reducible exact Below.refl _ _) | (with_reducible assumption) | (with_reducible refine below_ext' ?_ ?_) | (with_reducible refine Below.alloc ?_ ?_ _) | (with_reducible refine below_drewN ?_ _) | (with_reducible refine Below.drew ?_) | (with_reducible refine Below.setCell ?_ ?_ _) | (with_reducible exact Nat.le_refl _) | (with_reducible refine ext_le _ _ ?_) | (with_reducible refine le_alloc ?_ _) | (with_reducible refine le_set ?_ _ _) | (with_reducible refine le_drew ?_) | (with_reducible refine le_drewN ?_ _) | (simp; done) | (simp; omega) | omega)))) ho.out.2.2.1).mono ?_; rintro e w' ⟨rfl, x7, rfl⟩))
      go_ret
      exact ⟨rfl, ex_of (by (repeat' (first | (with_reducible exact Below.refl _ _) | (with_reducible assumption) | (with_reducible refine below_ext' ?_ ?_) | (with_reducible refine Below.alloc ?_ ?_ _) | (with_reducible refine below_drewN ?_ _) | (with_reducible refine Below.drew ?_) | (with_reducible refine Below.setCell ?_ ?_ _) | (with_reducible exact Nat.le_refl _) | (with_reducible refine ext_le _ _ ?_) | (with_reducible refine le_alloc ?_ _) | (with_reducible refine le_set ?_ _ _) | (with_reducible refine le_drew ?_) | (with_reducible refine le_drewN ?_ _) | (simp; done) | (simp; omega) | omega)))⟩
    · have H1 := Lib.hid (sameFloat_same r1 q1 d1 (fun _ => v1)); clear d1 v1
      go_wp2_with (first
        | (go_at_call 15; refine (H1.out _).mono ?_; rintro e w' ⟨rfl, rfl⟩)
        | (go_at_call 30; refine (HTS _ _ _ (HS.out.below (by (repeat' (first | (with_reducible exact Below.refl _ _) | (with_reducible assumption) | (with_reducible refine below_ext' ?_ ?_) | (with_reducible refine Below.alloc ?_ ?_ _) | (with_reducible refine below_drewN ?_ _) | (with_reducible refine Below.drew ?_) | (with_reducible refine Below.setCell ?_ ?_ _) | (with_reducible exact Nat.le_refl _) | (with_reducible refine ext_le _ _ ?_) | (with_reducible refine le_alloc ?_ _) | (with_reducible refine le_set ?_ _ _) | (with_reducible refine le_drew ?_) | (with_reducible refine le_drewN ?_ _) | (simp; done) | (simp; omega) | omega))))).mono ?_; rintro e w' ⟨g2, x6, rfl, rfl, ho⟩)
        | (go_at_call 32; refine (HEQ _ _ _ _ _ (D7.out.below (by (repeat' (first | (with_reducible exact Below.refl _ _) | (with_reducible assumption) | (with_reducible refine below_ext' ?_ ?_) | (with_reducible refine Below.alloc ?_ ?_ _) | (with_reducible refine below_drewN ?_ _) | (with_reducible refine Below.drew ?_) | (with_reducible refine Below.setCell ?_ ?_ _) | (with_reducible exact Nat.le_refl _) | (with_reducible refine ext_le _ _ ?_) | (with_reducible refine le_alloc ?_ _) | (with_reducible refine le_set ?_ _ _) | (with_reducible refine le_drew ?_) | (with_reducible refine le_drewN ?_ _) | (simp; done) | (simp; omega) | omega)))) ho.out.2.2.1).mono ?_; rintro e w' ⟨rfl, x7, rfl⟩))
      go_ret
      exact ⟨rfl, ex_of (by (repeat' (first | (with_reducible exact Below.refl _ _) | (with_reducible assumption) | (with_reducible refine below_ext' ?_ ?_) | (with_reducible refine Below.alloc ?_ ?_ _) | (with_reducible refine below_drewN ?_ _) | (with_reducible refine Below.drew ?_) | (with_reducible refine Below.setCell ?_ ?_ _) | (with_reducible exact Nat.le_refl _) | (with_reducible refine ext_le _ _ ?_) | (with_reducible refine le_alloc ?_ _) | (with_reducible refine le_set ?_ _ _) | (with_reducible refine le_drew ?_) | (with_reducible refine le_drewN ?_ _) | (simp; done) | (simp; omega) | omega)))⟩
set_option maxRecDepth 100000 in
set_option maxHeartbeats 8000000 in
theorem FnExactYearFacing_any (Y : Yr) (fc : Int) (A : Option Addr) (n c : Nat) (F : Y.Fits n) (hn : n ≤ 9223372036854775807) (w : World) (hS : RdS w A n Y.S) :
    Calls Try.prog 6 #[.agg #[.int .i8 Y.sl, .float .f32 Y.wd, .float .f32 Y.gp, .int .i16 Y.ti, .float .f32 Y.sh], .slice A n c, .int .i64 fc] w fun e w' => e = .returned (.bool true) ∧ ∃ x, w' = ext w x := by
  have I0 := Lib.hid (b_start Y w)
  have HS := Lib.hid hS
  have HZ := fun W => szSunS_any A n c 1048576 hn (by omega) (by omega) W
  by_cases hbig : 1048576 < n
  · have hz : (1048576 : Int) < (n : Int) := by omega
    rw [if_pos hz] at HZ
    clear F hS
    go_enter Try.func6, Try.ntmps6
    go_wp2_with (go_at_call 28; refine (HZ _).mono ?_; rintro e w' ⟨rfl, rfl⟩)
    go_ret
    exact ⟨rfl, ex_of I0.out.old⟩
  · have hz : ¬ (1048576 : Int) < (n : Int) := by omega
    have hz2 : ¬ (1048576 : Int) - (n : Int) < 0 := by omega
    have hn1 : n ≤ 1048576 := by omega
    rw [if_neg hz] at HZ
    have HRS := fun (c' : Nat) (B : Option Addr) W hW => YearFacingS_any Y fc B n c' F hn W hW
    have HRI := fun (c' : Nat) (B : Option Addr) W hW => YearFacing_any Y fc B n c' F hn W hW
    have HEQ := fun (B B' : Option Addr) (c1 c2 : Nat) W h1 h2 => eqSunS_any B B' n c1 c2 Y.S hn1 W h1 h2
    have HTS := fun (B : Option Addr) (c1 : Nat) W h1 => toSunS_x B n c1 Y.S hn1 W h1
    have HB := fun W => toBlind_any Y.sl Y.wd Y.gp Y.ti Y.sh W
    have HN := Lib.hid (fun x y W1 W2 W => sameFloat_nan (nanOf x W1) (nanOf y W2) (dne_nanOf x W1) (dne_nanOf y W2) W)
    clear F hS
    unfold FacingAns at HRS HRI; generalize (Y.bestFc n fc).1 = a1 at HRS HRI; generalize (Y.bestFc n fc).2 = b2 at HRS HRI; generalize Y.codeF n fc = a3 at HRS HRI
    go_enter Try.func6, Try.ntmps6
    go_upto_region 5 with (go_at_call 28; refine (HZ _).mono ?_; rintro e w' ⟨rfl, rfl⟩)
    have BW := I0.out.old
    have ZW := I0.out.old.size
    obtain ⟨p0, p1, p2, p3, p4⟩ := row5b I0.out.b
    have zb := size_of_heap I0.out.b
    generalize w.alloc (.cells #[.int .i8 Y.sl, .float .f32 Y.wd, .float .f32 Y.gp, .int .i16 Y.ti, .float .f32 Y.sh] 40) = W0 at I0 BW ZW p0 p1 p2 p3 p4 zb ⊢
    go_upto_region 6 with (first
      | (go_at_call 23; refine (HB _).mono ?_; rintro e w' ⟨rfl, x, rfl⟩)
      | (go_at_call 30; refine (HTS _ _ _ (HS.out.below (by (repeat' (first | (with_reducible exact Below.refl _ _) | (with_reducible assumption) | (with_reducible refine below_ext' ?_ ?_) | (with_reducible refine Below.alloc ?_ ?_ _) | (with_reducible refine below_drewN ?_ _) | (with_reducible refine Below.drew ?_) | (with_reducible refine Below.setCell ?_ ?_ _) | (with_reducible exact Nat.le_refl _) | (with_reducible refine ext_le _ _ ?_) | (with_reducible refine le_alloc ?_ _) | (with_reducible refine le_set ?_ _ _) | (with_reducible refine le_drew ?_) | (with_reducible refine le_drewN ?_ _) | (simp; done) | (simp; omega) | omega))))).mono ?_; rintro e w' ⟨g, x1, rfl, rfl, ho⟩)
      | (go_at_call 33; refine (HRS _ _ _ ho.out.2.2.1).mono ?_; rintro e w' ⟨rfl, x2, rfl⟩))
    have I5 := Lib.hid (((I0.out.grow (below_ext _ x)).grow (below_ext _ x1)).grow (below_ext _ x2))
    clear I0 BW ZW p0 p1 p2 p3 p4 zb ho
    generalize ext (ext (ext W0 x) x1) x2 = W5 at I5 ⊢
    go_upto_region 7 with (go_at_call 30; refine (HTS _ _ _ (HS.out.below I5.out.old)).mono ?_; rintro e w' ⟨gx, x3, rfl, rfl, ho⟩)
    have I6 := Lib.hid (I5.out.grow (below_ext _ x3))
    have D6 := Lib.hid ho.out.2.2.1
    clear I5 ho
    generalize ext W5 x3 = W6 at I6 D6 ⊢
    have BW := I6.out.old
    have ZW := I6.out.old.size
    obtain ⟨p0, p1, p2, p3, p4⟩ := row5b I6.out.b
    have zb := size_of_heap I6.out.b
    go_upto_region 8 with (first
      | (go_at_call 23; refine (HB _).mono ?_; rintro e w' ⟨rfl, x4, rfl⟩)
      | (go_at_call 34; refine (HRI _ _ _ (D6.out.below (by (repeat' (first | (with_reducible exact Below.refl _ _) | (with_reducible assumption) | (with_reducible refine below_ext' ?_ ?_) | (with_reducible refine Below.alloc ?_ ?_ _) | (with_reducible refine below_drewN ?_ _) | (with_reducible refine Below.drew ?_) | (with_reducible refine Below.setCell ?_ ?_ _) | (with_reducible exact Nat.le_refl _) | (with_reducible refine ext_le _ _ ?_) | (with_reducible refine le_alloc ?_ _) | (with_reducible refine le_set ?_ _ _) | (with_reducible refine le_drew ?_) | (with_reducible refine le_drewN ?_ _) | (simp; done) | (simp; omega) | omega))))).mono ?_; rintro e w' ⟨rfl, x5, rfl⟩))
    have I7 := Lib.hid ((I6.out.grow (below_ext _ x4)).grow (below_ext _ x5))
    have D7 := Lib.hid (((D6.out.below (below_ext _ x4))).below (below_ext _ x5))
    clear I6 D6 BW ZW p0 p1 p2 p3 p4 zb
    generalize ext (ext W6 x4) x5 = W7 at I7 D7 ⊢
    have BW := I7.out.old
    have ZW := I7.out.old.size
    rcases wide_cases b2 with ⟨_, c1⟩ | ⟨r1, q1, d1, v1, c1⟩
    · go_wp2_with (first
        | (go_at_call 15; refine (HN.out _ _ _ _ _).mono ?_; rintro e w' ⟨rfl, rfl⟩)
        | (go_at_call 30; refine (HTS _ _ _ (HS.out.below (by (repeat' (first | (with_reducible exact Below.refl _ _) | (with_reducible assumption) | (with_reducible refine below_ext' ?_ ?_) | (with_reducible refine Below.alloc ?_ ?_ _) | (with_reducible refine below_drewN ?_ _) | (with_reducible refine Below.drew ?_) | (with_reducible refine Below.setCell ?_ ?_ _) | (with_reducible exact Nat.le_refl _) | (with_reducible refine ext_le _ _ ?_) | (with_reducible refine le_alloc ?_ _) | (with_reducible refine le_set ?_ _ _) | (with_reducible refine le_drew ?_) | (with_reducible refine le_drewN ?_ _) | (simp; done) | (simp; omega) | omega))))).mono ?_; rintro e w' ⟨g2, x6, rfl, rfl, ho⟩)
        | (go_at_call 32; refine (HEQ _ _ _ _ _ (D7.out.below (by (repeat' (first | (with_reducible exact Below.refl _ _) | (with_reducible assumption) | (with_reducible refine below_ext' ?_ ?_) | (with_reducible refine Below.alloc ?_ ?_ _) | (with_reducible refine below_drewN ?_ _) | (with_reducible refine Below.drew ?_) | (with_reducible refine Below.setCell ?_ ?_ _) | (with_reducible exact Nat.le_refl _) | (with_reducible refine ext_le _ _ ?_) | (with_reducible refine le_alloc ?_ _) | (with_reducible refine le_set ?_ _ _) | (with_reducible refine le_drew ?_) | (with_reducible refine le_drewN ?_ _) | (simp; done) | (simp; omega) | omega)))) ho.out.2.2.1).mono ?_; rintro e w' ⟨rfl, x7, rfl⟩))
      go_ret
      exact ⟨rfl, ex_of (by (repeat' (first | (with_reducible exact Below.refl _ _) | (with_reducible assumption) | (with_reducible refine below_ext' ?_ ?_) | (with_reducible refine Below.alloc ?_ ?_ _) | (with_reducible refine below_drewN ?_ _) | (with_reducible refine Below.drew ?_) | (with_reducible refine Below.setCell ?_ ?_ _) | (with_reducible exact Nat.le_refl _) | (with_reducible refine ext_le _ _ ?_) | (with_reducible refine le_alloc ?_ _) | (with_reducible refine le_set ?_ _ _) | (with_reducible refine le_drew ?_) | (with_reducible refine le_drewN ?_ _) | (simp; done) | (simp; omega) | omega)))⟩
    · have H1 := Lib.hid (sameFloat_same r1 q1 d1 (fun _ => v1)); clear d1 v1
      go_wp2_with (first
        | (go_at_call 15; refine (H1.out _).mono ?_; rintro e w' ⟨rfl, rfl⟩)
        | (go_at_call 30; refine (HTS _ _ _ (HS.out.below (by (repeat' (first | (with_reducible exact Below.refl _ _) | (with_reducible assumption) | (with_reducible refine below_ext' ?_ ?_) | (with_reducible refine Below.alloc ?_ ?_ _) | (with_reducible refine below_drewN ?_ _) | (with_reducible refine Below.drew ?_) | (with_reducible refine Below.setCell ?_ ?_ _) | (with_reducible exact Nat.le_refl _) | (with_reducible refine ext_le _ _ ?_) | (with_reducible refine le_alloc ?_ _) | (with_reducible refine le_set ?_ _ _) | (with_reducible refine le_drew ?_) | (with_reducible refine le_drewN ?_ _) | (simp; done) | (simp; omega) | omega))))).mono ?_; rintro e w' ⟨g2, x6, rfl, rfl, ho⟩)
        | (go_at_call 32; refine (HEQ _ _ _ _ _ (D7.out.below (by (repeat' (first | (with_reducible exact Below.refl _ _) | (with_reducible assumption) | (with_reducible refine below_ext' ?_ ?_) | (with_reducible refine Below.alloc ?_ ?_ _) | (with_reducible refine below_drewN ?_ _) | (with_reducible refine Below.drew ?_) | (with_reducible refine Below.setCell ?_ ?_ _) | (with_reducible exact Nat.le_refl _) | (with_reducible refine ext_le _ _ ?_) | (with_reducible refine le_alloc ?_ _) | (with_reducible refine le_set ?_ _ _) | (with_reducible refine le_drew ?_) | (with_reducible refine le_drewN ?_ _) | (simp; done) | (simp; omega) | omega)))) ho.out.2.2.1).mono ?_; rintro e w' ⟨rfl, x7, rfl⟩))
      go_ret
      exact ⟨rfl, ex_of (by (repeat' (first | (with_reducible exact Below.refl _ _) | (with_reducible assumption) | (with_reducible refine below_ext' ?_ ?_) | (with_reducible refine Below.alloc ?_ ?_ _) | (with_reducible refine below_drewN ?_ _) | (with_reducible refine Below.drew ?_) | (with_reducible refine Below.setCell ?_ ?_ _) | (with_reducible exact Nat.le_refl _) | (with_reducible refine ext_le _ _ ?_) | (with_reducible refine le_alloc ?_ _) | (with_reducible refine le_set ?_ _ _) | (with_reducible refine le_drew ?_) | (with_reducible refine le_drewN ?_ _) | (simp; done) | (simp; omega) | omega)))⟩
end Go.Proofs.Ytbelopcfmjgfiaa
