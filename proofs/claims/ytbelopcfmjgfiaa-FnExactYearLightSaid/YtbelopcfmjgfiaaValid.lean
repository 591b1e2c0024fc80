/- Contracts: what is valid (both packages). No condition. -/
import Derived.Test.YtbelopcfmjgfiaaPass
import Derived.Test.YtbelopcfmjgfiaaValidPure
namespace Go.Proofs.Ytbelopcfmjgfiaa
open Go Go.RowKit
attribute [local go_sem] binOp_flt binOp_fgt binOp_feq binOp_fne binOp_fle binOp_fge faRes_some run_fadd run_fsub run_fmul run_fdiv run_ofI run_store_float run_neg run_min1 ext_cell ext_frozen ext_lt ext_setCell ext_drew ext_drewN

set_option maxHeartbeats 400000 in
theorem within_any (n lo hi : Int) (w : World) : Calls Try.prog 71 #[.int .i64 n, .int .i64 lo, .int .i64 hi] w fun e w' => e = .returned (.bool (inB n lo hi)) ∧ w = w' := by
  have H : Hid (inB n lo hi = (decide (lo ≤ n) && decide (n ≤ hi))) := (rfl : inB n lo hi = _)
  cases h1 : decide (lo ≤ n)
  all_goals
    go_enter Try.func71, Try.ntmps71
    go_wp2
    go_ret
    exact ⟨by rw [H.out, h1]; rfl, rfl⟩
set_option maxHeartbeats 400000 in
theorem l00In_any (n lo hi : Int) (w : World) : Calls Try.prog 69 #[.int .i64 n, .int .i64 lo, .int .i64 hi] w fun e w' => e = .returned (.bool (inB n lo hi)) ∧ w = w' := by
  have H : Hid (inB n lo hi = (decide (lo ≤ n) && decide (n ≤ hi))) := (rfl : inB n lo hi = _)
  cases h1 : decide (lo ≤ n)
  all_goals
    go_enter Try.func69, Try.ntmps69
    go_wp2
    go_ret
    exact ⟨by rw [H.out, h1]; rfl, rfl⟩

set_option maxHeartbeats 400000 in
theorem IsPart_any (x : Nat) (w : World) : Calls Try.prog 82 #[.float .f32 x] w fun e w' => e = .returned (.bool (partB x)) ∧ w = w' := by
  have H : Hid (partB x = (fge x 0 && fle x 1065353216)) := (rfl : partB x = _)
  cases h1 : fge x 0
  all_goals
    go_enter Try.func82, Try.ntmps82
    go_wp2
    go_ret
    exact ⟨by rw [H.out, h1]; rfl, rfl⟩
set_option maxHeartbeats 400000 in
theorem l01Part_any (x : Nat) (w : World) : Calls Try.prog 75 #[.float .f32 x] w fun e w' => e = .returned (.bool (partB x)) ∧ w = w' := by
  have H : Hid (partB x = (fge x 0 && fle x 1065353216)) := (rfl : partB x = _)
  cases h1 : fge x 0
  all_goals
    go_enter Try.func75, Try.ntmps75
    go_wp2
    go_ret
    exact ⟨by rw [H.out, h1]; rfl, rfl⟩
set_option maxHeartbeats 400000 in
theorem isLength_any (x : Nat) (w : World) : Calls Try.prog 129 #[.float .f32 x] w fun e w' => e = .returned (.bool (lenB x)) ∧ w = w' := by
  have H : Hid (lenB x = (fge x 1031798784 && fle x 1115684864)) := (rfl : lenB x = _)
  cases h1 : fge x 1031798784
  all_goals
    go_enter Try.func129, Try.ntmps129
    go_wp2
    go_ret
    exact ⟨by rw [H.out, h1]; rfl, rfl⟩
set_option maxHeartbeats 400000 in
theorem l02Length_any (x : Nat) (w : World) : Calls Try.prog 124 #[.float .f32 x] w fun e w' => e = .returned (.bool (lenB x)) ∧ w = w' := by
  have H : Hid (lenB x = (fge x 1031798784 && fle x 1115684864)) := (rfl : lenB x = _)
  cases h1 : fge x 1031798784
  all_goals
    go_enter Try.func124, Try.ntmps124
    go_wp2
    go_ret
    exact ⟨by rw [H.out, h1]; rfl, rfl⟩
set_option maxHeartbeats 400000 in
theorem IsPlain_any (x : Nat) (w : World) : Calls Try.prog 122 #[.float .f32 x] w fun e w' => e = .returned (.bool (plainB x)) ∧ w = w' := by
  have H : Hid (plainB x = (fge x 3380609024 && fle x 1233125376)) := (rfl : plainB x = _)
  cases h1 : fge x 3380609024
  all_goals
    go_enter Try.func122, Try.ntmps122
    go_wp2
    go_ret
    exact ⟨by rw [H.out, h1]; rfl, rfl⟩
set_option maxHeartbeats 400000 in
theorem l01Plain_any (x : Nat) (w : World) : Calls Try.prog 89 #[.float .f32 x] w fun e w' => e = .returned (.bool (plainB x)) ∧ w = w' := by
  have H : Hid (plainB x = (fge x 3380609024 && fle x 1233125376)) := (rfl : plainB x = _)
  cases h1 : fge x 3380609024
  all_goals
    go_enter Try.func89, Try.ntmps89
    go_wp2
    go_ret
    exact ⟨by rw [H.out, h1]; rfl, rfl⟩

set_option maxHeartbeats 400000 in
theorem isFacing_any (n : Int) (w : World) : Calls Try.prog 81 #[.int .i64 n] w fun e w' => e = .returned (.bool (inB n 0 255)) ∧ w = w' := by
  go_enter Try.func81, Try.ntmps81
  go_wp2_with (go_at_call 71; refine (within_any _ _ _ _).mono ?_; rintro e w' ⟨rfl, rfl⟩)
  go_ret
  exact ⟨rfl, rfl⟩
set_option maxHeartbeats 400000 in
theorem l01Faced_any (n : Int) (w : World) : Calls Try.prog 64 #[.int .i64 n] w fun e w' => e = .returned (.bool (inB n 0 255)) ∧ w = w' := by
  go_enter Try.func64, Try.ntmps64
  go_wp2_with (go_at_call 69; refine (l00In_any _ _ _ _).mono ?_; rintro e w' ⟨rfl, rfl⟩)
  go_ret
  exact ⟨rfl, rfl⟩
set_option maxHeartbeats 400000 in
theorem isTilt_any (n : Int) (w : World) : Calls Try.prog 130 #[.int .i64 n] w fun e w' => e = .returned (.bool (inB n (-64) 64)) ∧ w = w' := by
  go_enter Try.func130, Try.ntmps130
  go_wp2_with (go_at_call 71; refine (within_any _ _ _ _).mono ?_; rintro e w' ⟨rfl, rfl⟩)
  go_ret
  exact ⟨rfl, rfl⟩
set_option maxHeartbeats 400000 in
theorem l02Tilt_any (n : Int) (w : World) : Calls Try.prog 125 #[.int .i64 n] w fun e w' => e = .returned (.bool (inB n (-64) 64)) ∧ w = w' := by
  go_enter Try.func125, Try.ntmps125
  go_wp2_with (go_at_call 69; refine (l00In_any _ _ _ _).mono ?_; rintro e w' ⟨rfl, rfl⟩)
  go_ret
  exact ⟨rfl, rfl⟩
set_option maxHeartbeats 400000 in
theorem l01Height_any (n : Int) (w : World) : Calls Try.prog 135 #[.int .i64 n] w fun e w' => e = .returned (.bool (inB n (-64) 64)) ∧ w = w' := by
  go_enter Try.func135, Try.ntmps135
  go_wp2_with (go_at_call 69; refine (l00In_any _ _ _ _).mono ?_; rintro e w' ⟨rfl, rfl⟩)
  go_ret
  exact ⟨rfl, rfl⟩
set_option maxHeartbeats 400000 in
theorem isHeight_any (n : Int) (w : World) : Calls Try.prog 132 #[.int .i64 n] w fun e w' => e = .returned (.bool (inB n 1 64)) ∧ w = w' := by
  go_enter Try.func132, Try.ntmps132
  go_wp2_with (go_at_call 71; refine (within_any _ _ _ _).mono ?_; rintro e w' ⟨rfl, rfl⟩)
  go_ret
  exact ⟨rfl, rfl⟩
set_option maxHeartbeats 400000 in
theorem l02Up_any (n : Int) (w : World) : Calls Try.prog 126 #[.int .i64 n] w fun e w' => e = .returned (.bool (inB n 1 64)) ∧ w = w' := by
  go_enter Try.func126, Try.ntmps126
  go_wp2_with (go_at_call 69; refine (l00In_any _ _ _ _).mono ?_; rintro e w' ⟨rfl, rfl⟩)
  go_ret
  exact ⟨rfl, rfl⟩

theorem cs2 (a b : Bool) : a = false ∨ (a = true ∧ b = false) ∨ (a = true ∧ b = true) := by cases a <;> cases b <;> simp
theorem cs4 (a b c d : Bool) : a = false ∨ (a = true ∧ b = false) ∨ (a = true ∧ b = true ∧ c = false) ∨ (a = true ∧ b = true ∧ c = true ∧ d = false) ∨ (a = true ∧ b = true ∧ c = true ∧ d = true) := by
  cases a <;> cases b <;> cases c <;> cases d <;> simp
theorem cs6 (a b c d e f : Bool) : a = false ∨ (a = true ∧ b = false) ∨ (a = true ∧ b = true ∧ c = false) ∨ (a = true ∧ b = true ∧ c = true ∧ d = false) ∨ (a = true ∧ b = true ∧ c = true ∧ d = true ∧ e = false) ∨
    (a = true ∧ b = true ∧ c = true ∧ d = true ∧ e = true ∧ f = false) ∨ (a = true ∧ b = true ∧ c = true ∧ d = true ∧ e = true ∧ f = true) := by
  cases a <;> cases b <;> cases c <;> cases d <;> cases e <;> cases f <;> simp

set_option maxHeartbeats 1000000 in
theorem ValidBlind_any (sl : Int) (wd gp : Nat) (ti : Int) (sh : Nat) (hs0 : -128 ≤ sl) (hs1 : sl ≤ 127) (ht0 : -32768 ≤ ti) (ht1 : ti ≤ 32767) (w : World) :
    Calls Try.prog 103 #[.agg #[.int .i8 sl, .float .f32 wd, .float .f32 gp, .int .i16 ti, .float .f32 sh]] w fun e w' => e = .returned (.bool (vBlind sl wd gp ti sh)) ∧ ∃ x, w' = ext w x := by
  have H : Hid (vBlind sl wd gp ti sh = (inB sl 1 60 && (lenB wd && (lenB gp && (inB ti (-64) 64 && (partB sh)))))) := (rfl : vBlind sl wd gp ti sh = _)
  rcases cs4 (inB sl 1 60) (lenB wd) (lenB gp) (inB ti (-64) 64) with h1 | ⟨h1, h2⟩ | ⟨h1, h2, h3⟩ | ⟨h1, h2, h3, h4⟩ | ⟨h1, h2, h3, h4⟩
  all_goals
    go_enter Try.func103, Try.ntmps103
    go_wp2_with (first | (go_at_call 71; refine (within_any _ _ _ _).mono ?_; rintro e w' ⟨rfl, rfl⟩) | (go_at_call 129; refine (isLength_any _ _).mono ?_; rintro e w' ⟨rfl, rfl⟩) | (go_at_call 130; refine (isTilt_any _ _).mono ?_; rintro e w' ⟨rfl, rfl⟩) | (go_at_call 82; refine (IsPart_any _ _).mono ?_; rintro e w' ⟨rfl, rfl⟩) | (go_at_call 132; refine (isHeight_any _ _).mono ?_; rintro e w' ⟨rfl, rfl⟩))
    go_ret
    exact ⟨by rw [H.out]; simp [*], ex_of (by (repeat' (first | (with_reducible exact Below.refl _ _) | (with_reducible assumption) | (with_reducible refine below_ext' ?_ ?_) | (with_reducible refine Below.alloc ?_ ?_ _) | (with_reducible refine below_drewN ?_ _) | (with_reducible refine Below.drew ?_) | (with_reducible refine Below.setCell ?_ ?_ _) | (with_reducible exact Nat.le_refl _) | (with_reducible refine ext_le _ _ ?_) | (simp; done) | (simp; omega) | omega)))⟩

set_option maxHeartbeats 1000000 in
theorem l02Ok_any (b o : Nat) (sl : Int) (wd gp : Nat) (ti : Int) (sh : Nat) (hs0 : -128 ≤ sl) (hs1 : sl ≤ 127) (ht0 : -32768 ≤ ti) (ht1 : ti ≤ 32767) (w : World) (hB : BlindAt w b o sl wd gp ti sh) :
    Calls Try.prog 96 #[.pointer (some ⟨b, o, none⟩)] w fun e w' => e = .returned (.bool (vBlind sl wd gp ti sh)) ∧ ∃ x, w' = ext w x := by
  have H : Hid (vBlind sl wd gp ti sh = (inB sl 1 60 && (lenB wd && (lenB gp && (inB ti (-64) 64 && (partB sh)))))) := (rfl : vBlind sl wd gp ti sh = _)
  obtain ⟨c0, c1, c2, c3, c4⟩ := hB
  rcases cs4 (inB sl 1 60) (lenB wd) (lenB gp) (inB ti (-64) 64) with h1 | ⟨h1, h2⟩ | ⟨h1, h2, h3⟩ | ⟨h1, h2, h3, h4⟩ | ⟨h1, h2, h3, h4⟩
  all_goals
    go_enter Try.func96, Try.ntmps96
    go_wp2_with (first | (go_at_call 69; refine (l00In_any _ _ _ _).mono ?_; rintro e w' ⟨rfl, rfl⟩) | (go_at_call 124; refine (l02Length_any _ _).mono ?_; rintro e w' ⟨rfl, rfl⟩) | (go_at_call 125; refine (l02Tilt_any _ _).mono ?_; rintro e w' ⟨rfl, rfl⟩) | (go_at_call 75; refine (l01Part_any _ _).mono ?_; rintro e w' ⟨rfl, rfl⟩) | (go_at_call 126; refine (l02Up_any _ _).mono ?_; rintro e w' ⟨rfl, rfl⟩))
    go_ret
    exact ⟨by rw [H.out]; simp [*], ex_of (by (repeat' (first | (with_reducible exact Below.refl _ _) | (with_reducible assumption) | (with_reducible refine below_ext' ?_ ?_) | (with_reducible refine Below.alloc ?_ ?_ _) | (with_reducible refine below_drewN ?_ _) | (with_reducible refine Below.drew ?_) | (with_reducible refine Below.setCell ?_ ?_ _) | (with_reducible exact Nat.le_refl _) | (with_reducible refine ext_le _ _ ?_) | (simp; done) | (simp; omega) | omega)))⟩

set_option maxHeartbeats 1000000 in
theorem ValidControl_any (lo hi wi : Nat) (st de ca : Int) (hs0 : -128 ≤ st) (hs1 : st ≤ 127) (hd0 : -128 ≤ de) (hd1 : de ≤ 127) (hc0 : -128 ≤ ca) (hc1 : ca ≤ 127) (w : World) :
    Calls Try.prog 102 #[.agg #[.float .f32 lo, .float .f32 hi, .float .f32 wi, .int .i8 st, .int .i8 de, .int .i8 ca]] w fun e w' => e = .returned (.bool (vControl lo hi wi st de ca)) ∧ ∃ x, w' = ext w x := by
  have H : Hid (vControl lo hi wi st de ca = (partB lo && (partB hi && (partB wi && (fle lo hi && (inB st 1 64 && (inB de 0 20 && (inB ca 1 20)))))))) := (rfl : vControl lo hi wi st de ca = _)
  rcases cs6 (partB lo) (partB hi) (partB wi) (fle lo hi) (inB st 1 64) (inB de 0 20) with h1 | ⟨h1, h2⟩ | ⟨h1, h2, h3⟩ | ⟨h1, h2, h3, h4⟩ | ⟨h1, h2, h3, h4, h5⟩ | ⟨h1, h2, h3, h4, h5, h6⟩ | ⟨h1, h2, h3, h4, h5, h6⟩
  all_goals
    go_enter Try.func102, Try.ntmps102
    go_wp2_with (first | (go_at_call 71; refine (within_any _ _ _ _).mono ?_; rintro e w' ⟨rfl, rfl⟩) | (go_at_call 129; refine (isLength_any _ _).mono ?_; rintro e w' ⟨rfl, rfl⟩) | (go_at_call 130; refine (isTilt_any _ _).mono ?_; rintro e w' ⟨rfl, rfl⟩) | (go_at_call 82; refine (IsPart_any _ _).mono ?_; rintro e w' ⟨rfl, rfl⟩) | (go_at_call 132; refine (isHeight_any _ _).mono ?_; rintro e w' ⟨rfl, rfl⟩))
    go_ret
    exact ⟨by rw [H.out]; simp [*], ex_of (by (repeat' (first | (with_reducible exact Below.refl _ _) | (with_reducible assumption) | (with_reducible refine below_ext' ?_ ?_) | (with_reducible refine Below.alloc ?_ ?_ _) | (with_reducible refine below_drewN ?_ _) | (with_reducible refine Below.drew ?_) | (with_reducible refine Below.setCell ?_ ?_ _) | (with_reducible exact Nat.le_refl _) | (with_reducible refine ext_le _ _ ?_) | (simp; done) | (simp; omega) | omega)))⟩

set_option maxHeartbeats 1000000 in
theorem ValidState_any (ti' wa sm : Int) (ht0 : -32768 ≤ ti') (ht1 : ti' ≤ 32767) (hw0 : -128 ≤ wa) (hw1 : wa ≤ 127) (hs0 : -128 ≤ sm) (hs1 : sm ≤ 127) (w : World) :
    Calls Try.prog 104 #[.agg #[.int .i16 ti', .int .i8 wa, .int .i8 sm]] w fun e w' => e = .returned (.bool (vState ti' wa sm)) ∧ ∃ x, w' = ext w x := by
  have H : Hid (vState ti' wa sm = (inB ti' (-64) 64 && (inB wa 0 20 && (inB sm 0 20)))) := (rfl : vState ti' wa sm = _)
  rcases cs2 (inB ti' (-64) 64) (inB wa 0 20) with h1 | ⟨h1, h2⟩ | ⟨h1, h2⟩
  all_goals
    go_enter Try.func104, Try.ntmps104
    go_wp2_with (first | (go_at_call 71; refine (within_any _ _ _ _).mono ?_; rintro e w' ⟨rfl, rfl⟩) | (go_at_call 129; refine (isLength_any _ _).mono ?_; rintro e w' ⟨rfl, rfl⟩) | (go_at_call 130; refine (isTilt_any _ _).mono ?_; rintro e w' ⟨rfl, rfl⟩) | (go_at_call 82; refine (IsPart_any _ _).mono ?_; rintro e w' ⟨rfl, rfl⟩) | (go_at_call 132; refine (isHeight_any _ _).mono ?_; rintro e w' ⟨rfl, rfl⟩))
    go_ret
    exact ⟨by rw [H.out]; simp [*], ex_of (by (repeat' (first | (with_reducible exact Below.refl _ _) | (with_reducible assumption) | (with_reducible refine below_ext' ?_ ?_) | (with_reducible refine Below.alloc ?_ ?_ _) | (with_reducible refine below_drewN ?_ _) | (with_reducible refine Below.drew ?_) | (with_reducible refine Below.setCell ?_ ?_ _) | (with_reducible exact Nat.le_refl _) | (with_reducible refine ext_le _ _ ?_) | (simp; done) | (simp; omega) | omega)))⟩

set_option maxHeartbeats 1000000 in
theorem ValidTick_any (li gu : Nat) (he : Int) (hh0 : -128 ≤ he) (hh1 : he ≤ 127) (w : World) :
    Calls Try.prog 107 #[.agg #[.float .f32 li, .float .f32 gu, .int .i8 he]] w fun e w' => e = .returned (.bool (vTick li gu he)) ∧ ∃ x, w' = ext w x := by
  have H : Hid (vTick li gu he = (partB li && (partB gu && (inB he 1 64)))) := (rfl : vTick li gu he = _)
  rcases cs2 (partB li) (partB gu) with h1 | ⟨h1, h2⟩ | ⟨h1, h2⟩
  all_goals
    go_enter Try.func107, Try.ntmps107
    go_wp2_with (first | (go_at_call 71; refine (within_any _ _ _ _).mono ?_; rintro e w' ⟨rfl, rfl⟩) | (go_at_call 129; refine (isLength_any _ _).mono ?_; rintro e w' ⟨rfl, rfl⟩) | (go_at_call 130; refine (isTilt_any _ _).mono ?_; rintro e w' ⟨rfl, rfl⟩) | (go_at_call 82; refine (IsPart_any _ _).mono ?_; rintro e w' ⟨rfl, rfl⟩) | (go_at_call 132; refine (isHeight_any _ _).mono ?_; rintro e w' ⟨rfl, rfl⟩))
    go_ret
    exact ⟨by rw [H.out]; simp [*], ex_of (by (repeat' (first | (with_reducible exact Below.refl _ _) | (with_reducible assumption) | (with_reducible refine below_ext' ?_ ?_) | (with_reducible refine Below.alloc ?_ ?_ _) | (with_reducible refine below_drewN ?_ _) | (with_reducible refine Below.drew ?_) | (with_reducible refine Below.setCell ?_ ?_ _) | (with_reducible exact Nat.le_refl _) | (with_reducible refine ext_le _ _ ?_) | (simp; done) | (simp; omega) | omega)))⟩

/-- A control, a state, a tick in memory. -/
structure ControlAt (w : World) (b o : Nat) (lo hi wi : Nat) (st de ca : Int) : Prop where
  c0 : w.cell? ⟨b, o, none⟩ = some (.float .f32 lo)
  c1 : w.cell? ⟨b, o + 1, none⟩ = some (.float .f32 hi)
  c2 : w.cell? ⟨b, o + 2, none⟩ = some (.float .f32 wi)
  c3 : w.cell? ⟨b, o + 3, none⟩ = some (.int .i8 st)
  c4 : w.cell? ⟨b, o + 4, none⟩ = some (.int .i8 de)
  c5 : w.cell? ⟨b, o + 5, none⟩ = some (.int .i8 ca)
structure StateAt (w : World) (b o : Nat) (ti' wa sm : Int) : Prop where
  c0 : w.cell? ⟨b, o, none⟩ = some (.int .i16 ti')
  c1 : w.cell? ⟨b, o + 1, none⟩ = some (.int .i8 wa)
  c2 : w.cell? ⟨b, o + 2, none⟩ = some (.int .i8 sm)
structure TickAt (w : World) (b o : Nat) (li gu : Nat) (he : Int) : Prop where
  c0 : w.cell? ⟨b, o, none⟩ = some (.float .f32 li)
  c1 : w.cell? ⟨b, o + 1, none⟩ = some (.float .f32 gu)
  c2 : w.cell? ⟨b, o + 2, none⟩ = some (.int .i8 he)
theorem ControlAt.ext {w : World} {b o : Nat} {lo hi wi : Nat} {st de ca : Int} (h : ControlAt w b o lo hi wi st de ca) (x : World) : ControlAt (ext w x) b o lo hi wi st de ca := by
  have hb : b < w.heap.size := World.block_lt_of_cell? w _ h.c0
  exact ⟨(ext_cell _ _ hb).trans h.c0, (ext_cell _ _ hb).trans h.c1, (ext_cell _ _ hb).trans h.c2, (ext_cell _ _ hb).trans h.c3, (ext_cell _ _ hb).trans h.c4, (ext_cell _ _ hb).trans h.c5⟩
theorem StateAt.ext {w : World} {b o : Nat} {ti' wa sm : Int} (h : StateAt w b o ti' wa sm) (x : World) : StateAt (ext w x) b o ti' wa sm := by
  have hb : b < w.heap.size := World.block_lt_of_cell? w _ h.c0
  exact ⟨(ext_cell _ _ hb).trans h.c0, (ext_cell _ _ hb).trans h.c1, (ext_cell _ _ hb).trans h.c2⟩
theorem TickAt.ext {w : World} {b o : Nat} {li gu : Nat} {he : Int} (h : TickAt w b o li gu he) (x : World) : TickAt (ext w x) b o li gu he := by
  have hb : b < w.heap.size := World.block_lt_of_cell? w _ h.c0
  exact ⟨(ext_cell _ _ hb).trans h.c0, (ext_cell _ _ hb).trans h.c1, (ext_cell _ _ hb).trans h.c2⟩

set_option maxHeartbeats 1000000 in
theorem l05State_any (b o : Nat) (ti' wa sm : Int) (ht0 : -32768 ≤ ti') (ht1 : ti' ≤ 32767) (hw0 : -128 ≤ wa) (hw1 : wa ≤ 127) (hs0 : -128 ≤ sm) (hs1 : sm ≤ 127) (w : World) (hB : StateAt w b o ti' wa sm) :
    Calls Try.prog 97 #[.pointer (some ⟨b, o, none⟩)] w fun e w' => e = .returned (.bool (vState ti' wa sm)) ∧ ∃ x, w' = ext w x := by
  have H : Hid (vState ti' wa sm = (inB ti' (-64) 64 && (inB wa 0 20 && (inB sm 0 20)))) := (rfl : vState ti' wa sm = _)
  obtain ⟨c0, c1, c2⟩ := hB
  rcases cs2 (inB ti' (-64) 64) (inB wa 0 20) with h1 | ⟨h1, h2⟩ | ⟨h1, h2⟩
  all_goals
    go_enter Try.func97, Try.ntmps97
    go_wp2_with (first | (go_at_call 69; refine (l00In_any _ _ _ _).mono ?_; rintro e w' ⟨rfl, rfl⟩) | (go_at_call 124; refine (l02Length_any _ _).mono ?_; rintro e w' ⟨rfl, rfl⟩) | (go_at_call 125; refine (l02Tilt_any _ _).mono ?_; rintro e w' ⟨rfl, rfl⟩) | (go_at_call 75; refine (l01Part_any _ _).mono ?_; rintro e w' ⟨rfl, rfl⟩) | (go_at_call 126; refine (l02Up_any _ _).mono ?_; rintro e w' ⟨rfl, rfl⟩))
    go_ret
    exact ⟨by rw [H.out]; simp [*], ex_of (by (repeat' (first | (with_reducible exact Below.refl _ _) | (with_reducible assumption) | (with_reducible refine below_ext' ?_ ?_) | (with_reducible refine Below.alloc ?_ ?_ _) | (with_reducible refine below_drewN ?_ _) | (with_reducible refine Below.drew ?_) | (with_reducible refine Below.setCell ?_ ?_ _) | (with_reducible exact Nat.le_refl _) | (with_reducible refine ext_le _ _ ?_) | (simp; done) | (simp; omega) | omega)))⟩

set_option maxHeartbeats 1000000 in
theorem l05Tick_any (b o : Nat) (li gu : Nat) (he : Int) (hh0 : -128 ≤ he) (hh1 : he ≤ 127) (w : World) (hB : TickAt w b o li gu he) :
    Calls Try.prog 98 #[.pointer (some ⟨b, o, none⟩)] w fun e w' => e = .returned (.bool (vTick li gu he)) ∧ ∃ x, w' = ext w x := by
  have H : Hid (vTick li gu he = (partB li && (partB gu && (inB he 1 64)))) := (rfl : vTick li gu he = _)
  obtain ⟨c0, c1, c2⟩ := hB
  rcases cs2 (partB li) (partB gu) with h1 | ⟨h1, h2⟩ | ⟨h1, h2⟩
  all_goals
    go_enter Try.func98, Try.ntmps98
    go_wp2_with (first | (go_at_call 69; refine (l00In_any _ _ _ _).mono ?_; rintro e w' ⟨rfl, rfl⟩) | (go_at_call 124; refine (l02Length_any _ _).mono ?_; rintro e w' ⟨rfl, rfl⟩) | (go_at_call 125; refine (l02Tilt_any _ _).mono ?_; rintro e w' ⟨rfl, rfl⟩) | (go_at_call 75; refine (l01Part_any _ _).mono ?_; rintro e w' ⟨rfl, rfl⟩) | (go_at_call 126; refine (l02Up_any _ _).mono ?_; rintro e w' ⟨rfl, rfl⟩))
    go_ret
    exact ⟨by rw [H.out]; simp [*], ex_of (by (repeat' (first | (with_reducible exact Below.refl _ _) | (with_reducible assumption) | (with_reducible refine below_ext' ?_ ?_) | (with_reducible refine Below.alloc ?_ ?_ _) | (with_reducible refine below_drewN ?_ _) | (with_reducible refine Below.drew ?_) | (with_reducible refine Below.setCell ?_ ?_ _) | (with_reducible exact Nat.le_refl _) | (with_reducible refine ext_le _ _ ?_) | (simp; done) | (simp; omega) | omega)))⟩
end Go.Proofs.Ytbelopcfmjgfiaa
