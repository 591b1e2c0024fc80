/- Contracts: a tick of impl, case by case. No condition. -/
import Derived.Test.YtbelopcfmjgfiaaTick
import Derived.Test.YtbelopcfmjgfiaaTickPure
import Derived.StillTailTactics
namespace Go.Proofs.Ytbelopcfmjgfiaa
open Go Go.RowKit
attribute [local go_sem] binOp_flt binOp_fgt binOp_feq binOp_fne binOp_fle binOp_fge faRes_some run_fadd run_fsub run_fmul run_fdiv run_ofI run_store_float run_neg run_min1 ext_cell ext_frozen ext_lt ext_setCell ext_drew ext_drewN

set_option maxRecDepth 100000 in
set_option maxHeartbeats 2000000 in
theorem tick_B2W (b o : Nat) (lo hi wi : Nat) (st de ca : Int) (sl : Int) (wd gp : Nat) (ti : Int) (sh : Nat) (wa ti' : Int) (li gu : Nat) (he : Int)
    (hw : Len wd) (hg : Len gp) (hs : Part sh) (hl : Part li) (hh0 : 1 ≤ he) (hh1 : he ≤ 64) (ht0 : -64 ≤ ti') (ht1 : ti' ≤ 64) (hst0 : 1 ≤ st) (hst1 : st ≤ 64) (hgu : fgt gu wi = false)
    (hwa : 0 < wa) (hwb : wa ≤ 20)
    (w : World) (hC : ControlAt w b o lo hi wi st de ca) :
    Calls Try.prog 108 #[.pointer (some ⟨b, o, none⟩), .agg #[.int .i8 sl, .float .f32 wd, .float .f32 gp, .int .i16 ti, .float .f32 sh], Value.agg #[Value.int .i16 (ti'), Value.int .i8 (wa), Value.int .i8 (0)], .agg #[.float .f32 li, .float .f32 gu, .int .i8 he]] w fun e w' =>
      e = .returned (Value.tuple #[Value.agg #[Value.int .i16 (ti'), Value.int .i8 ((wa - 1)), Value.int .i8 (0)], Value.float .f32 (insideF wd gp sh ti' li he), Value.bool false]) ∧ ∃ x, w' = ext w x := by
  obtain ⟨c0, c1, c2, c3, c4, c5⟩ := hC
  have lb : b < w.heap.size := World.block_lt_of_cell? w _ c0
  obtain ⟨l1, l2, l3, l4, l5, l6⟩ := lts lb
  have e1 := inside_step (ti := ti') hw hg hs hl hh0 hh1
  have HW := Lib.hid hw; have HG := Lib.hid hg; have HS := Lib.hid hs; clear hw hg hs hl
  have hh64 : IntKind.i64.wrap he = he := IntWalk.i64_in _ (by omega)
  have ht64 : IntKind.i64.wrap (ti') = ti' := IntWalk.i64_in _ (by omega)
  have hst := And.intro hst0 hst1
  clear hst
  go_enter Try.func108, Try.ntmps108
  go_wp2
  go_quiet (fail)
  go_wp2
  refine wp_region_ex (by kernel_rfl) (by kernel_rfl) ?_
  repeat (quiet_step ((first | (go_at_call 133; exact Calls.ex_of (tilted_any sl wd gp ti sh ti' ht0 ht1 _)) | (go_at_call 134; exact Calls.ex_of (pass_any sl wd gp ti' sh he HW.out HG.out HS.out hh0 hh1 ht0 ht1 _)))))
  refine wpQuiet_nil ?_
  intro _ hw'
  obtain ⟨xq, hw''⟩ := hw'
  subst hw''
  go_wp2
  all_goals
    refine bodyPost_ret (v := Value.tuple #[Value.agg #[Value.int .i16 (ti'), Value.int .i8 ((wa - 1)), Value.int .i8 (0)], Value.float .f32 (insideF wd gp sh ti' li he), Value.bool false]) (by simp [results, Try.results108, go_sem]) rfl ⟨rfl, ex_of (by (repeat' (first | (with_reducible exact Below.refl _ _) | (with_reducible assumption) | (with_reducible refine below_ext' ?_ ?_) | (with_reducible refine Below.alloc ?_ ?_ _) | (with_reducible refine below_drewN ?_ _) | (with_reducible refine Below.drew ?_) | (with_reducible refine Below.setCell ?_ ?_ _) | (with_reducible exact Nat.le_refl _) | (with_reducible refine ext_le _ _ ?_) | (simp; done) | (simp; omega) | omega)))⟩

set_option maxRecDepth 100000 in
set_option maxHeartbeats 2000000 in
theorem tick_B2N (b o : Nat) (lo hi wi : Nat) (st de ca : Int) (sl : Int) (wd gp : Nat) (ti : Int) (sh : Nat) (ti' : Int) (li gu : Nat) (he : Int)
    (hw : Len wd) (hg : Len gp) (hs : Part sh) (hl : Part li) (hh0 : 1 ≤ he) (hh1 : he ≤ 64) (ht0 : -64 ≤ ti') (ht1 : ti' ≤ 64) (hst0 : 1 ≤ st) (hst1 : st ≤ 64) (hgu : fgt gu wi = false)
    (hn1 : fgt (insideF wd gp sh ti' li he) hi = false) (hn2 : flt (insideF wd gp sh ti' li he) lo = false)
    (w : World) (hC : ControlAt w b o lo hi wi st de ca) :
    Calls Try.prog 108 #[.pointer (some ⟨b, o, none⟩), .agg #[.int .i8 sl, .float .f32 wd, .float .f32 gp, .int .i16 ti, .float .f32 sh], Value.agg #[Value.int .i16 (ti'), Value.int .i8 (0), Value.int .i8 (0)], .agg #[.float .f32 li, .float .f32 gu, .int .i8 he]] w fun e w' =>
      e = .returned (Value.tuple #[Value.agg #[Value.int .i16 (ti'), Value.int .i8 (0), Value.int .i8 (0)], Value.float .f32 (insideF wd gp sh ti' li he), Value.bool false]) ∧ ∃ x, w' = ext w x := by
  obtain ⟨c0, c1, c2, c3, c4, c5⟩ := hC
  have lb : b < w.heap.size := World.block_lt_of_cell? w _ c0
  obtain ⟨l1, l2, l3, l4, l5, l6⟩ := lts lb
  have e1 := inside_step (ti := ti') hw hg hs hl hh0 hh1
  have HW := Lib.hid hw; have HG := Lib.hid hg; have HS := Lib.hid hs; clear hw hg hs hl
  have hh64 : IntKind.i64.wrap he = he := IntWalk.i64_in _ (by omega)
  have ht64 : IntKind.i64.wrap (ti') = ti' := IntWalk.i64_in _ (by omega)
  have hst := And.intro hst0 hst1
  clear hst
  go_enter Try.func108, Try.ntmps108
  go_wp2
  go_quiet (fail)
  go_wp2
  refine wp_region_ex (by kernel_rfl) (by kernel_rfl) ?_
  repeat (quiet_step ((first | (go_at_call 133; exact Calls.ex_of (tilted_any sl wd gp ti sh ti' ht0 ht1 _)) | (go_at_call 134; exact Calls.ex_of (pass_any sl wd gp ti' sh he HW.out HG.out HS.out hh0 hh1 ht0 ht1 _)))))
  refine wpQuiet_nil ?_
  intro _ hw'
  obtain ⟨xq, hw''⟩ := hw'
  subst hw''
  go_wp2
  all_goals
    refine bodyPost_ret (v := Value.tuple #[Value.agg #[Value.int .i16 (ti'), Value.int .i8 (0), Value.int .i8 (0)], Value.float .f32 (insideF wd gp sh ti' li he), Value.bool false]) (by simp [results, Try.results108, go_sem]) rfl ⟨rfl, ex_of (by (repeat' (first | (with_reducible exact Below.refl _ _) | (with_reducible assumption) | (with_reducible refine below_ext' ?_ ?_) | (with_reducible refine Below.alloc ?_ ?_ _) | (with_reducible refine below_drewN ?_ _) | (with_reducible refine Below.drew ?_) | (with_reducible refine Below.setCell ?_ ?_ _) | (with_reducible exact Nat.le_refl _) | (with_reducible refine ext_le _ _ ?_) | (simp; done) | (simp; omega) | omega)))⟩

set_option maxRecDepth 100000 in
set_option maxHeartbeats 2000000 in
theorem tick_B2Ga (b o : Nat) (lo hi wi : Nat) (st de ca : Int) (sl : Int) (wd gp : Nat) (ti : Int) (sh : Nat) (ti' : Int) (li gu : Nat) (he : Int)
    (hw : Len wd) (hg : Len gp) (hs : Part sh) (hl : Part li) (hh0 : 1 ≤ he) (hh1 : he ≤ 64) (ht0 : -64 ≤ ti') (ht1 : ti' ≤ 64) (hst0 : 1 ≤ st) (hst1 : st ≤ 64) (hgu : fgt gu wi = false)
    (hn1 : fgt (insideF wd gp sh ti' li he) hi = true) (hx : ti' + st ≤ 64)
    (w : World) (hC : ControlAt w b o lo hi wi st de ca) :
    Calls Try.prog 108 #[.pointer (some ⟨b, o, none⟩), .agg #[.int .i8 sl, .float .f32 wd, .float .f32 gp, .int .i16 ti, .float .f32 sh], Value.agg #[Value.int .i16 (ti'), Value.int .i8 (0), Value.int .i8 (0)], .agg #[.float .f32 li, .float .f32 gu, .int .i8 he]] w fun e w' =>
      e = .returned (Value.tuple #[Value.agg #[Value.int .i16 ((ti' + st)), Value.int .i8 (de), Value.int .i8 (0)], Value.float .f32 (insideF wd gp sh ti' li he), Value.bool false]) ∧ ∃ x, w' = ext w x := by
  obtain ⟨c0, c1, c2, c3, c4, c5⟩ := hC
  have lb : b < w.heap.size := World.block_lt_of_cell? w _ c0
  obtain ⟨l1, l2, l3, l4, l5, l6⟩ := lts lb
  have e1 := inside_step (ti := ti') hw hg hs hl hh0 hh1
  have HW := Lib.hid hw; have HG := Lib.hid hg; have HS := Lib.hid hs; clear hw hg hs hl
  have hh64 : IntKind.i64.wrap he = he := IntWalk.i64_in _ (by omega)
  have ht64 : IntKind.i64.wrap (ti') = ti' := IntWalk.i64_in _ (by omega)
  go_enter Try.func108, Try.ntmps108
  go_wp2
  go_quiet (fail)
  go_wp2
  refine wp_region_ex (by kernel_rfl) (by kernel_rfl) ?_
  repeat (quiet_step ((first | (go_at_call 133; exact Calls.ex_of (tilted_any sl wd gp ti sh ti' ht0 ht1 _)) | (go_at_call 134; exact Calls.ex_of (pass_any sl wd gp ti' sh he HW.out HG.out HS.out hh0 hh1 ht0 ht1 _)))))
  refine wpQuiet_nil ?_
  intro _ hw'
  obtain ⟨xq, hw''⟩ := hw'
  subst hw''
  go_wp2
  go_region
  all_goals go_wp2
  all_goals
    refine bodyPost_ret (v := Value.tuple #[Value.agg #[Value.int .i16 ((ti' + st)), Value.int .i8 (de), Value.int .i8 (0)], Value.float .f32 (insideF wd gp sh ti' li he), Value.bool false]) (by simp [results, Try.results108, go_sem]) rfl ⟨rfl, ex_of (by (repeat' (first | (with_reducible exact Below.refl _ _) | (with_reducible assumption) | (with_reducible refine below_ext' ?_ ?_) | (with_reducible refine Below.alloc ?_ ?_ _) | (with_reducible refine below_drewN ?_ _) | (with_reducible refine Below.drew ?_) | (with_reducible refine Below.setCell ?_ ?_ _) | (with_reducible exact Nat.le_refl _) | (with_reducible refine ext_le _ _ ?_) | (simp; done) | (simp; omega) | omega)))⟩

set_option maxRecDepth 100000 in
set_option maxHeartbeats 2000000 in
theorem tick_B2Gb (b o : Nat) (lo hi wi : Nat) (st de ca : Int) (sl : Int) (wd gp : Nat) (ti : Int) (sh : Nat) (ti' : Int) (li gu : Nat) (he : Int)
    (hw : Len wd) (hg : Len gp) (hs : Part sh) (hl : Part li) (hh0 : 1 ≤ he) (hh1 : he ≤ 64) (ht0 : -64 ≤ ti') (ht1 : ti' ≤ 64) (hst0 : 1 ≤ st) (hst1 : st ≤ 64) (hgu : fgt gu wi = false)
    (hn1 : fgt (insideF wd gp sh ti' li he) hi = true) (hx : 64 < ti' + st) (hy : ti' < 64)
    (w : World) (hC : ControlAt w b o lo hi wi st de ca) :
    Calls Try.prog 108 #[.pointer (some ⟨b, o, none⟩), .agg #[.int .i8 sl, .float .f32 wd, .float .f32 gp, .int .i16 ti, .float .f32 sh], Value.agg #[Value.int .i16 (ti'), Value.int .i8 (0), Value.int .i8 (0)], .agg #[.float .f32 li, .float .f32 gu, .int .i8 he]] w fun e w' =>
      e = .returned (Value.tuple #[Value.agg #[Value.int .i16 (64), Value.int .i8 (de), Value.int .i8 (0)], Value.float .f32 (insideF wd gp sh ti' li he), Value.bool false]) ∧ ∃ x, w' = ext w x := by
  obtain ⟨c0, c1, c2, c3, c4, c5⟩ := hC
  have lb : b < w.heap.size := World.block_lt_of_cell? w _ c0
  obtain ⟨l1, l2, l3, l4, l5, l6⟩ := lts lb
  have e1 := inside_step (ti := ti') hw hg hs hl hh0 hh1
  have HW := Lib.hid hw; have HG := Lib.hid hg; have HS := Lib.hid hs; clear hw hg hs hl
  have hh64 : IntKind.i64.wrap he = he := IntWalk.i64_in _ (by omega)
  have ht64 : IntKind.i64.wrap (ti') = ti' := IntWalk.i64_in _ (by omega)
  go_enter Try.func108, Try.ntmps108
  go_wp2
  go_quiet (fail)
  go_wp2
  refine wp_region_ex (by kernel_rfl) (by kernel_rfl) ?_
  repeat (quiet_step ((first | (go_at_call 133; exact Calls.ex_of (tilted_any sl wd gp ti sh ti' ht0 ht1 _)) | (go_at_call 134; exact Calls.ex_of (pass_any sl wd gp ti' sh he HW.out HG.out HS.out hh0 hh1 ht0 ht1 _)))))
  refine wpQuiet_nil ?_
  intro _ hw'
  obtain ⟨xq, hw''⟩ := hw'
  subst hw''
  go_wp2
  go_region
  all_goals go_wp2
  all_goals
    refine bodyPost_ret (v := Value.tuple #[Value.agg #[Value.int .i16 (64), Value.int .i8 (de), Value.int .i8 (0)], Value.float .f32 (insideF wd gp sh ti' li he), Value.bool false]) (by simp [results, Try.results108, go_sem]) rfl ⟨rfl, ex_of (by (repeat' (first | (with_reducible exact Below.refl _ _) | (with_reducible assumption) | (with_reducible refine below_ext' ?_ ?_) | (with_reducible refine Below.alloc ?_ ?_ _) | (with_reducible refine below_drewN ?_ _) | (with_reducible refine Below.drew ?_) | (with_reducible refine Below.setCell ?_ ?_ _) | (with_reducible exact Nat.le_refl _) | (with_reducible refine ext_le _ _ ?_) | (simp; done) | (simp; omega) | omega)))⟩

set_option maxRecDepth 100000 in
set_option maxHeartbeats 2000000 in
theorem tick_B2Gc (b o : Nat) (lo hi wi : Nat) (st de ca : Int) (sl : Int) (wd gp : Nat) (ti : Int) (sh : Nat)  (li gu : Nat) (he : Int)
    (hw : Len wd) (hg : Len gp) (hs : Part sh) (hl : Part li) (hh0 : 1 ≤ he) (hh1 : he ≤ 64) (ht0 : -64 ≤ (64 : Int)) (ht1 : (64 : Int) ≤ 64) (hst0 : 1 ≤ st) (hst1 : st ≤ 64) (hgu : fgt gu wi = false)
    (hn1 : fgt (insideF wd gp sh (64 : Int) li he) hi = true)
    (w : World) (hC : ControlAt w b o lo hi wi st de ca) :
    Calls Try.prog 108 #[.pointer (some ⟨b, o, none⟩), .agg #[.int .i8 sl, .float .f32 wd, .float .f32 gp, .int .i16 ti, .float .f32 sh], Value.agg #[Value.int .i16 ((64 : Int)), Value.int .i8 (0), Value.int .i8 (0)], .agg #[.float .f32 li, .float .f32 gu, .int .i8 he]] w fun e w' =>
      e = .returned (Value.tuple #[Value.agg #[Value.int .i16 (64), Value.int .i8 (0), Value.int .i8 (0)], Value.float .f32 (insideF wd gp sh (64 : Int) li he), Value.bool false]) ∧ ∃ x, w' = ext w x := by
  obtain ⟨c0, c1, c2, c3, c4, c5⟩ := hC
  have lb : b < w.heap.size := World.block_lt_of_cell? w _ c0
  obtain ⟨l1, l2, l3, l4, l5, l6⟩ := lts lb
  have e1 := inside_step (ti := (64 : Int)) hw hg hs hl hh0 hh1
  have HW := Lib.hid hw; have HG := Lib.hid hg; have HS := Lib.hid hs; clear hw hg hs hl
  have hh64 : IntKind.i64.wrap he = he := IntWalk.i64_in _ (by omega)
  have ht64 : IntKind.i64.wrap ((64 : Int)) = (64 : Int) := IntWalk.i64_in _ (by omega)
  go_enter Try.func108, Try.ntmps108
  go_wp2
  go_quiet (fail)
  go_wp2
  refine wp_region_ex (by kernel_rfl) (by kernel_rfl) ?_
  repeat (quiet_step ((first | (go_at_call 133; exact Calls.ex_of (tilted_any sl wd gp ti sh (64 : Int) ht0 ht1 _)) | (go_at_call 134; exact Calls.ex_of (pass_any sl wd gp (64 : Int) sh he HW.out HG.out HS.out hh0 hh1 ht0 ht1 _)))))
  refine wpQuiet_nil ?_
  intro _ hw'
  obtain ⟨xq, hw''⟩ := hw'
  subst hw''
  go_wp2
  go_region
  all_goals go_wp2
  all_goals
    refine bodyPost_ret (v := Value.tuple #[Value.agg #[Value.int .i16 (64), Value.int .i8 (0), Value.int .i8 (0)], Value.float .f32 (insideF wd gp sh (64 : Int) li he), Value.bool false]) (by simp [results, Try.results108, go_sem]) rfl ⟨rfl, ex_of (by (repeat' (first | (with_reducible exact Below.refl _ _) | (with_reducible assumption) | (with_reducible refine below_ext' ?_ ?_) | (with_reducible refine Below.alloc ?_ ?_ _) | (with_reducible refine below_drewN ?_ _) | (with_reducible refine Below.drew ?_) | (with_reducible refine Below.setCell ?_ ?_ _) | (with_reducible exact Nat.le_refl _) | (with_reducible refine ext_le _ _ ?_) | (simp; done) | (simp; omega) | omega)))⟩

set_option maxRecDepth 100000 in
set_option maxHeartbeats 2000000 in
theorem tick_B2La (b o : Nat) (lo hi wi : Nat) (st de ca : Int) (sl : Int) (wd gp : Nat) (ti : Int) (sh : Nat) (ti' : Int) (li gu : Nat) (he : Int)
    (hw : Len wd) (hg : Len gp) (hs : Part sh) (hl : Part li) (hh0 : 1 ≤ he) (hh1 : he ≤ 64) (ht0 : -64 ≤ ti') (ht1 : ti' ≤ 64) (hst0 : 1 ≤ st) (hst1 : st ≤ 64) (hgu : fgt gu wi = false)
    (hn1 : fgt (insideF wd gp sh ti' li he) hi = false) (hn2 : flt (insideF wd gp sh ti' li he) lo = true) (hx : -64 ≤ ti' - st)
    (w : World) (hC : ControlAt w b o lo hi wi st de ca) :
    Calls Try.prog 108 #[.pointer (some ⟨b, o, none⟩), .agg #[.int .i8 sl, .float .f32 wd, .float .f32 gp, .int .i16 ti, .float .f32 sh], Value.agg #[Value.int .i16 (ti'), Value.int .i8 (0), Value.int .i8 (0)], .agg #[.float .f32 li, .float .f32 gu, .int .i8 he]] w fun e w' =>
      e = .returned (Value.tuple #[Value.agg #[Value.int .i16 ((ti' - st)), Value.int .i8 (de), Value.int .i8 (0)], Value.float .f32 (insideF wd gp sh ti' li he), Value.bool false]) ∧ ∃ x, w' = ext w x := by
  obtain ⟨c0, c1, c2, c3, c4, c5⟩ := hC
  have lb : b < w.heap.size := World.block_lt_of_cell? w _ c0
  obtain ⟨l1, l2, l3, l4, l5, l6⟩ := lts lb
  have e1 := inside_step (ti := ti') hw hg hs hl hh0 hh1
  have HW := Lib.hid hw; have HG := Lib.hid hg; have HS := Lib.hid hs; clear hw hg hs hl
  have hh64 : IntKind.i64.wrap he = he := IntWalk.i64_in _ (by omega)
  have ht64 : IntKind.i64.wrap (ti') = ti' := IntWalk.i64_in _ (by omega)
  go_enter Try.func108, Try.ntmps108
  go_wp2
  go_quiet (fail)
  go_wp2
  refine wp_region_ex (by kernel_rfl) (by kernel_rfl) ?_
  repeat (quiet_step ((first | (go_at_call 133; exact Calls.ex_of (tilted_any sl wd gp ti sh ti' ht0 ht1 _)) | (go_at_call 134; exact Calls.ex_of (pass_any sl wd gp ti' sh he HW.out HG.out HS.out hh0 hh1 ht0 ht1 _)))))
  refine wpQuiet_nil ?_
  intro _ hw'
  obtain ⟨xq, hw''⟩ := hw'
  subst hw''
  go_wp2
  go_region
  all_goals go_wp2
  all_goals
    refine bodyPost_ret (v := Value.tuple #[Value.agg #[Value.int .i16 ((ti' - st)), Value.int .i8 (de), Value.int .i8 (0)], Value.float .f32 (insideF wd gp sh ti' li he), Value.bool false]) (by simp [results, Try.results108, go_sem]) rfl ⟨rfl, ex_of (by (repeat' (first | (with_reducible exact Below.refl _ _) | (with_reducible assumption) | (with_reducible refine below_ext' ?_ ?_) | (with_reducible refine Below.alloc ?_ ?_ _) | (with_reducible refine below_drewN ?_ _) | (with_reducible refine Below.drew ?_) | (with_reducible refine Below.setCell ?_ ?_ _) | (with_reducible exact Nat.le_refl _) | (with_reducible refine ext_le _ _ ?_) | (simp; done) | (simp; omega) | omega)))⟩

set_option maxRecDepth 100000 in
set_option maxHeartbeats 2000000 in
theorem tick_B2Lb (b o : Nat) (lo hi wi : Nat) (st de ca : Int) (sl : Int) (wd gp : Nat) (ti : Int) (sh : Nat) (ti' : Int) (li gu : Nat) (he : Int)
    (hw : Len wd) (hg : Len gp) (hs : Part sh) (hl : Part li) (hh0 : 1 ≤ he) (hh1 : he ≤ 64) (ht0 : -64 ≤ ti') (ht1 : ti' ≤ 64) (hst0 : 1 ≤ st) (hst1 : st ≤ 64) (hgu : fgt gu wi = false)
    (hn1 : fgt (insideF wd gp sh ti' li he) hi = false) (hn2 : flt (insideF wd gp sh ti' li he) lo = true) (hx : ti' - st < -64) (hy : -64 < ti')
    (w : World) (hC : ControlAt w b o lo hi wi st de ca) :
    Calls Try.prog 108 #[.pointer (some ⟨b, o, none⟩), .agg #[.int .i8 sl, .float .f32 wd, .float .f32 gp, .int .i16 ti, .float .f32 sh], Value.agg #[Value.int .i16 (ti'), Value.int .i8 (0), Value.int .i8 (0)], .agg #[.float .f32 li, .float .f32 gu, .int .i8 he]] w fun e w' =>
      e = .returned (Value.tuple #[Value.agg #[Value.int .i16 ((-64)), Value.int .i8 (de), Value.int .i8 (0)], Value.float .f32 (insideF wd gp sh ti' li he), Value.bool false]) ∧ ∃ x, w' = ext w x := by
  obtain ⟨c0, c1, c2, c3, c4, c5⟩ := hC
  have lb : b < w.heap.size := World.block_lt_of_cell? w _ c0
  obtain ⟨l1, l2, l3, l4, l5, l6⟩ := lts lb
  have e1 := inside_step (ti := ti') hw hg hs hl hh0 hh1
  have HW := Lib.hid hw; have HG := Lib.hid hg; have HS := Lib.hid hs; clear hw hg hs hl
  have hh64 : IntKind.i64.wrap he = he := IntWalk.i64_in _ (by omega)
  have ht64 : IntKind.i64.wrap (ti') = ti' := IntWalk.i64_in _ (by omega)
  go_enter Try.func108, Try.ntmps108
  go_wp2
  go_quiet (fail)
  go_wp2
  refine wp_region_ex (by kernel_rfl) (by kernel_rfl) ?_
  repeat (quiet_step ((first | (go_at_call 133; exact Calls.ex_of (tilted_any sl wd gp ti sh ti' ht0 ht1 _)) | (go_at_call 134; exact Calls.ex_of (pass_any sl wd gp ti' sh he HW.out HG.out HS.out hh0 hh1 ht0 ht1 _)))))
  refine wpQuiet_nil ?_
  intro _ hw'
  obtain ⟨xq, hw''⟩ := hw'
  subst hw''
  go_wp2
  go_region
  all_goals go_wp2
  all_goals
    refine bodyPost_ret (v := Value.tuple #[Value.agg #[Value.int .i16 ((-64)), Value.int .i8 (de), Value.int .i8 (0)], Value.float .f32 (insideF wd gp sh ti' li he), Value.bool false]) (by simp [results, Try.results108, go_sem]) rfl ⟨rfl, ex_of (by (repeat' (first | (with_reducible exact Below.refl _ _) | (with_reducible assumption) | (with_reducible refine below_ext' ?_ ?_) | (with_reducible refine Below.alloc ?_ ?_ _) | (with_reducible refine below_drewN ?_ _) | (with_reducible refine Below.drew ?_) | (with_reducible refine Below.setCell ?_ ?_ _) | (with_reducible exact Nat.le_refl _) | (with_reducible refine ext_le _ _ ?_) | (simp; done) | (simp; omega) | omega)))⟩

set_option maxRecDepth 100000 in
set_option maxHeartbeats 2000000 in
theorem tick_B2Lc (b o : Nat) (lo hi wi : Nat) (st de ca : Int) (sl : Int) (wd gp : Nat) (ti : Int) (sh : Nat)  (li gu : Nat) (he : Int)
    (hw : Len wd) (hg : Len gp) (hs : Part sh) (hl : Part li) (hh0 : 1 ≤ he) (hh1 : he ≤ 64) (ht0 : -64 ≤ (-64 : Int)) (ht1 : (-64 : Int) ≤ 64) (hst0 : 1 ≤ st) (hst1 : st ≤ 64) (hgu : fgt gu wi = false)
    (hn1 : fgt (insideF wd gp sh (-64 : Int) li he) hi = false) (hn2 : flt (insideF wd gp sh (-64 : Int) li he) lo = true)
    (w : World) (hC : ControlAt w b o lo hi wi st de ca) :
    Calls Try.prog 108 #[.pointer (some ⟨b, o, none⟩), .agg #[.int .i8 sl, .float .f32 wd, .float .f32 gp, .int .i16 ti, .float .f32 sh], Value.agg #[Value.int .i16 ((-64 : Int)), Value.int .i8 (0), Value.int .i8 (0)], .agg #[.float .f32 li, .float .f32 gu, .int .i8 he]] w fun e w' =>
      e = .returned (Value.tuple #[Value.agg #[Value.int .i16 ((-64)), Value.int .i8 (0), Value.int .i8 (0)], Value.float .f32 (insideF wd gp sh (-64 : Int) li he), Value.bool false]) ∧ ∃ x, w' = ext w x := by
  obtain ⟨c0, c1, c2, c3, c4, c5⟩ := hC
  have lb : b < w.heap.size := World.block_lt_of_cell? w _ c0
  obtain ⟨l1, l2, l3, l4, l5, l6⟩ := lts lb
  have e1 := inside_step (ti := (-64 : Int)) hw hg hs hl hh0 hh1
  have HW := Lib.hid hw; have HG := Lib.hid hg; have HS := Lib.hid hs; clear hw hg hs hl
  have hh64 : IntKind.i64.wrap he = he := IntWalk.i64_in _ (by omega)
  have ht64 : IntKind.i64.wrap ((-64 : Int)) = (-64 : Int) := IntWalk.i64_in _ (by omega)
  go_enter Try.func108, Try.ntmps108
  go_wp2
  go_quiet (fail)
  go_wp2
  refine wp_region_ex (by kernel_rfl) (by kernel_rfl) ?_
  repeat (quiet_step ((first | (go_at_call 133; exact Calls.ex_of (tilted_any sl wd gp ti sh (-64 : Int) ht0 ht1 _)) | (go_at_call 134; exact Calls.ex_of (pass_any sl wd gp (-64 : Int) sh he HW.out HG.out HS.out hh0 hh1 ht0 ht1 _)))))
  refine wpQuiet_nil ?_
  intro _ hw'
  obtain ⟨xq, hw''⟩ := hw'
  subst hw''
  go_wp2
  go_region
  all_goals go_wp2
  all_goals
    refine bodyPost_ret (v := Value.tuple #[Value.agg #[Value.int .i16 ((-64)), Value.int .i8 (0), Value.int .i8 (0)], Value.float .f32 (insideF wd gp sh (-64 : Int) li he), Value.bool false]) (by simp [results, Try.results108, go_sem]) rfl ⟨rfl, ex_of (by (repeat' (first | (with_reducible exact Below.refl _ _) | (with_reducible assumption) | (with_reducible refine below_ext' ?_ ?_) | (with_reducible refine Below.alloc ?_ ?_ _) | (with_reducible refine below_drewN ?_ _) | (with_reducible refine Below.drew ?_) | (with_reducible refine Below.setCell ?_ ?_ _) | (with_reducible exact Nat.le_refl _) | (with_reducible refine ext_le _ _ ?_) | (simp; done) | (simp; omega) | omega)))⟩
end Go.Proofs.Ytbelopcfmjgfiaa
