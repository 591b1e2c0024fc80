/- Contract: spec's RaisedIn. No condition. -/
import Derived.Test.YtbelopcfmjgfiaaAskT
import Derived.Test.YtbelopcfmjgfiaaOnceJ
import Derived.Test.YtbelopcfmjgfiaaRaised
import Derived.Deep.DeepCutAuto
import Derived.Deep.CutRange
namespace Go.Proofs.Ytbelopcfmjgfiaa
open Go Go.RowKit Go.BigFrame
attribute [local go_sem] binOp_flt binOp_fgt binOp_feq binOp_fne binOp_fle binOp_fge faRes_some run_fadd run_fsub run_fmul run_fdiv run_ofI run_store_float run_neg run_min1 ext_cell ext_frozen ext_lt ext_setCell ext_drew ext_drewN
/-- What holds ahead of tick kk in spec's loops: the boxes of the control, the blind, the state v. -/
structure SInv (R : Rn) (sl ti : Int) (w : World) (v : St) (wr : World) : Prop where
  old : Below w.heap.size w wr
  c : wr.heap[w.heap.size]? = some (.cells #[.float .f32 R.lo, .float .f32 R.hi, .float .f32 R.wi, .int .i8 R.st, .int .i8 R.de, .int .i8 R.ca] 47 (0, 0))
  b : wr.heap[w.heap.size + 1]? = some (.cells #[.int .i8 sl, .float .f32 R.wd, .float .f32 R.gp, .int .i16 ti, .float .f32 R.sh] 49 (0, 0))
  s : wr.heap[w.heap.size + 1 + 1]? = some (.cells #[.int .i16 v.ti, .int .i8 v.wa, .int .i8 v.sm] 51 (0, 0))
noncomputable def sW (R : Rn) (sl ti : Int) (w : World) : World :=
  ((w.alloc (.cells #[.float .f32 R.lo, .float .f32 R.hi, .float .f32 R.wi, .int .i8 R.st, .int .i8 R.de, .int .i8 R.ca] 47)).alloc (.cells #[.int .i8 sl, .float .f32 R.wd, .float .f32 R.gp, .int .i16 ti, .float .f32 R.sh] 49)).alloc (.cells #[.int .i16 R.s0.ti, .int .i8 R.s0.wa, .int .i8 R.s0.sm] 51)
section
variable {R : Rn} {sl ti : Int} {w wr : World} {v : St}
theorem lt_of_block {b : Nat} {o : Obj} (h : w.heap[b]? = some o) : b < w.heap.size := by
  rcases Nat.lt_or_ge b w.heap.size with h1 | h1
  · exact h1
  · rw [Array.getElem?_eq_none h1] at h; cases h
theorem s_start : SInv R sl ti w (R.st' 0) (sW R sl ti w) := by
  unfold sW
  refine ⟨(((Below.refl _ _).alloc (Nat.le_refl _) _).alloc (by simp) _).alloc (by simp; omega) _, ?_, ?_, ?_⟩
  · exact ((((Below.refl (w.heap.size + 1) (w.alloc (.cells #[.float .f32 R.lo, .float .f32 R.hi, .float .f32 R.wi, .int .i8 R.st, .int .i8 R.de, .int .i8 R.ca] 47))).alloc (by simp) _).alloc (by simp) _).block _ (by omega)).trans (heap_alloc_new w _)
  · rw [show w.heap.size + 1 = (w.alloc (.cells #[.float .f32 R.lo, .float .f32 R.hi, .float .f32 R.wi, .int .i8 R.st, .int .i8 R.de, .int .i8 R.ca] 47)).heap.size by simp]
    exact (((Below.refl _ _).alloc (Nat.le_refl _) _).block _ (by simp)).trans (heap_alloc_new _ _)
  · rw [show w.heap.size + 1 + 1 = ((w.alloc (.cells #[.float .f32 R.lo, .float .f32 R.hi, .float .f32 R.wi, .int .i8 R.st, .int .i8 R.de, .int .i8 R.ca] 47)).alloc (.cells #[.int .i8 sl, .float .f32 R.wd, .float .f32 R.gp, .int .i16 ti, .float .f32 R.sh] 49)).heap.size by simp]
    exact heap_alloc_new _ _
theorem SInv.grow (h : SInv R sl ti w v wr) {W : World} (hb : Below wr.heap.size wr W) : SInv R sl ti w v W :=
  ⟨h.old.trans (hb.mono h.old.size), (hb.block _ (lt_of_block h.c)).trans h.c, (hb.block _ (lt_of_block h.b)).trans h.b, (hb.block _ (lt_of_block h.s)).trans h.s⟩
theorem SInv.store (h : SInv R sl ti w v wr) (v2 : St) : SInv R sl ti w v2 (((wr.setCell ⟨w.heap.size + 1 + 1, 0, none⟩ (.int .i16 v2.ti)).setCell ⟨w.heap.size + 1 + 1, 1, none⟩ (.int .i8 v2.wa)).setCell ⟨w.heap.size + 1 + 1, 2, none⟩ (.int .i8 v2.sm)) := by
  obtain ⟨h1, h2, h3⟩ := setCell3 (.int .i16 v2.ti) (.int .i8 v2.wa) (.int .i8 v2.sm) h.s
  exact ⟨⟨h.old.os, h.old.tape, h.old.output, by rw [h3]; exact h.old.size, fun k hk => (h2 k (by omega)).trans (h.old.block k hk)⟩, (h2 _ (by omega)).trans h.c, (h2 _ (by omega)).trans h.b, h1⟩
theorem SInv.control (h : SInv R sl ti w v wr) : ControlAt wr w.heap.size 0 R.lo R.hi R.wi R.st R.de R.ca :=
  ⟨cell_of_row _ _ _ _ _ _ h.c, cell_of_row _ _ _ _ _ _ h.c, cell_of_row _ _ _ _ _ _ h.c, cell_of_row _ _ _ _ _ _ h.c, cell_of_row _ _ _ _ _ _ h.c, cell_of_row _ _ _ _ _ _ h.c⟩
end
theorem Rn.up_storm (R : Rn) (k : Nat) : R.up k = decide (0 < (R.st' (k + 1)).sm) := by
  have e : ∀ s li gu he, (tickF R.lo R.hi R.wi R.st R.de R.ca R.wd R.gp R.sh s li gu he).sm = stormF R.wi R.ca gu s.sm := by
    intro s li gu he; unfold tickF; split
    · rfl
    · split
      · rfl
      · split <;> rfl
  unfold Rn.up upF; rw [← e (R.st' k) (R.T k).li (R.T k).gu (R.T k).he]; rfl
set_option maxRecDepth 100000 in
set_option maxHeartbeats 4000000 in
theorem RaisedInS_any (R : Rn) (sl ti : Int) (A : Option Addr) (n c : Nat) (hS : Small n R.T) (hn : n ≤ 9223372036854775807) (hw : R.wd < 4294967296) (hg : R.gp < 4294967296) (F : Fits R.st R.de R.ca sl ti R.s0) (w : World) (hT : RdT w A n R.T) :
    Calls Try.prog 21 #[.agg #[.float .f32 R.lo, .float .f32 R.hi, .float .f32 R.wi, .int .i8 R.st, .int .i8 R.de, .int .i8 R.ca], .agg #[.int .i8 sl, .float .f32 R.wd, .float .f32 R.gp, .int .i16 ti, .float .f32 R.sh], R.s0.v, .slice A n c] w fun e w' =>
      e = .returned (.tuple #[.int .i64 (if R.ask sl ti n = 0 then R.many n else 0), .int .i64 (R.ask sl ti n)]) ∧ ∃ x, w' = ext w x := by
  have I0 := Lib.hid (s_start (R := R) (sl := sl) (ti := ti) (w := w))
  have HA : Calls Try.prog 56 #[.pointer (some ⟨w.heap.size, 0, none⟩), .pointer (some ⟨w.heap.size + 1, 0, none⟩), .pointer (some ⟨w.heap.size + 1 + 1, 0, none⟩), .slice A n c] (sW R sl ti w) fun e w' => e = .returned (.int .i64 (R.ask sl ti n)) ∧ ∃ x, w' = ext (sW R sl ti w) x :=
    l05Asked_any _ _ _ _ _ _ A n c R.T hS hn R.lo R.hi R.wi R.st R.de R.ca sl R.wd R.gp ti R.sh R.s0 F _ I0.out.control
      ⟨cell_of_row _ _ _ _ _ _ I0.out.b, cell_of_row _ _ _ _ _ _ I0.out.b, cell_of_row _ _ _ _ _ _ I0.out.b, cell_of_row _ _ _ _ _ _ I0.out.b, cell_of_row _ _ _ _ _ _ I0.out.b⟩
      ⟨cell_of_row _ _ _ _ _ _ I0.out.s, cell_of_row _ _ _ _ _ _ I0.out.s, cell_of_row _ _ _ _ _ _ I0.out.s⟩ (hT.below I0.out.old)
  have HT := Lib.hid hT
  by_cases h : R.ask sl ti n = 0
  · have hok := Lib.hid (Rn.ok_of h hw hg)
    rw [if_pos h]
    rw [h] at HA ⊢
    clear h hS hw hg F hT
    unfold St.v
    go_enter Try.func21, Try.ntmps21
    go_wp2_with (first
      | (go_at_call 56
         refine (Calls.mono HA) ?_
         rintro e w' ⟨rfl, x, rfl⟩))
    have I1 := Lib.hid (I0.out.grow (below_ext (sW R sl ti w) x))
    unfold sW at I1
    go_loopg [11, 12, 13, 14] n (fun gg s11 s12 _ _ wr => ∃ kk : Nat, kk ≤ n ∧ n - kk ≤ gg ∧ s12 = .int .i64 kk ∧ s11 = .int .i64 (R.many kk) ∧ Aside (SInv R sl ti w (R.st' kk) wr))
    case atStart => exact ⟨0, Nat.zero_le _, by omega, rfl, rfl, I1.out⟩
    case round =>
      obtain ⟨kk, hkk, hg, rfl, rfl, I⟩ := hrel
      by_cases hlt : kk < n
      · have hltz : (kk : Int) < (n : Int) := by omega
        obtain ⟨bt, ot, rfl, hTk⟩ := (HT.out.below I.out.old) kk hlt
        have HTk := Lib.hid hTk
        have hbt1 : bt < wr.heap.size := hTk.lt
        obtain ⟨t0, t1, t2⟩ := hTk
        obtain ⟨b0, b1, b2, b3, b4⟩ := row5 I.out.b
        obtain ⟨g0, g1, g2, f0, f1, f2⟩ := row3 I.out.s
        have z0 := lt_of_block I.out.c
        have z1 := lt_of_block I.out.b
        have z2 := lt_of_block I.out.s
        obtain ⟨p1, _, p2, p3⟩ := vTk_parts (hok.out.tk kk hlt)
        have HO := fun W (hW : Below wr.heap.size wr W) => once_any (b := w.heap.size) (o := 0) (tb := bt) (t_ := ot + kk * 3) sl ti hok.out.run (Rn.ok_at hok.out kk) (gu := (R.T kk).gu) p1 p2 p3 W (I.out.control.below hW) (HTk.out.below hW hbt1)
        have et : (tickF R.lo R.hi R.wi R.st R.de R.ca R.wd R.gp R.sh (R.st' kk) (R.T kk).li (R.T kk).gu (R.T kk).he) = R.st' (kk + 1) := rfl
        have el : (lightF R.wi R.ca R.wd R.gp R.sh (R.st' kk) (R.T kk).li (R.T kk).gu (R.T kk).he) = R.light kk := rfl
        rw [et, el] at HO
        clear et el
        have hu := R.up_storm kk
        unfold St.v at HO
        generalize hs2 : R.st' (kk + 1) = s2 at HO hu
        have Hs2 := Lib.hid hs2; clear hs2
        have hm := R.many_le kk
        have hmn : R.many (kk + 1) = if R.up kk = true then R.many kk + 1 else R.many kk := rfl
        rw [hu] at hmn
        have Hm := Lib.hid hmn; clear hmn hu
        go_upto_region 8 with fail
        go_cut [13, 14] from 26 to 34 (fun s13 s14 wx => ∃ q : Nat, s13 = .pointer (some ⟨q, 0, none⟩) ∧ s14 = .float .f32 (R.light kk) ∧ Aside (Below wr.heap.size wr wx ∧ wx.heap[q]? = some (.cells #[.int .i16 s2.ti, .int .i8 s2.wa, .int .i8 s2.sm] 51 (0, 0))))
        case first =>
          go_region_with (go_at_call 57; refine (HO _ (by (repeat' (first | (with_reducible exact Below.refl _ _) | (with_reducible assumption) | (with_reducible refine below_ext' ?_ ?_) | (with_reducible refine Below.alloc ?_ ?_ _) | (with_reducible refine below_drewN ?_ _) | (with_reducible refine Below.drew ?_) | (with_reducible refine Below.setCell ?_ ?_ _) | (with_reducible exact Nat.le_refl _) | (with_reducible refine ext_le _ _ ?_) | (simp; done) | (simp; omega) | omega)))).mono ?_; rintro e w' ⟨rfl, x, rfl⟩)
          all_goals (go_wp2_with fail; go_meet; refine ⟨_, rfl, rfl, (show Aside _ from ⟨by (repeat' (first | (with_reducible exact Below.refl _ _) | (with_reducible assumption) | (with_reducible refine below_ext' ?_ ?_) | (with_reducible refine Below.alloc ?_ ?_ _) | (with_reducible refine below_drewN ?_ _) | (with_reducible refine Below.drew ?_) | (with_reducible refine Below.setCell ?_ ?_ _) | (with_reducible exact Nat.le_refl _) | (with_reducible refine ext_le _ _ ?_) | (simp; done) | (simp; omega) | omega)), ?_⟩)⟩)
          all_goals first | exact heap_alloc_new _ _ | (rw [ext_block _ _ (by simp)]; exact heap_alloc_new _ _)
        case rest =>
          obtain ⟨q, rfl, rfl, hBq⟩ := hcut
          have I2 := Lib.hid (I.out.grow hBq.out.1)
          obtain ⟨q0, q1, q2, _, _, _⟩ := row3 hBq.out.2
          obtain ⟨r0, r1, r2, v0, v1, v2⟩ := row3 I2.out.s
          have I3 := Lib.hid (I2.out.store s2)
          clear b0 b1 b2 b3 b4 g0 g1 g2 f0 f1 f2 t0 t1 t2 HO hBq I2
          by_cases hs : 0 < s2.sm
          · go_wp2
            go_roundg (n - (kk + 1))
            case measure => omega
            case rel =>
              refine ⟨kk + 1, by omega, by omega, by go_num, ?_, ?_⟩
              · have := Hm.out; rw [if_pos (by simpa using hs)] at this; rw [this]; rfl
              · rw [Hs2.out]; exact I3.out
          · go_wp2
            go_roundg (n - (kk + 1))
            case measure => omega
            case rel =>
              refine ⟨kk + 1, by omega, by omega, by go_num, ?_, ?_⟩
              · have := Hm.out; rw [if_neg (by simpa using hs)] at this; rw [this]
              · rw [Hs2.out]; exact I3.out
      · have hltz : ¬ (kk : Int) < (n : Int) := by omega
        have : kk = n := by omega
        subst this
        go_wp2
        refine bodyPost_ret (v := .tuple #[.int .i64 (R.many kk), .int .i64 0]) ?_ rfl ⟨rfl, ex_of I.out.old⟩
        simp [results, Try.results21]
  · rw [if_neg h]
    have hb : (R.ask sl ti n == 0) = false := by simpa using h
    have hb' : (R.ask sl ti n != 0) = true := by simpa using h
    generalize R.ask sl ti n = cd at *
    clear hS hw hg F hT
    unfold St.v
    go_enter Try.func21, Try.ntmps21
    go_wp2_with (first
      | (go_at_call 56
         refine (Calls.mono HA) ?_
         rintro e w' ⟨rfl, x, rfl⟩))
    refine bodyPost_ret (v := .tuple #[.int .i64 0, .int .i64 cd]) ?_ rfl ⟨rfl, ex_of (below_ext' I0.out.old I0.out.old.size)⟩
    simp [results, Try.results21]
end Go.Proofs.Ytbelopcfmjgfiaa
