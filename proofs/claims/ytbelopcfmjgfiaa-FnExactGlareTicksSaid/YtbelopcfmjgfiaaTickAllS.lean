/- Contract: spec's TickAll. No condition. -/
import Derived.Test.YtbelopcfmjgfiaaTickAll
import Derived.Deep.DeepCutAuto
import Derived.Deep.CutRange
import Derived.Deep.RegionHeld3
import Derived.Deep.DrawnRows
namespace Go.Proofs.Ytbelopcfmjgfiaa
open Go Go.RowKit Go.BigFrame
attribute [local go_sem] binOp_flt binOp_fgt binOp_feq binOp_fne binOp_fle binOp_fge faRes_some run_fadd run_fsub run_fmul run_fdiv run_ofI run_store_float run_neg run_min1 ext_cell ext_frozen ext_lt ext_setCell ext_drew ext_drewN
/-- What holds ahead of a tick in spec's loops that collect: the boxes, and a slice of its own from B on. -/
structure SAcc (R : Rn) (sl ti : Int) (w : World) (B : Nat) (v : St) (t : TypeId) (m : Nat) (xs : List Value) (A : Option Addr) (c : Nat) (wr : World) : Prop where
  hB : w.heap.size + 1 + 1 + 1 ≤ B
  s : SInv R sl ti w v wr
  r : w.heap.size + 1 + 1 + 1 < B → wr.heap[w.heap.size + 1 + 1 + 1]? = some (.cells #[.int .i16 0, .int .i8 0, .int .i8 0] 51 (0, 0))
  own : wr.ownsRow B t 1 (.slice A m c) m xs
section
variable {R : Rn} {sl ti : Int} {w wr : World} {B : Nat} {v : St} {t : TypeId} {m : Nat} {xs : List Value} {A : Option Addr} {c : Nat}
theorem SAcc.grow (h : SAcc R sl ti w B v t m xs A c wr) {W : World} (hb : Below wr.heap.size wr W) : SAcc R sl ti w B v t m xs A c W :=
  ⟨h.hB, h.s.grow hb, fun hr => (hb.block _ (lt_of_block (h.r hr))).trans (h.r hr), own_same h.own (fun j hj => hb.block j (own_lt h.own hj).2)⟩
theorem SAcc.store (h : SAcc R sl ti w B v t m xs A c wr) (v2 : St) : SAcc R sl ti w B v2 t m xs A c (((wr.setCell ⟨w.heap.size + 1 + 1, 0, none⟩ (.int .i16 v2.ti)).setCell ⟨w.heap.size + 1 + 1, 1, none⟩ (.int .i8 v2.wa)).setCell ⟨w.heap.size + 1 + 1, 2, none⟩ (.int .i8 v2.sm)) := by
  obtain ⟨h1, h2, h3⟩ := setCell3 (.int .i16 v2.ti) (.int .i8 v2.wa) (.int .i8 v2.sm) h.s.s
  exact ⟨h.hB, h.s.store v2, fun hr => (h2 _ (by omega)).trans (h.r hr), own_same h.own (fun j hj => h2 j (by have := own_lt h.own hj; have := h.hB; omega))⟩
/-- One more is appended. -/
theorem SAcc.app (h : SAcc R sl ti w B v t m xs A c wr) (ob : Obj) {w1 : World} {g cap : Nat} {ys : List Value} (hg : (wr.alloc ob).grownBy w1 (Value.slice A m c).ownBlock)
    (ho : w1.ownsRow B t 1 (.slice (some ⟨g, 0, none⟩) (m + 1) cap) (m + 1) ys) : SAcc R sl ti w B v t (m + 1) ys (some ⟨g, 0, none⟩) cap w1 := by
  have hb : Below wr.heap.size wr (wr.alloc ob) := (Below.refl _ _).alloc (Nat.le_refl _) _
  have hblk : ∀ j, j < B → j < wr.heap.size → w1.heap[j]? = wr.heap[j]? := fun j hj hj2 => by
    refine (hg.block j (Nat.lt_of_lt_of_le hj2 hb.size) (fun e => ?_)).trans (hb.block j hj2)
    have := own_lt h.own (j := j) (by unfold owns; rw [← own_eq A m c]; exact e.symm)
    omega
  have hB := h.hB
  have z0 := lt_of_block h.s.c; have z1 := lt_of_block h.s.b; have z2 := lt_of_block h.s.s
  refine ⟨hB, ⟨⟨hg.os.trans (hb.os.trans h.s.old.os), hg.tape.trans (hb.tape.trans h.s.old.tape), hg.output.trans (hb.output.trans h.s.old.output), Nat.le_trans h.s.old.size (Nat.le_trans hb.size hg.size), fun k hk => ?_⟩, ?_, ?_, ?_⟩, fun hr => ?_, ho⟩
  · exact (hblk k (by omega) (by omega)).trans (h.s.old.block k hk)
  · exact (hblk _ (by omega) z0).trans h.s.c
  · exact (hblk _ (by omega) z1).trans h.s.b
  · exact (hblk _ (by omega) z2).trans h.s.s
  · exact (hblk _ hr (lt_of_block (h.r hr))).trans (h.r hr)
end
theorem SInv.cells {R : Rn} {sl ti : Int} {w wr : World} {v : St} (h : SInv R sl ti w v wr) : (fun w' : World => w'.cell? ⟨w.heap.size + 1, 0, none⟩ = some (.int .i8 sl) ∧ w'.cell? ⟨w.heap.size + 1, 1, none⟩ = some (.float .f32 R.wd) ∧ w'.cell? ⟨w.heap.size + 1, 2, none⟩ = some (.float .f32 R.gp) ∧ w'.cell? ⟨w.heap.size + 1, 3, none⟩ = some (.int .i16 ti) ∧ w'.cell? ⟨w.heap.size + 1, 4, none⟩ = some (.float .f32 R.sh) ∧ w'.cell? ⟨w.heap.size + 1 + 1, 0, none⟩ = some (.int .i16 v.ti) ∧ w'.cell? ⟨w.heap.size + 1 + 1, 1, none⟩ = some (.int .i8 v.wa) ∧ w'.cell? ⟨w.heap.size + 1 + 1, 2, none⟩ = some (.int .i8 v.sm)) wr :=
  ⟨cell_of_row _ _ _ _ _ _ h.b, cell_of_row _ _ _ _ _ _ h.b, cell_of_row _ _ _ _ _ _ h.b, cell_of_row _ _ _ _ _ _ h.b, cell_of_row _ _ _ _ _ _ h.b, cell_of_row _ _ _ _ _ _ h.s, cell_of_row _ _ _ _ _ _ h.s, cell_of_row _ _ _ _ _ _ h.s⟩
set_option maxRecDepth 100000 in
set_option maxHeartbeats 8000000 in
theorem TickAllS_any (R : Rn) (sl ti : Int) (A : Option Addr) (n c : Nat) (hS : Small n R.T) (hn : n ≤ 9223372036854775807) (hw : R.wd < 4294967296) (hg : R.gp < 4294967296) (F : Fits R.st R.de R.ca sl ti R.s0) (w : World) (hT : RdT w A n R.T) :
    Calls Try.prog 43 #[.agg #[.float .f32 R.lo, .float .f32 R.hi, .float .f32 R.wi, .int .i8 R.st, .int .i8 R.de, .int .i8 R.ca], .agg #[.int .i8 sl, .float .f32 R.wd, .float .f32 R.gp, .int .i16 ti, .float .f32 R.sh], R.s0.v, .slice A n c] w (TickAns R sl ti n w) := by
  have I0 := Lib.hid (t_start R sl ti w)
  have HA : Calls Try.prog 56 #[.pointer (some ⟨w.heap.size, 0, none⟩), .pointer (some ⟨w.heap.size + 1, 0, none⟩), .pointer (some ⟨w.heap.size + 1 + 1, 0, none⟩), .slice A n c] ((sW R sl ti w).alloc (.cells #[.int .i16 0, .int .i8 0, .int .i8 0] 51)) fun e w' => e = .returned (.int .i64 (R.ask sl ti n)) ∧ ∃ x, w' = ext ((sW R sl ti w).alloc (.cells #[.int .i16 0, .int .i8 0, .int .i8 0] 51)) x :=
    l05Asked_any _ _ _ _ _ _ A n c R.T hS hn R.lo R.hi R.wi R.st R.de R.ca sl R.wd R.gp ti R.sh R.s0 F _ I0.out.s.control
      ⟨cell_of_row _ _ _ _ _ _ I0.out.s.b, cell_of_row _ _ _ _ _ _ I0.out.s.b, cell_of_row _ _ _ _ _ _ I0.out.s.b, cell_of_row _ _ _ _ _ _ I0.out.s.b, cell_of_row _ _ _ _ _ _ I0.out.s.b⟩
      ⟨cell_of_row _ _ _ _ _ _ I0.out.s.s, cell_of_row _ _ _ _ _ _ I0.out.s.s, cell_of_row _ _ _ _ _ _ I0.out.s.s⟩ (hT.below I0.out.s.old)
  have HT := Lib.hid hT
  by_cases h : R.ask sl ti n = 0
  · have hok := Lib.hid (Rn.ok_of h hw hg)
    have hn2 := R.ask_le h
    have EA : Hid (R.outS sl ti n = R.st' n ∧ R.outN sl ti n = n ∧ R.ask sl ti n = 0) := ⟨by unfold Rn.outS; rw [if_pos h], by unfold Rn.outN; rw [if_pos h], h⟩
    rw [h] at HA
    clear h hS hw hg F hT
    unfold St.v
    obtain ⟨i0, hi, hz0, hz1, hz2⟩ := info_parts info_f32
    have Hi := Lib.hid hi; have H0 := Lib.hid hz0; have H1 := Lib.hid hz1; have H2 := Lib.hid hz2; clear hi hz0 hz1 hz2
    go_enter Try.func43, Try.ntmps43
    go_upto_region 4 with (go_at_call 56; refine (Calls.mono HA) ?_; rintro e w' ⟨rfl, x, rfl⟩)
    have I1 := I0.out.grow (below_ext _ x)
    generalize ext ((sW R sl ti w).alloc (.cells #[.int .i16 0, .int .i8 0, .int .i8 0] 51)) x = W0 at I1 ⊢
    clear I0 HA
    have z3 := lt_of_block I1.r
    have K0 : Hid (SAcc R sl ti w (w.heap.size + 1 + 1 + 1 + 1) (R.st' 0) 24 0 (R.lightsL 0) (some ⟨W0.heap.size, 0, none⟩) 0 (W0.alloc (.cells #[] 24))) :=
      ⟨by omega, I1.s.grow ((Below.refl _ _).alloc (Nat.le_refl _) _), fun _ => (Below.heap_alloc _ _ _ z3).trans I1.r, own_new W0 _ (by omega)⟩
    clear I1
    go_wp2
    go_loopg [12, 13, 14, 15] n (fun gg s12 s13 _ _ wr => ∃ kk : Nat, kk ≤ n ∧ n - kk ≤ gg ∧ s13 = .int .i64 kk ∧ ∃ A' c', s12 = .slice A' kk c' ∧ Aside (SAcc R sl ti w (w.heap.size + 1 + 1 + 1 + 1) (R.st' kk) 24 kk (R.lightsL kk) A' c' wr))
    case atStart => exact ⟨0, Nat.zero_le _, by omega, rfl, _, _, rfl, K0.out⟩
    case round =>
      obtain ⟨kk, hkk, hg, rfl, A', c', rfl, I⟩ := hrel
      by_cases hlt : kk < n
      · have hltz : (kk : Int) < (n : Int) := by omega
        obtain ⟨bt, ot, rfl, hTk⟩ := (HT.out.below I.out.s.old) kk hlt
        have HTk := Lib.hid hTk
        have hbt1 : bt < wr.heap.size := hTk.lt
        obtain ⟨t0, t1, t2⟩ := hTk
        obtain ⟨b0, b1, b2, b3, b4⟩ := row5 I.out.s.b
        obtain ⟨g0, g1, g2, f0, f1, f2⟩ := row3 I.out.s.s
        have z0 := lt_of_block I.out.s.c
        have z1 := lt_of_block I.out.s.b
        have z2 := lt_of_block I.out.s.s
        obtain ⟨p1, _, p2, p3⟩ := vTk_parts (hok.out.tk kk hlt)
        have HO := fun W (hW : Below wr.heap.size wr W) => once_any (b := w.heap.size) (o := 0) (tb := bt) (t_ := ot + kk * 3) sl ti hok.out.run (Rn.ok_at hok.out kk) (gu := (R.T kk).gu) p1 p2 p3 W (I.out.s.control.below hW) (HTk.out.below hW hbt1)
        have et : (tickF R.lo R.hi R.wi R.st R.de R.ca R.wd R.gp R.sh (R.st' kk) (R.T kk).li (R.T kk).gu (R.T kk).he) = R.st' (kk + 1) := rfl
        have el : (lightF R.wi R.ca R.wd R.gp R.sh (R.st' kk) (R.T kk).li (R.T kk).gu (R.T kk).he) = R.light kk := rfl
        rw [et, el] at HO
        clear et el
        unfold St.v at HO
        generalize hs2 : R.st' (kk + 1) = s2 at HO
        have Hs2 := Lib.hid hs2; clear hs2
        have HLs := Lib.hid (R.lightsL_succ kk)
        go_upto_region 8 with fail
        go_cut [14, 15] from 30 to 39 (fun s14 s15 wx => ∃ q : Nat, s14 = .pointer (some ⟨q, 0, none⟩) ∧ s15 = .float .f32 (R.light kk) ∧ Aside (Below wr.heap.size wr wx ∧ wx.heap[q]? = some (.cells #[.int .i16 s2.ti, .int .i8 s2.wa, .int .i8 s2.sm] 51 (0, 0))))
        case first =>
          generalize hv : R.st' kk = v at HO I g0 g1 g2
          have HV := Lib.hid hv; clear hv
          go_region_held3 (fun w' : World => w'.cell? ⟨w.heap.size + 1, 0, none⟩ = some (.int .i8 sl) ∧ w'.cell? ⟨w.heap.size + 1, 1, none⟩ = some (.float .f32 R.wd) ∧ w'.cell? ⟨w.heap.size + 1, 2, none⟩ = some (.float .f32 R.gp) ∧ w'.cell? ⟨w.heap.size + 1, 3, none⟩ = some (.int .i16 ti) ∧ w'.cell? ⟨w.heap.size + 1, 4, none⟩ = some (.float .f32 R.sh) ∧ w'.cell? ⟨w.heap.size + 1 + 1, 0, none⟩ = some (.int .i16 v.ti) ∧ w'.cell? ⟨w.heap.size + 1 + 1, 1, none⟩ = some (.int .i8 v.wa) ∧ w'.cell? ⟨w.heap.size + 1 + 1, 2, none⟩ = some (.int .i8 v.sm)) (exact (SAcc.grow I.out (by (repeat' (first | (with_reducible exact Below.refl _ _) | (with_reducible assumption) | (with_reducible refine below_ext' ?_ ?_) | (with_reducible refine Below.alloc ?_ ?_ _) | (with_reducible refine below_drewN ?_ _) | (with_reducible refine Below.drew ?_) | (with_reducible refine Below.setCell ?_ ?_ _) | (with_reducible exact Nat.le_refl _) | (with_reducible refine ext_le _ _ ?_) | (simp; done) | (simp; omega) | omega)))).s.cells) (first | (go_at_call 57; refine (HO _ (by (repeat' (first | (with_reducible exact Below.refl _ _) | (with_reducible assumption) | (with_reducible refine below_ext' ?_ ?_) | (with_reducible refine Below.alloc ?_ ?_ _) | (with_reducible refine below_drewN ?_ _) | (with_reducible refine Below.drew ?_) | (with_reducible refine Below.setCell ?_ ?_ _) | (with_reducible exact Nat.le_refl _) | (with_reducible refine ext_le _ _ ?_) | (simp; done) | (simp; omega) | omega)))).mono ?_; rintro e w' ⟨rfl, x, rfl⟩))
          all_goals (go_wp2_with fail; go_meet; refine ⟨_, rfl, rfl, (show Aside _ from ⟨by (repeat' (first | (with_reducible exact Below.refl _ _) | (with_reducible assumption) | (with_reducible refine below_ext' ?_ ?_) | (with_reducible refine Below.alloc ?_ ?_ _) | (with_reducible refine below_drewN ?_ _) | (with_reducible refine Below.drew ?_) | (with_reducible refine Below.setCell ?_ ?_ _) | (with_reducible exact Nat.le_refl _) | (with_reducible refine ext_le _ _ ?_) | (simp; done) | (simp; omega) | omega)), ?_⟩)⟩)
          all_goals first | exact heap_alloc_new _ _ | (rw [ext_block _ _ (by simp)]; exact heap_alloc_new _ _)
        case rest =>
          obtain ⟨q, rfl, rfl, hBq⟩ := hcut
          have I2 := Lib.hid (I.out.grow hBq.out.1)
          obtain ⟨q0, q1, q2, _, _, _⟩ := row3 hBq.out.2
          obtain ⟨r0, r1, r2, v0, v1, v2⟩ := row3 I2.out.s.s
          have I3 := Lib.hid (I2.out.store s2)
          clear b0 b1 b2 b3 b4 g0 g1 g2 f0 f1 f2 t0 t1 t2 HO hBq I2
          have z3' := lt_of_block (I3.out.r (by omega))
          simp only [World.setCell, Array.size_modify] at z3'
          have HN : Hid (∀ j u, [Value.float .f32 (R.light kk)][j]? = some u → ((((wc.setCell ⟨w.heap.size + 1 + 1, 0, none⟩ (.int .i16 s2.ti)).setCell ⟨w.heap.size + 1 + 1, 1, none⟩ (.int .i8 s2.wa)).setCell ⟨w.heap.size + 1 + 1, 2, none⟩ (.int .i8 s2.sm)).alloc (.cells #[.float .f32 (R.light kk)] 24)).cell? ((⟨wc.heap.size, 0, none⟩ : Addr).add j) = some u) := by
            have := World.news_of_block (heap_alloc_new (((wc.setCell ⟨w.heap.size + 1 + 1, 0, none⟩ (.int .i16 s2.ti)).setCell ⟨w.heap.size + 1 + 1, 1, none⟩ (.int .i8 s2.wa)).setCell ⟨w.heap.size + 1 + 1, 2, none⟩ (.int .i8 s2.sm)) (.cells #[.float .f32 (R.light kk)] 24))
            rw [show (((wc.setCell ⟨w.heap.size + 1 + 1, 0, none⟩ (.int .i16 s2.ti)).setCell ⟨w.heap.size + 1 + 1, 1, none⟩ (.int .i8 s2.wa)).setCell ⟨w.heap.size + 1 + 1, 2, none⟩ (.int .i8 s2.sm)).heap.size = wc.heap.size by simp] at this
            exact this
          go_wp2_with (at_builtin
                       refine wpList_append_lies _ rfl _ _ 22 rfl (w.heap.size + 1 + 1 + 1 + 1) 24 i0 (.float .f32 0) 1 4 Try.underlying22 Hi.out H0.out H1.out H2.out rfl (by decide) (.slice A' kk c') kk _ rfl (I3.out.own.alloc _) ⟨wc.heap.size, 0, none⟩ 1 1 [.float .f32 (R.light kk)] rfl rfl HN.out (by simp [Value.oneCell']) (by decide) (by unfold maxLen; omega) (by omega) (by simp; omega) (wc.heap.size + 1) (by simp) ?_
                       intro g cap w1 hown1 hgrow hat hlt1
                       have I4 := Lib.hid (I3.out.app _ hgrow hown1)
                       clear hown1 hgrow hat hlt1 HN)
          go_roundg (n - (kk + 1))
          case measure => omega
          case rel =>
            refine ⟨kk + 1, by omega, by omega, by go_num, _, cap, rfl, ?_⟩
            rw [HLs.out, Hs2.out]; exact I4.out
      · have hltz : ¬ (kk : Int) < (n : Int) := by omega
        have : kk = n := by omega
        subst this
        have hr := I.out.r (by omega)
        obtain ⟨r0, r1, r2, f0, f1, f2⟩ := row3 hr
        obtain ⟨g0, g1, g2, _, _, _⟩ := row3 I.out.s.s
        have z4 := lt_of_block hr
        have hr2 := Lib.hid hr; clear hr
        have E2 := EA.out.1; have E3 := EA.out.2.1; have E4 := EA.out.2.2
        generalize hsn : R.st' kk = sn at g0 g1 g2 E2
        clear hsn
        have K1 : Below w.heap.size w (((wr.setCell ⟨w.heap.size + 1 + 1 + 1, 0, none⟩ (.int .i16 sn.ti)).setCell ⟨w.heap.size + 1 + 1 + 1, 1, none⟩ (.int .i8 sn.wa)).setCell ⟨w.heap.size + 1 + 1 + 1, 2, none⟩ (.int .i8 sn.sm)) := by
          have := I.out.s.old
          (repeat' (first | (with_reducible exact Below.refl _ _) | (with_reducible assumption) | (with_reducible refine below_ext' ?_ ?_) | (with_reducible refine Below.alloc ?_ ?_ _) | (with_reducible refine below_drewN ?_ _) | (with_reducible refine Below.drew ?_) | (with_reducible refine Below.setCell ?_ ?_ _) | (with_reducible exact Nat.le_refl _) | (with_reducible refine ext_le _ _ ?_) | (simp; done) | (simp; omega) | omega))
        have K2 : Apart (fun j => j = w.heap.size + 1 + 1 + 1) wr (((wr.setCell ⟨w.heap.size + 1 + 1 + 1, 0, none⟩ (.int .i16 sn.ti)).setCell ⟨w.heap.size + 1 + 1 + 1, 1, none⟩ (.int .i8 sn.wa)).setCell ⟨w.heap.size + 1 + 1 + 1, 2, none⟩ (.int .i8 sn.sm)) := by
          (repeat' (first | (with_reducible exact apart_refl _ _) | (with_reducible assumption) | (with_reducible refine Apart.set ?_ ?_ _) | (with_reducible refine apart_alloc ?_ _) | (with_reducible refine apart_drew ?_) | (with_reducible rfl) | (with_reducible exact Or.inl rfl) | rfl))
        have K3 := (setCell3 (.int .i16 sn.ti) (.int .i8 sn.wa) (.int .i8 sn.sm) hr2.out).1
        obtain ⟨A2, c2, hv, hO⟩ := Own.of_row I.out.own (fun k hk => R.lightsL_get hk)
        injection hv with hv1 hv2 hv3
        subst hv1
        clear hv2 hv3
        have hO2 : Hid (Own (((wr.setCell ⟨w.heap.size + 1 + 1 + 1, 0, none⟩ (.int .i16 sn.ti)).setCell ⟨w.heap.size + 1 + 1 + 1, 1, none⟩ (.int .i8 sn.wa)).setCell ⟨w.heap.size + 1 + 1 + 1, 2, none⟩ (.int .i8 sn.sm)) w.heap.size A' kk 24 (fun k => .float .f32 (R.light k))) := (hO.lower (by omega)).block fun j hj hb => K2.block j hj (fun e => by
          obtain ⟨o', ho'⟩ := hb
          have := (own_lt I.out.own (j := j) (by rw [ho']; rfl)).1
          omega)
        have HF : Hid (TickAns R sl ti kk w (.returned (.tuple #[.agg #[.int .i16 sn.ti, .int .i8 sn.wa, .int .i8 sn.sm], .slice A' kk c', .int .i64 0])) (((wr.setCell ⟨w.heap.size + 1 + 1 + 1, 0, none⟩ (.int .i16 sn.ti)).setCell ⟨w.heap.size + 1 + 1 + 1, 1, none⟩ (.int .i8 sn.wa)).setCell ⟨w.heap.size + 1 + 1 + 1, 2, none⟩ (.int .i8 sn.sm))) := by
          refine ⟨A', c', ?_, ex_of K1, ?_⟩
          · rw [E2, E3, E4]; rfl
          · rw [E3]; exact hO2.out
        clear E2 E3 E4 hO hO2 K2 hr2
        have HK1 := Lib.hid K1; have HK3 := Lib.hid K3; clear K1 K3
        go_wp2
        generalize ((wr.setCell ⟨w.heap.size + 1 + 1 + 1, 0, none⟩ (.int .i16 sn.ti)).setCell ⟨w.heap.size + 1 + 1 + 1, 1, none⟩ (.int .i8 sn.wa)).setCell ⟨w.heap.size + 1 + 1 + 1, 2, none⟩ (.int .i8 sn.sm) = W9 at HF HK3 ⊢
        obtain ⟨q0, q1, q2, _, _, _⟩ := row3 HK3.out
        refine bodyPost_ret (v := .tuple #[.agg #[.int .i16 sn.ti, .int .i8 sn.wa, .int .i8 sn.sm], .slice A' kk c', .int .i64 0]) ?_ rfl HF.out
        simp [results, Try.results43, go_sem, q0, q1, q2]
  · have EA : Hid (R.outS sl ti n = ⟨0, 0, 0⟩ ∧ R.outN sl ti n = 0) := ⟨by unfold Rn.outS; rw [if_neg h], by unfold Rn.outN; rw [if_neg h]⟩
    have hb : (R.ask sl ti n == 0) = false := by simpa using h
    have hb' : (R.ask sl ti n != 0) = true := by simpa using h
    have HF : ∀ W9 A9, Below w.heap.size w W9 → TickAns R sl ti n w (.returned (.tuple #[.agg #[.int .i16 0, .int .i8 0, .int .i8 0], .slice A9 0 0, .int .i64 (R.ask sl ti n)])) W9 := fun W9 A9 hW => by
      refine ⟨A9, 0, ?_, ex_of hW, ?_⟩
      · rw [EA.out.1, EA.out.2]; rfl
      · rw [EA.out.2]; exact .inl rfl
    clear hS hw hg F hT h
    have HF2 := Lib.hid HF; clear HF EA
    generalize R.ask sl ti n = cd at HA hb hb' HF2
    unfold St.v
    go_enter Try.func43, Try.ntmps43
    go_upto_region 3 with (go_at_call 56; refine (Calls.mono HA) ?_; rintro e w' ⟨rfl, x, rfl⟩)
    have I1 := I0.out.grow (below_ext _ x)
    generalize ext ((sW R sl ti w).alloc (.cells #[.int .i16 0, .int .i8 0, .int .i8 0] 51)) x = W0 at I1 ⊢
    clear I0 HA
    obtain ⟨r0, r1, r2, f0, f1, f2⟩ := row3 I1.r
    have z3 := lt_of_block I1.r
    have I := Lib.hid I1; clear I1
    go_wp2
    have K1 : Below w.heap.size w ((((W0.setCell ⟨w.heap.size + 1 + 1 + 1, 0, none⟩ (.int .i16 0)).setCell ⟨w.heap.size + 1 + 1 + 1, 1, none⟩ (.int .i8 0)).setCell ⟨w.heap.size + 1 + 1 + 1, 2, none⟩ (.int .i8 0)).alloc (.cells #[] 24)) := by
      have := I.out.s.old
      (repeat' (first | (with_reducible exact Below.refl _ _) | (with_reducible assumption) | (with_reducible refine below_ext' ?_ ?_) | (with_reducible refine Below.alloc ?_ ?_ _) | (with_reducible refine below_drewN ?_ _) | (with_reducible refine Below.drew ?_) | (with_reducible refine Below.setCell ?_ ?_ _) | (with_reducible exact Nat.le_refl _) | (with_reducible refine ext_le _ _ ?_) | (simp; done) | (simp; omega) | omega))
    have K3 : ((((W0.setCell ⟨w.heap.size + 1 + 1 + 1, 0, none⟩ (.int .i16 0)).setCell ⟨w.heap.size + 1 + 1 + 1, 1, none⟩ (.int .i8 0)).setCell ⟨w.heap.size + 1 + 1 + 1, 2, none⟩ (.int .i8 0)).alloc (.cells #[] 24)).heap[w.heap.size + 1 + 1 + 1]? = some (.cells #[.int .i16 0, .int .i8 0, .int .i8 0] 51 (0, 0)) := by
      obtain ⟨h1, h2, h3⟩ := setCell3 (.int .i16 0) (.int .i8 0) (.int .i8 0) I.out.r
      exact (Below.heap_alloc _ _ _ (by rw [h3]; exact z3)).trans h1
    generalize (((W0.setCell ⟨w.heap.size + 1 + 1 + 1, 0, none⟩ (.int .i16 0)).setCell ⟨w.heap.size + 1 + 1 + 1, 1, none⟩ (.int .i8 0)).setCell ⟨w.heap.size + 1 + 1 + 1, 2, none⟩ (.int .i8 0)).alloc (.cells #[] 24) = W9 at K1 K3 ⊢
    obtain ⟨q0, q1, q2, _, _, _⟩ := row3 K3
    refine bodyPost_ret (v := .tuple #[.agg #[.int .i16 0, .int .i8 0, .int .i8 0], .slice (some ⟨W0.heap.size, 0, none⟩) 0 0, .int .i64 cd]) ?_ rfl (HF2.out _ _ K1)
    simp [results, Try.results43, go_sem, q0, q1, q2]
end Go.Proofs.Ytbelopcfmjgfiaa
