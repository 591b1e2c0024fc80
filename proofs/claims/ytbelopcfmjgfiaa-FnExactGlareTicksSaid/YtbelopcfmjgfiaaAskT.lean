/- Contract: spec's l05Asked. No condition. -/
import Derived.Test.YtbelopcfmjgfiaaAskS
import Derived.Deep.LoopGhost
namespace Go.Proofs.Ytbelopcfmjgfiaa
open Go Go.RowKit Go.BigFrame
attribute [local go_sem] binOp_flt binOp_fgt binOp_feq binOp_fne binOp_fle binOp_fge faRes_some run_fadd run_fsub run_fmul run_fdiv run_ofI run_store_float run_neg run_min1 ext_cell ext_frozen ext_lt ext_setCell ext_drew ext_drewN
theorem ControlAt.below {w w' : World} {b o : Nat} {lo hi wi : Nat} {st de ca : Int} (h : ControlAt w b o lo hi wi st de ca) (hb : Below w.heap.size w w') : ControlAt w' b o lo hi wi st de ca :=
  have l := World.block_lt_of_cell? w _ h.c0
  ⟨(hb.cell (p := ⟨b, o, none⟩) l).trans h.c0, (hb.cell (p := ⟨b, o + 1, none⟩) l).trans h.c1, (hb.cell (p := ⟨b, o + 2, none⟩) l).trans h.c2, (hb.cell (p := ⟨b, o + 3, none⟩) l).trans h.c3, (hb.cell (p := ⟨b, o + 4, none⟩) l).trans h.c4, (hb.cell (p := ⟨b, o + 5, none⟩) l).trans h.c5⟩
theorem BlindAt.below {w w' : World} {b o : Nat} {sl : Int} {wd gp : Nat} {ti : Int} {sh : Nat} (h : BlindAt w b o sl wd gp ti sh) (hb : Below w.heap.size w w') : BlindAt w' b o sl wd gp ti sh :=
  have l := World.block_lt_of_cell? w _ h.c0
  ⟨(hb.cell (p := ⟨b, o, none⟩) l).trans h.c0, (hb.cell (p := ⟨b, o + 1, none⟩) l).trans h.c1, (hb.cell (p := ⟨b, o + 2, none⟩) l).trans h.c2, (hb.cell (p := ⟨b, o + 3, none⟩) l).trans h.c3, (hb.cell (p := ⟨b, o + 4, none⟩) l).trans h.c4⟩
theorem StateAt.below {w w' : World} {b o : Nat} {ti' wa sm : Int} (h : StateAt w b o ti' wa sm) (hb : Below w.heap.size w w') : StateAt w' b o ti' wa sm :=
  have l := World.block_lt_of_cell? w _ h.c0
  ⟨(hb.cell (p := ⟨b, o, none⟩) l).trans h.c0, (hb.cell (p := ⟨b, o + 1, none⟩) l).trans h.c1, (hb.cell (p := ⟨b, o + 2, none⟩) l).trans h.c2⟩
set_option maxRecDepth 100000 in
set_option maxHeartbeats 4000000 in
theorem l05Asked_any (b o bb ob bs os : Nat) (A : Option Addr) (n c : Nat) (T : Nat → Tk) (hS : Small n T) (hn : n ≤ 9223372036854775807) (lo hi wi : Nat) (st de ca : Int) (sl : Int) (wd gp : Nat) (ti : Int) (sh : Nat) (s : St) (F : Fits st de ca sl ti s) (w : World)
    (hC : ControlAt w b o lo hi wi st de ca) (hB : BlindAt w bb ob sl wd gp ti sh) (hSt : StateAt w bs os s.ti s.wa s.sm) (hT : RdT w A n T) :
    Calls Try.prog 56 #[.pointer (some ⟨b, o, none⟩), .pointer (some ⟨bb, ob, none⟩), .pointer (some ⟨bs, os, none⟩), .slice A n c] w fun e w' => e = .returned (.int .i64 (askF (vControl lo hi wi st de ca) (vBlind sl wd gp ti sh) (vState s.ti s.wa s.sm) (anyBad T n) n)) ∧ ∃ x, w' = ext w x := by
  have HV := fun W (hW : Below w.heap.size w W) => l05Ok_any b o lo hi wi st de ca F.a0 F.a1 F.b0 F.b1 F.c0 F.c1 W (hC.below hW)
  have HB := fun W (hW : Below w.heap.size w W) => l02Ok_any bb ob sl wd gp ti sh F.d0 F.d1 F.e0 F.e1 W (hB.below hW)
  have HS := fun W (hW : Below w.heap.size w W) => l05State_any bs os s.ti s.wa s.sm F.f0 F.f1 F.g0 F.g1 F.h0 F.h1 W (hSt.below hW)
  have HT := Lib.hid hT; have HN := Lib.hid hS; clear hC hB hSt hT hS F
  generalize vControl lo hi wi st de ca = vc at HV ⊢
  generalize vBlind sl wd gp ti sh = vb at HB ⊢
  generalize vState s.ti s.wa s.sm = vs at HS ⊢
  rcases cs2 vc vb with h1 | ⟨h1, h2⟩ | ⟨h1, h2⟩
  rotate_left 2
  cases vs
  rotate_left 1
  · subst h1; subst h2
    go_enter Try.func56, Try.ntmps56
    go_wp2_with (first | (go_at_call 95; refine (HV _ (by (repeat' (first | (with_reducible exact Below.refl _ _) | (with_reducible assumption) | (with_reducible refine below_ext' ?_ ?_) | (with_reducible refine Below.alloc ?_ ?_ _) | (with_reducible refine below_drewN ?_ _) | (with_reducible refine Below.drew ?_) | (with_reducible refine Below.setCell ?_ ?_ _) | (with_reducible exact Nat.le_refl _) | (with_reducible refine ext_le _ _ ?_) | (simp; done) | (simp; omega) | omega)))).mono ?_; rintro e w' ⟨rfl, x, rfl⟩) | (go_at_call 96; refine (HB _ (by (repeat' (first | (with_reducible exact Below.refl _ _) | (with_reducible assumption) | (with_reducible refine below_ext' ?_ ?_) | (with_reducible refine Below.alloc ?_ ?_ _) | (with_reducible refine below_drewN ?_ _) | (with_reducible refine Below.drew ?_) | (with_reducible refine Below.setCell ?_ ?_ _) | (with_reducible exact Nat.le_refl _) | (with_reducible refine ext_le _ _ ?_) | (simp; done) | (simp; omega) | omega)))).mono ?_; rintro e w' ⟨rfl, x, rfl⟩) | (go_at_call 97; refine (HS _ (by (repeat' (first | (with_reducible exact Below.refl _ _) | (with_reducible assumption) | (with_reducible refine below_ext' ?_ ?_) | (with_reducible refine Below.alloc ?_ ?_ _) | (with_reducible refine below_drewN ?_ _) | (with_reducible refine Below.drew ?_) | (with_reducible refine Below.setCell ?_ ?_ _) | (with_reducible exact Nat.le_refl _) | (with_reducible refine ext_le _ _ ?_) | (simp; done) | (simp; omega) | omega)))).mono ?_; rintro e w' ⟨rfl, x, rfl⟩))
    go_loopg [9] n (fun gg s9 wr => ∃ kk : Nat, kk ≤ n ∧ n - kk ≤ gg ∧ s9 = .int .i64 kk ∧ Aside (Below w.heap.size w wr) ∧ Aside (∀ j, j < kk → vTk (T j) = true))
    case atStart => exact ⟨0, Nat.zero_le _, by omega, rfl, (show Aside _ from (by (repeat' (first | (with_reducible exact Below.refl _ _) | (with_reducible assumption) | (with_reducible refine below_ext' ?_ ?_) | (with_reducible refine Below.alloc ?_ ?_ _) | (with_reducible refine below_drewN ?_ _) | (with_reducible refine Below.drew ?_) | (with_reducible refine Below.setCell ?_ ?_ _) | (with_reducible exact Nat.le_refl _) | (with_reducible refine ext_le _ _ ?_) | (simp; done) | (simp; omega) | omega)) : Below w.heap.size w _)), fun j hj => absurd hj (Nat.not_lt_zero _)⟩
    case round =>
      obtain ⟨kk, hkk, hg, rfl, BW, AA⟩ := hrel
      by_cases hlt : kk < n
      · have hltz : (kk : Int) < (n : Int) := by omega
        obtain ⟨bt, ot, rfl, t0, t1, t2⟩ := (HT.out.below BW.out) kk hlt
        obtain ⟨h0, h1⟩ := HN.out kk hlt
        have hcall := l05Tick_any bt (ot + kk * 3) (T kk).li (T kk).gu (T kk).he h0 h1 wr ⟨t0, t1, t2⟩
        cases hq : vTick (T kk).li (T kk).gu (T kk).he with
        | false =>
          rw [hq] at hcall
          go_wp2_with (go_at_call 98; refine hcall.mono ?_; rintro e w' ⟨rfl, x, rfl⟩)
          go_ret
          exact ⟨by rw [anyBad_mono hlt hq]; rfl, ex_of (by with_reducible (refine below_ext' BW.out ?_); exact BW.out.size)⟩
        | true =>
          rw [hq] at hcall
          go_wp2_with (go_at_call 98; refine hcall.mono ?_; rintro e w' ⟨rfl, x, rfl⟩)
          go_roundg (n - (kk + 1))
          case measure => omega
          case rel =>
            refine ⟨kk + 1, by omega, by omega, by go_num, (show Aside _ from below_ext' BW.out BW.out.size), (show Aside _ from fun j hj => ?_)⟩
            by_cases e : j = kk
            · subst e; exact hq
            · exact AA.out j (by omega)
      · have hltz : ¬ (kk : Int) < (n : Int) := by omega
        have : kk = n := by omega
        subst this
        by_cases hn1 : 100 < (kk : Int)
        all_goals
          go_wp2
          go_ret
          exact ⟨by rw [anyBad_false AA.out]; have hx : (100 < kk) = (100 < (kk : Int)) := by { simp; omega }
                    simp [askF, hx, hn1], ex_of BW.out⟩
  all_goals
    subst_vars
    go_enter Try.func56, Try.ntmps56
    go_wp2_with (first | (go_at_call 95; refine (HV _ (by (repeat' (first | (with_reducible exact Below.refl _ _) | (with_reducible assumption) | (with_reducible refine below_ext' ?_ ?_) | (with_reducible refine Below.alloc ?_ ?_ _) | (with_reducible refine below_drewN ?_ _) | (with_reducible refine Below.drew ?_) | (with_reducible refine Below.setCell ?_ ?_ _) | (with_reducible exact Nat.le_refl _) | (with_reducible refine ext_le _ _ ?_) | (simp; done) | (simp; omega) | omega)))).mono ?_; rintro e w' ⟨rfl, x, rfl⟩) | (go_at_call 96; refine (HB _ (by (repeat' (first | (with_reducible exact Below.refl _ _) | (with_reducible assumption) | (with_reducible refine below_ext' ?_ ?_) | (with_reducible refine Below.alloc ?_ ?_ _) | (with_reducible refine below_drewN ?_ _) | (with_reducible refine Below.drew ?_) | (with_reducible refine Below.setCell ?_ ?_ _) | (with_reducible exact Nat.le_refl _) | (with_reducible refine ext_le _ _ ?_) | (simp; done) | (simp; omega) | omega)))).mono ?_; rintro e w' ⟨rfl, x, rfl⟩) | (go_at_call 97; refine (HS _ (by (repeat' (first | (with_reducible exact Below.refl _ _) | (with_reducible assumption) | (with_reducible refine below_ext' ?_ ?_) | (with_reducible refine Below.alloc ?_ ?_ _) | (with_reducible refine below_drewN ?_ _) | (with_reducible refine Below.drew ?_) | (with_reducible refine Below.setCell ?_ ?_ _) | (with_reducible exact Nat.le_refl _) | (with_reducible refine ext_le _ _ ?_) | (simp; done) | (simp; omega) | omega)))).mono ?_; rintro e w' ⟨rfl, x, rfl⟩))
    go_ret
    exact ⟨by simp [askF], ex_of (by (repeat' (first | (with_reducible exact Below.refl _ _) | (with_reducible assumption) | (with_reducible refine below_ext' ?_ ?_) | (with_reducible refine Below.alloc ?_ ?_ _) | (with_reducible refine below_drewN ?_ _) | (with_reducible refine Below.drew ?_) | (with_reducible refine Below.setCell ?_ ?_ _) | (with_reducible exact Nat.le_refl _) | (with_reducible refine ext_le _ _ ?_) | (simp; done) | (simp; omega) | omega)))⟩
end Go.Proofs.Ytbelopcfmjgfiaa
