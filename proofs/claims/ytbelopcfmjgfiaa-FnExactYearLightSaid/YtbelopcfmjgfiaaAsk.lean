/- Contracts: what a control, a blind, a state and ticks are told: impl's ticksCode, spec's l05Asked. No condition. -/
import Derived.Test.YtbelopcfmjgfiaaTickJ
import Derived.Deep.LoopGhost
import Derived.Deep.DeepFit
import Derived.Shelf.GgClosure.Gives
namespace Go.Proofs.Ytbelopcfmjgfiaa
open Go Go.RowKit
attribute [local go_sem] binOp_flt binOp_fgt binOp_feq binOp_fne binOp_fle binOp_fge faRes_some run_fadd run_fsub run_fmul run_fdiv run_ofI run_store_float run_neg run_min1 ext_cell ext_frozen ext_lt ext_setCell ext_drew ext_drewN
structure Tk where
  li : Nat
  gu : Nat
  he : Int
/-- n ticks lie from A on: T 0, T 1, .. -/
def RdT (w : World) (A : Option Addr) (n : Nat) (T : Nat → Tk) : Prop :=
  ∀ k, k < n → ∃ b o, A = some ⟨b, o, none⟩ ∧ TickAt w b (o + k * 3) (T k).li (T k).gu (T k).he
theorem TickAt.below {w w' : World} {B b o : Nat} {li gu : Nat} {he : Int} (h : TickAt w b o li gu he) (hb : Below B w w') (hB : b < B) : TickAt w' b o li gu he :=
  ⟨(hb.cell (p := ⟨b, o, none⟩) hB).trans h.c0, (hb.cell (p := ⟨b, o + 1, none⟩) hB).trans h.c1, (hb.cell (p := ⟨b, o + 2, none⟩) hB).trans h.c2⟩
theorem TickAt.lt {w : World} {b o : Nat} {li gu : Nat} {he : Int} (h : TickAt w b o li gu he) : b < w.heap.size := World.block_lt_of_cell? w _ h.c0
theorem RdT.below {w w' : World} {A : Option Addr} {n : Nat} {T : Nat → Tk} (h : RdT w A n T) (hb : Below w.heap.size w w') : RdT w' A n T := fun k hk => by
  obtain ⟨b, o, e, hc⟩ := h k hk
  exact ⟨b, o, e, hc.below hb hc.lt⟩
/-- The ticks' heights are int8. -/
def Small (n : Nat) (T : Nat → Tk) : Prop := ∀ k, k < n → -128 ≤ (T k).he ∧ (T k).he ≤ 127
def vTk (t : Tk) : Bool := vTick t.li t.gu t.he
/-- One of the first n ticks is not valid. -/
def anyBad (T : Nat → Tk) : Nat → Bool
  | 0 => false
  | k + 1 => anyBad T k || !vTk (T k)
theorem anyBad_mono {T : Nat → Tk} : ∀ {n k : Nat}, k < n → vTk (T k) = false → anyBad T n = true
  | 0, _, h, _ => absurd h (Nat.not_lt_zero _)
  | n + 1, k, h, hv => by
    unfold anyBad
    rcases Nat.lt_succ_iff_lt_or_eq.1 h with h1 | h1
    · rw [anyBad_mono h1 hv]; rfl
    · rw [h1] at hv; rw [hv]; simp
theorem anyBad_false {T : Nat → Tk} : ∀ {n : Nat}, (∀ k, k < n → vTk (T k) = true) → anyBad T n = false
  | 0, _ => rfl
  | n + 1, h => by unfold anyBad; rw [anyBad_false (fun k hk => h k (by omega)), h n (by omega)]; rfl
theorem ok_of_anyBad {T : Nat → Tk} {n : Nat} (h : anyBad T n = false) {k : Nat} (hk : k < n) : vTk (T k) = true := by
  cases hv : vTk (T k) with
  | true => rfl
  | false => rw [anyBad_mono hk hv] at h; cases h
def askF (vc vb vs bad : Bool) (n : Nat) : Int := if (vc && (vb && (vs && !bad))) = true then (if 100 < n then 3 else 0) else 1

set_option maxHeartbeats 1000000 in
theorem bad1_any (li gu : Nat) (he : Int) (h0 : -128 ≤ he) (h1 : he ≤ 127) (w : World) :
    Calls Try.prog 106 #[.agg #[.float .f32 li, .float .f32 gu, .int .i8 he]] w fun e w' => e = .returned (.bool (!vTick li gu he)) ∧ ∃ x, w' = ext w x := by
  go_enter Try.func106, Try.ntmps106
  go_wp2_with (go_at_call 107; refine (ValidTick_any li gu he h0 h1 _).mono ?_; rintro e w' ⟨rfl, x, rfl⟩)
  go_ret
  exact ⟨rfl, ex_of (by (repeat' (first | (with_reducible exact Below.refl _ _) | (with_reducible assumption) | (with_reducible refine below_ext' ?_ ?_) | (with_reducible refine Below.alloc ?_ ?_ _) | (with_reducible refine below_drewN ?_ _) | (with_reducible refine Below.drew ?_) | (with_reducible refine Below.setCell ?_ ?_ _) | (with_reducible exact Nat.le_refl _) | (with_reducible refine ext_le _ _ ?_) | (simp; done) | (simp; omega) | omega)))⟩

set_option maxHeartbeats 2000000 in
theorem badAt_any (A : Option Addr) (n c : Nat) (T : Nat → Tk) (hS : Small n T) (hn : n ≤ 9223372036854775807) (w : World) (hT : RdT w A n T) :
    Calls Try.prog 131 #[.slice A n c, .func (.func 106) #[] #[]] w fun e w' => ∃ r : Int, e = .returned (.int .i64 r) ∧ decide (0 ≤ r) = anyBad T n ∧ ∃ x, w' = ext w x := by
  have HT := Lib.hid hT; have HS := Lib.hid hS; clear hT hS
  go_enter Try.func131, Try.ntmps131
  go_wp2
  go_loopg [5, 8] n (fun gg _ s8 wr => ∃ kk : Nat, kk ≤ n ∧ n - kk ≤ gg ∧ s8 = .int .i64 kk ∧ Aside (Below w.heap.size w wr) ∧ Aside (∀ j, j < kk → vTk (T j) = true))
  case atStart => exact ⟨0, Nat.zero_le _, by omega, rfl, Below.refl _ w, fun j hj => absurd hj (Nat.not_lt_zero _)⟩
  case round =>
    obtain ⟨kk, hkk, hg, rfl, BW, AA⟩ := hrel
    by_cases hlt : kk < n
    · have hltz : (kk : Int) < (n : Int) := by omega
      obtain ⟨b, o, rfl, t0, t1, t2⟩ := (HT.out.below BW.out) kk hlt
      obtain ⟨h0, h1⟩ := HS.out kk hlt
      have hcall := fun W => bad1_any (T kk).li (T kk).gu (T kk).he h0 h1 W
      cases hq : vTick (T kk).li (T kk).gu (T kk).he with
      | false =>
        rw [hq] at hcall
        generalize (T kk).li = li at t0 hcall; generalize (T kk).gu = gu at t1 hcall; generalize (T kk).he = he at t2 hcall
        go_wp2_with (go_at_call 106; refine (hcall _).mono ?_; rintro e w' ⟨rfl, x, rfl⟩)
        go_ret
        exact ⟨(kk : Int), rfl, by rw [anyBad_mono hlt hq]; simp, ex_of (by with_reducible (refine below_ext' BW.out ?_); exact BW.out.size)⟩
      | true =>
        rw [hq] at hcall
        generalize (T kk).li = li at t0 hcall; generalize (T kk).gu = gu at t1 hcall; generalize (T kk).he = he at t2 hcall
        go_wp2_with (go_at_call 106; refine (hcall _).mono ?_; rintro e w' ⟨rfl, x, rfl⟩)
        go_roundg (n - (kk + 1))
        case measure => omega
        case rel =>
          refine ⟨kk + 1, by omega, by omega, by go_num, (show Aside _ from below_ext' BW.out BW.out.size), (show Aside _ from fun j hj => ?_)⟩
          by_cases e : j = kk
          · subst e; exact hq
          · exact AA.out j (by omega)
    · have hltz : ¬ (kk : Int) < (n : Int) := by omega
      have : kk = n := by omega
      subst this
      go_wp2
      go_ret
      refine ⟨-1, rfl, ?_, ex_of BW.out⟩
      rw [anyBad_false AA.out]; rfl

set_option maxHeartbeats 1000000 in
theorem bad_any (A : Option Addr) (n c : Nat) (T : Nat → Tk) (hS : Small n T) (hn : n ≤ 9223372036854775807) (w : World) (hT : RdT w A n T) :
    Calls Try.prog 105 #[.slice A n c, .func (.func 106) #[] #[]] w fun e w' => e = .returned (.bool (anyBad T n)) ∧ ∃ x, w' = ext w x := by
  have H := badAt_any A n c T hS hn
  go_enter Try.func105, Try.ntmps105
  go_wp2_with (go_at_call 131; refine (H _ hT).mono ?_; rintro e w' ⟨r, rfl, hr, x, rfl⟩)
  go_ret
  exact ⟨by rw [← hr]; rfl, ex_of (by (repeat' (first | (with_reducible exact Below.refl _ _) | (with_reducible assumption) | (with_reducible refine below_ext' ?_ ?_) | (with_reducible refine Below.alloc ?_ ?_ _) | (with_reducible refine below_drewN ?_ _) | (with_reducible refine Below.drew ?_) | (with_reducible refine Below.setCell ?_ ?_ _) | (with_reducible exact Nat.le_refl _) | (with_reducible refine ext_le _ _ ?_) | (simp; done) | (simp; omega) | omega)))⟩

/-- The ranges of what a control, a blind, a state hold. -/
structure Fits (st de ca sl ti : Int) (s : St) : Prop where
  a0 : -128 ≤ st
  a1 : st ≤ 127
  b0 : -128 ≤ de
  b1 : de ≤ 127
  c0 : -128 ≤ ca
  c1 : ca ≤ 127
  d0 : -128 ≤ sl
  d1 : sl ≤ 127
  e0 : -32768 ≤ ti
  e1 : ti ≤ 32767
  f0 : -32768 ≤ s.ti
  f1 : s.ti ≤ 32767
  g0 : -128 ≤ s.wa
  g1 : s.wa ≤ 127
  h0 : -128 ≤ s.sm
  h1 : s.sm ≤ 127

set_option maxHeartbeats 2000000 in
theorem ticksCode_any (A : Option Addr) (n c : Nat) (T : Nat → Tk) (hS : Small n T) (hn : n ≤ 9223372036854775807) (lo hi wi : Nat) (st de ca : Int) (sl : Int) (wd gp : Nat) (ti : Int) (sh : Nat) (s : St) (F : Fits st de ca sl ti s) (w : World) (hT : RdT w A n T) :
    Calls Try.prog 59 #[.agg #[.float .f32 lo, .float .f32 hi, .float .f32 wi, .int .i8 st, .int .i8 de, .int .i8 ca], .agg #[.int .i8 sl, .float .f32 wd, .float .f32 gp, .int .i16 ti, .float .f32 sh], s.v, .slice A n c] w fun e w' => e = .returned (.int .i64 (askF (vControl lo hi wi st de ca) (vBlind sl wd gp ti sh) (vState s.ti s.wa s.sm) (anyBad T n) n)) ∧ ∃ x, w' = ext w x := by
  have HV := fun W => ValidControl_any lo hi wi st de ca F.a0 F.a1 F.b0 F.b1 F.c0 F.c1 W
  have HB := fun W => ValidBlind_any sl wd gp ti sh F.d0 F.d1 F.e0 F.e1 W
  have HS := fun W => ValidState_any s.ti s.wa s.sm F.f0 F.f1 F.g0 F.g1 F.h0 F.h1 W
  have HH := fun W hT => bad_any A n c T hS hn W hT
  have HT := Lib.hid hT; clear hT hS F
  unfold St.v
  generalize s.ti = ti' at HS ⊢; generalize s.wa = wa at HS ⊢; generalize s.sm = sm at HS ⊢
  generalize vControl lo hi wi st de ca = vc at HV ⊢
  generalize vBlind sl wd gp ti sh = vb at HB ⊢
  generalize vState ti' wa sm = vs at HS ⊢
  generalize anyBad T n = bad at HH ⊢
  have hx : (100 < n) = (100 < (n : Int)) := by simp; omega
  rcases cs4 vc vb vs (!bad) with h1 | ⟨h1, h2⟩ | ⟨h1, h2, h3⟩ | ⟨h1, h2, h3, h4⟩ | ⟨h1, h2, h3, h4⟩
  all_goals
    (try (have h5 : bad = true := by simpa using h4))
    (try (have h5 : bad = false := by simpa using h4))
    (try clear h4)
    subst_vars
    by_cases hn1 : 100 < (n : Int)
    all_goals
      go_enter Try.func59, Try.ntmps59
      go_wp2_with (first | (go_at_call 102; refine (HV _).mono ?_; rintro e w' ⟨rfl, x, rfl⟩) | (go_at_call 103; refine (HB _).mono ?_; rintro e w' ⟨rfl, x, rfl⟩) | (go_at_call 104; refine (HS _).mono ?_; rintro e w' ⟨rfl, x, rfl⟩) | (go_at_call 105; refine (HH _ (HT.out.below (by (repeat' (first | (with_reducible exact Below.refl _ _) | (with_reducible assumption) | (with_reducible refine below_ext' ?_ ?_) | (with_reducible refine Below.alloc ?_ ?_ _) | (with_reducible refine below_drewN ?_ _) | (with_reducible refine Below.drew ?_) | (with_reducible refine Below.setCell ?_ ?_ _) | (with_reducible exact Nat.le_refl _) | (with_reducible refine ext_le _ _ ?_) | (simp; done) | (simp; omega) | omega))))).mono ?_; rintro e w' ⟨rfl, x, rfl⟩))
      go_ret
      exact ⟨by simp [askF, hx, hn1], ex_of (by (repeat' (first | (with_reducible exact Below.refl _ _) | (with_reducible assumption) | (with_reducible refine below_ext' ?_ ?_) | (with_reducible refine Below.alloc ?_ ?_ _) | (with_reducible refine below_drewN ?_ _) | (with_reducible refine Below.drew ?_) | (with_reducible refine Below.setCell ?_ ?_ _) | (with_reducible exact Nat.le_refl _) | (with_reducible refine ext_le _ _ ?_) | (simp; done) | (simp; omega) | omega)))⟩
end Go.Proofs.Ytbelopcfmjgfiaa
