/- Contracts: impl's RaisedIn, its closure. No condition. -/
import Derived.Test.YtbelopcfmjgfiaaRun
namespace Go.Proofs.Ytbelopcfmjgfiaa
open Go Go.RowKit
attribute [local go_sem] binOp_flt binOp_fgt binOp_feq binOp_fne binOp_fle binOp_fge faRes_some run_fadd run_fsub run_fmul run_fdiv run_ofI run_store_float run_neg run_min1 ext_cell ext_frozen ext_lt ext_setCell ext_drew ext_drewN
/-- How many of the first k ticks leave the blind up. -/
def Rn.many (R : Rn) : Nat → Nat
  | 0 => 0
  | k + 1 => if R.up k = true then R.many k + 1 else R.many k
theorem Rn.many_le (R : Rn) : ∀ k, R.many k ≤ k
  | 0 => Nat.le_refl _
  | k + 1 => by have := Rn.many_le R k; unfold Rn.many; split <;> omega
set_option maxHeartbeats 1000000 in
theorem raised1_any (i : Int) (s1 s2 : St) (l : Nat) (up : Bool) (M : Nat) (m : Int) (h0 : 0 ≤ m) (h1 : m < 9223372036854775807) (w : World) (hc : w.cell? ⟨M, 0, none⟩ = some (.int .i64 m)) (hf : w.frozen? ⟨M, 0, none⟩ = false) :
    Calls Try.prog 61 #[.int .i64 i, s1.v, s2.v, .float .f32 l, .bool up, .pointer (some ⟨M, 0, none⟩)] w fun e w' =>
      e = .returned (.tuple #[]) ∧ w' = (let a := (w.alloc (.cells #[.int .i16 s1.ti, .int .i8 s1.wa, .int .i8 s1.sm] 51)).alloc (.cells #[.int .i16 s2.ti, .int .i8 s2.wa, .int .i8 s2.sm] 51); if up = true then a.setCell ⟨M, 0, none⟩ (.int .i64 (m + 1)) else a) := by
  have hM : M < w.heap.size := World.block_lt_of_cell? w _ hc
  obtain ⟨l1, l2, l3, _, _, _⟩ := lts hM
  unfold St.v
  cases up with
  | false =>
    go_enter Try.func61, Try.ntmps61
    go_wp2
    refine bodyPost_end (v := .tuple #[]) ?_ rfl ⟨rfl, rfl⟩
    simp [results, Try.results61, go_sem]
  | true =>
    go_enter Try.func61, Try.ntmps61
    go_wp2
    refine bodyPost_end (v := .tuple #[]) ?_ rfl ⟨rfl, rfl⟩
    simp [results, Try.results61, go_sem]

/-- The counter's block is M; it holds the count. -/
def KeepsN (R : Rn) (M : Nat) (k : Nat) (X : Nat → Prop) (w : World) : Prop := (∀ j, X j ↔ j = M) ∧ w.heap[M]? = some (.cells #[.int .i64 (R.many k)] 2 (0, 0))
theorem each_R (R : Rn) (n M : Nat) (hn : n ≤ 9223372036854775807) : Each 61 #[.pointer (some ⟨M, 0, none⟩)] n R (KeepsN R M) where
  stay := fun {k X W W'} h _ hb => ⟨h.1, (hb M ((h.1 M).2 rfl)).trans h.2⟩
  lt := fun {k X W} h j hj => by
    rw [(h.1 j).1 hj]
    rcases Nat.lt_or_ge M W.heap.size with h1 | h1
    · exact h1
    · have := h.2; rw [Array.getElem?_eq_none h1] at this; cases this
  call := fun {k X W} hk h => by
    have hM : M < W.heap.size := by
      rcases Nat.lt_or_ge M W.heap.size with h1 | h1
      · exact h1
      · have := h.2; rw [Array.getElem?_eq_none h1] at this; cases this
    have hm := R.many_le k
    refine (raised1_any k (R.st' k) (R.st' (k + 1)) (R.light k) (R.up k) M (R.many k) (by omega) (by omega) W (cell_of_row _ _ _ _ _ _ h.2) (frozen_of_row _ _ _ _ _ h.2)).mono ?_
    rintro e w' ⟨rfl, hw⟩
    have hB : Below W.heap.size W ((W.alloc (.cells #[.int .i16 (R.st' k).ti, .int .i8 (R.st' k).wa, .int .i8 (R.st' k).sm] 51)).alloc (.cells #[.int .i16 (R.st' (k + 1)).ti, .int .i8 (R.st' (k + 1)).wa, .int .i8 (R.st' (k + 1)).sm] 51)) := by (repeat' (first | (with_reducible exact Below.refl _ _) | (with_reducible assumption) | (with_reducible refine below_ext' ?_ ?_) | (with_reducible refine Below.alloc ?_ ?_ _) | (with_reducible refine below_drewN ?_ _) | (with_reducible refine Below.drew ?_) | (with_reducible refine Below.setCell ?_ ?_ _) | (with_reducible exact Nat.le_refl _) | (with_reducible refine ext_le _ _ ?_) | (simp; done) | (simp; omega) | omega))
    have hblk := (hB.block M hM).trans h.2
    refine ⟨rfl, X, ⟨h.1, ?_⟩, ?_, fun j hj => Or.inl hj⟩
    · rw [hw]
      cases hu : R.up k with
      | false => simp only [Rn.many, hu, Bool.false_eq_true, if_false]; exact hblk
      | true =>
        simp only [Rn.many, hu, if_true]
        simp only [World.setCell, Array.getElem?_modify, if_pos, hblk]
        simp
    · rw [hw]
      cases hu : R.up k with
      | false =>
        simp only [Bool.false_eq_true, if_false]
        exact ⟨hB.os, hB.tape, hB.output, hB.size, fun j hj _ => hB.block j hj⟩
      | true =>
        simp only [if_true]
        refine ⟨hB.os, hB.tape, hB.output, by simpa [World.setCell] using hB.size, fun j hj hx => ?_⟩
        have hne : ¬ M = j := fun e => hx ((h.1 j).2 e.symm)
        simp only [World.setCell, Array.getElem?_modify, if_neg hne]
        exact hB.block j hj

def Rn.ask (R : Rn) (sl ti : Int) (n : Nat) : Int := askF (vControl R.lo R.hi R.wi R.st R.de R.ca) (vBlind sl R.wd R.gp ti R.sh) (vState R.s0.ti R.s0.wa R.s0.sm) (anyBad R.T n) n
theorem Rn.ok_of {R : Rn} {sl ti : Int} {n : Nat} (h : R.ask sl ti n = 0) (hw : R.wd < 4294967296) (hg : R.gp < 4294967296) : R.Ok n := by
  unfold Rn.ask askF at h
  split at h
  · rename_i hc
    simp only [Bool.and_eq_true, Bool.not_eq_true'] at hc
    obtain ⟨h1, h2, h3, h4⟩ := hc
    unfold vControl at h1; unfold vBlind at h2; unfold vState at h3
    simp only [Bool.and_eq_true, inB_iff] at h1 h2 h3
    exact ⟨⟨h1.2.2.2.2.1.1, h1.2.2.2.2.1.2, h1.2.2.2.2.2.1.1, h1.2.2.2.2.2.1.2, h1.2.2.2.2.2.2.1, h1.2.2.2.2.2.2.2, len_of hw h2.2.1, len_of hg h2.2.2.1, part_of h2.2.2.2.2⟩,
      ⟨h3.1.1, h3.1.2, h3.2.1.1, h3.2.1.2, h3.2.2.1, h3.2.2.2⟩, fun k hk => ok_of_anyBad h4 hk⟩
  · cases h
set_option maxRecDepth 100000 in
set_option maxHeartbeats 2000000 in
theorem RaisedIn_any (R : Rn) (sl ti : Int) (A : Option Addr) (n c : Nat) (hS : Small n R.T) (hn : n ≤ 9223372036854775807) (hw : R.wd < 4294967296) (hg : R.gp < 4294967296) (F : Fits R.st R.de R.ca sl ti R.s0) (w : World) (hT : RdT w A n R.T) :
    Calls Try.prog 26 #[.agg #[.float .f32 R.lo, .float .f32 R.hi, .float .f32 R.wi, .int .i8 R.st, .int .i8 R.de, .int .i8 R.ca], .agg #[.int .i8 sl, .float .f32 R.wd, .float .f32 R.gp, .int .i16 ti, .float .f32 R.sh], R.s0.v, .slice A n c] w fun e w' =>
      e = .returned (.tuple #[.int .i64 (if R.ask sl ti n = 0 then R.many n else 0), .int .i64 (R.ask sl ti n)]) ∧ ∃ x, w' = ext w x := by
  have HA : ∀ W, RdT W A n R.T → Calls Try.prog 59 #[.agg #[.float .f32 R.lo, .float .f32 R.hi, .float .f32 R.wi, .int .i8 R.st, .int .i8 R.de, .int .i8 R.ca], .agg #[.int .i8 sl, .float .f32 R.wd, .float .f32 R.gp, .int .i16 ti, .float .f32 R.sh], R.s0.v, .slice A n c] W fun e w' => e = .returned (.int .i64 (R.ask sl ti n)) ∧ ∃ x, w' = ext W x :=
    fun W hW => ticksCode_any A n c R.T hS hn R.lo R.hi R.wi R.st R.de R.ca sl R.wd R.gp ti R.sh R.s0 F W hW
  have HT := Lib.hid hT
  by_cases h : R.ask sl ti n = 0
  · have hok := Lib.hid (Rn.ok_of h hw hg)
    rw [if_pos h]
    rw [h] at HA ⊢
    clear h hS hw hg F hT
    unfold St.v at HA ⊢
    go_enter Try.func26, Try.ntmps26
    go_wp2_with (first
      | (go_at_call 59
         refine (HA _ (HT.out.below (by (repeat' (first | (with_reducible exact Below.refl _ _) | (with_reducible assumption) | (with_reducible refine below_ext' ?_ ?_) | (with_reducible refine Below.alloc ?_ ?_ _) | (with_reducible refine below_drewN ?_ _) | (with_reducible refine Below.drew ?_) | (with_reducible refine Below.setCell ?_ ?_ _) | (with_reducible exact Nat.le_refl _) | (with_reducible refine ext_le _ _ ?_) | (simp; done) | (simp; omega) | omega))))).mono ?_
         rintro e w' ⟨rfl, x, rfl⟩)
      | (go_at_call 60
         have hB : Below w.heap.size w ((ext (((w.alloc (.cells #[.float .f32 R.lo, .float .f32 R.hi, .float .f32 R.wi, .int .i8 R.st, .int .i8 R.de, .int .i8 R.ca] 47)).alloc (.cells #[.int .i8 sl, .float .f32 R.wd, .float .f32 R.gp, .int .i16 ti, .float .f32 R.sh] 49)).alloc (.cells #[.int .i16 R.s0.ti, .int .i8 R.s0.wa, .int .i8 R.s0.sm] 51)) x).alloc (.cells #[.int .i64 0] 2)) := by (repeat' (first | (with_reducible exact Below.refl _ _) | (with_reducible assumption) | (with_reducible refine below_ext' ?_ ?_) | (with_reducible refine Below.alloc ?_ ?_ _) | (with_reducible refine below_drewN ?_ _) | (with_reducible refine Below.drew ?_) | (with_reducible refine Below.setCell ?_ ?_ _) | (with_reducible exact Nat.le_refl _) | (with_reducible refine ext_le _ _ ?_) | (simp; done) | (simp; omega) | omega))
         have hM : w.heap.size < (ext (((w.alloc (.cells #[.float .f32 R.lo, .float .f32 R.hi, .float .f32 R.wi, .int .i8 R.st, .int .i8 R.de, .int .i8 R.ca] 47)).alloc (.cells #[.int .i8 sl, .float .f32 R.wd, .float .f32 R.gp, .int .i16 ti, .float .f32 R.sh] 49)).alloc (.cells #[.int .i16 R.s0.ti, .int .i8 R.s0.wa, .int .i8 R.s0.sm] 51)) x).heap.size := Nat.lt_of_lt_of_le (by simp; omega) (below_ext _ x).size
         have hcc : ControlAt ((ext (((w.alloc (.cells #[.float .f32 R.lo, .float .f32 R.hi, .float .f32 R.wi, .int .i8 R.st, .int .i8 R.de, .int .i8 R.ca] 47)).alloc (.cells #[.int .i8 sl, .float .f32 R.wd, .float .f32 R.gp, .int .i16 ti, .float .f32 R.sh] 49)).alloc (.cells #[.int .i16 R.s0.ti, .int .i8 R.s0.wa, .int .i8 R.s0.sm] 51)) x).alloc (.cells #[.int .i64 0] 2)) w.heap.size 0 R.lo R.hi R.wi R.st R.de R.ca := by
           refine ControlAt.alloc (ControlAt.ext ?_ x) _
           constructor <;> go_simp
         refine (run_R hok.out (cq := none) sl ti A c hn (each_R R n _ hn) (fun j => j = _) _ hcc (HT.out.below hB) ⟨fun j => Iff.rfl, heap_alloc_new _ _⟩ (Nat.ne_of_lt hM) (fun h0 b' o' hA he => ?_)).mono ?_
         · obtain ⟨b2, o2, h2, h3⟩ := HT.out 0 h0
           rw [hA] at h2; injection h2 with h2; injection h2 with h4 h5
           have h6 := h3.lt; rw [← h4] at h6; rw [he] at h6; exact absurd h6 (by omega)
         rintro e w' ⟨rfl, X', hJ', hAp, hX'⟩
         obtain ⟨q0, _⟩ := row1 hJ'.2
         have hB2 := Apart.to_below hB hAp (fun j hj => by rw [hj]; exact Nat.le_of_lt hM)
         clear hJ' hAp hX' hcc))
    refine bodyPost_ret (v := .tuple #[.int .i64 (R.many n), .int .i64 0]) ?_ rfl ⟨rfl, ex_of hB2⟩
    simp [results, Try.results26]
  · rw [if_neg h]
    clear hS hw hg F hT
    have hb : (R.ask sl ti n == 0) = false := by simpa using h
    have hb' : (R.ask sl ti n != 0) = true := by simpa using h
    generalize R.ask sl ti n = cd at *
    unfold St.v at HA ⊢
    go_enter Try.func26, Try.ntmps26
    go_wp2_with (first
      | (go_at_call 59
         refine (HA _ (HT.out.below (by (repeat' (first | (with_reducible exact Below.refl _ _) | (with_reducible assumption) | (with_reducible refine below_ext' ?_ ?_) | (with_reducible refine Below.alloc ?_ ?_ _) | (with_reducible refine below_drewN ?_ _) | (with_reducible refine Below.drew ?_) | (with_reducible refine Below.setCell ?_ ?_ _) | (with_reducible exact Nat.le_refl _) | (with_reducible refine ext_le _ _ ?_) | (simp; done) | (simp; omega) | omega))))).mono ?_
         rintro e w' ⟨rfl, x, rfl⟩))
    refine bodyPost_ret (v := .tuple #[.int .i64 0, .int .i64 cd]) ?_ rfl ⟨rfl, ex_of (by (repeat' (first | (with_reducible exact Below.refl _ _) | (with_reducible assumption) | (with_reducible refine below_ext' ?_ ?_) | (with_reducible refine Below.alloc ?_ ?_ _) | (with_reducible refine below_drewN ?_ _) | (with_reducible refine Below.drew ?_) | (with_reducible refine Below.setCell ?_ ?_ _) | (with_reducible exact Nat.le_refl _) | (with_reducible refine ext_le _ _ ?_) | (simp; done) | (simp; omega) | omega)))⟩
    simp [results, Try.results26]
end Go.Proofs.Ytbelopcfmjgfiaa
