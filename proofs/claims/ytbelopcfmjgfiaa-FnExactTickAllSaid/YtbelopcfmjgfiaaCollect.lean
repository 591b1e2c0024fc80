/- Contracts: the closures of impl's TickAll and GlareTicks: each appends to a slice that it owns. No condition. -/
import Derived.Test.YtbelopcfmjgfiaaOwn
import Derived.Test.YtbelopcfmjgfiaaRaised
import Derived.Deep.AppendLies
import Derived.Laws.OwnMore
namespace Go.Proofs.Ytbelopcfmjgfiaa
open Go Go.RowKit
attribute [local go_sem] binOp_flt binOp_fgt binOp_feq binOp_fne binOp_fle binOp_fge faRes_some run_fadd run_fsub run_fmul run_fdiv run_ofI run_store_float run_neg run_min1 ext_cell ext_frozen ext_lt ext_setCell ext_drew ext_drewN
theorem Rn.ask_le {R : Rn} {sl ti : Int} {n : Nat} (h : R.ask sl ti n = 0) : n ≤ 100 := by
  unfold Rn.ask askF at h
  split at h
  · split at h
    · cases h
    · omega
  · cases h
/-- The block M holds a slice of its own, whose cells are xs. -/
structure Holds (M base : Nat) (ts t : TypeId) (A : Option Addr) (n c : Nat) (xs : List Value) (w : World) : Prop where
  box : w.heap[M]? = some (.cells #[.slice A n c] ts (0, 0))
  own : w.ownsRow base t 1 (.slice A n c) n xs
  ne : ¬ owns A M
  le : base ≤ M
section
variable {M base : Nat} {ts t : TypeId} {A : Option Addr} {n c : Nat} {xs : List Value} {w w' : World}
theorem Holds.lt (h : Holds M base ts t A n c xs w) : M < w.heap.size := size_of_block h.box
theorem Holds.own_lt (h : Holds M base ts t A n c xs w) {j : Nat} (hj : owns A j) : base ≤ j ∧ j < w.heap.size :=
  h.own.lt j (by rw [own_eq]; exact hj)
theorem Holds.same (h : Holds M base ts t A n c xs w) (hs : ∀ j, j = M ∨ owns A j → w'.heap[j]? = w.heap[j]?) : Holds M base ts t A n c xs w' :=
  ⟨(hs M (.inl rfl)).trans h.box, own_same h.own (fun j hj => hs j (.inr hj)), h.ne, h.le⟩
theorem Holds.box1 {W3 w1 : World} (h : Holds M base ts t A n c xs w) (h3 : Below w.heap.size w W3) (hg : W3.grownBy w1 (Value.slice A n c).ownBlock) : w1.heap[M]? = some (.cells #[.slice A n c] ts (0, 0)) :=
  (hg.block M (Nat.lt_of_lt_of_le h.lt h3.size) (fun e => h.ne (by unfold owns; rw [← own_eq A n c]; exact e.symm))).trans ((h3.block M h.lt).trans h.box)
/-- One more is appended, and the slice stored back. -/
theorem Holds.more {W3 w1 : World} {g cap : Nat} {ys : List Value} (h : Holds M base ts t A n c xs w) (h3 : Below w.heap.size w W3) (hg : W3.grownBy w1 (Value.slice A n c).ownBlock)
    (ho : w1.ownsRow base t 1 (.slice (some ⟨g, 0, none⟩) (n + 1) cap) (n + 1) ys) (hat : (Value.slice A n c).ownBlock = some g ∨ g = W3.heap.size) :
    Holds M base ts t (some ⟨g, 0, none⟩) (n + 1) cap ys (w1.setCell ⟨M, 0, none⟩ (.slice (some ⟨g, 0, none⟩) (n + 1) cap)) ∧
    Apart (fun j => j = M ∨ owns A j) w (w1.setCell ⟨M, 0, none⟩ (.slice (some ⟨g, 0, none⟩) (n + 1) cap)) ∧ (owns A g ∨ w.heap.size ≤ g) := by
  have hM := h.lt
  have hne : some M ≠ (Value.slice A n c).ownBlock := fun e => h.ne (by unfold owns; rw [← own_eq A n c]; exact e.symm)
  have hbox : w1.heap[M]? = some (.cells #[.slice A n c] ts (0, 0)) := (hg.block M (Nat.lt_of_lt_of_le hM h3.size) hne).trans ((h3.block M hM).trans h.box)
  have hat2 : owns A g ∨ w.heap.size ≤ g := by
    rcases hat with h1 | h1
    · exact .inl (by unfold owns; rw [← own_eq A n c]; exact h1)
    · exact .inr (by have := h3.size; omega)
  have hgM : ¬ g = M := fun e => by
    rcases hat2 with h1 | h1
    · exact h.ne (e ▸ h1)
    · omega
  refine ⟨⟨?_, own_same ho (fun j hj => ?_), fun e => hgM (by unfold owns Value.ownBlock at e; simpa using e), h.le⟩, ⟨hg.os.trans h3.os, hg.tape.trans h3.tape, hg.output.trans h3.output, ?_, fun k hk hx => ?_⟩, hat2⟩
  · simp [World.setCell, Array.getElem?_modify, hbox]
  · have hj2 : g = j := by unfold owns Value.ownBlock at hj; simpa using hj
    have : ¬ M = j := by omega
    simp only [World.setCell, Array.getElem?_modify, if_neg this]
  · have := hg.size; have := h3.size; simp [World.setCell]; omega
  · have h1 : ¬ M = k := fun e => hx (.inl e.symm)
    simp only [World.setCell, Array.getElem?_modify, if_neg h1]
    exact (hg.block k (Nat.lt_of_lt_of_le hk h3.size) (fun e => hx (.inr (by unfold owns; rw [← own_eq A n c]; exact e.symm)))).trans (h3.block k hk)
end
/-- What stands behind a closure that has appended. -/
def Coll (M base : Nat) (ts t : TypeId) (A : Option Addr) (n : Nat) (ys : List Value) (w w' : World) : Prop :=
  ∃ g cap, Holds M base ts t (some ⟨g, 0, none⟩) n cap ys w' ∧ Apart (fun j => j = M ∨ owns A j) w w' ∧ (owns A g ∨ w.heap.size ≤ g)
theorem info_f32 : (Try.prog.info? 24).map (fun i => (i.zero, i.size, i.bytes)) = some (some (.float .f32 0), 1, 4) := by kernel_rfl
theorem info_i64 : (Try.prog.info? 2).map (fun i => (i.zero, i.size, i.bytes)) = some (some (.int .i64 0), 1, 8) := by kernel_rfl
/-- The two boxes of a closure's states. -/
noncomputable def twoW (a1 a2 a3 a4 a5 a6 : Int) (w : World) : World := (w.alloc (.cells #[.int .i16 a1, .int .i8 a2, .int .i8 a3] 51)).alloc (.cells #[.int .i16 a4, .int .i8 a5, .int .i8 a6] 51)
set_option maxRecDepth 100000 in
set_option maxHeartbeats 2000000 in
theorem tickall1_any (i : Int) (s1 s2 : St) (l : Nat) (up : Bool) (M base k c : Nat) (A : Option Addr) (xs : List Value) (hk : k ≤ 1000) (w : World) (hH : Holds M base 22 24 A k c xs w) :
    Calls Try.prog 87 #[.int .i64 i, s1.v, s2.v, .float .f32 l, .bool up, .pointer (some ⟨M, 0, none⟩)] w fun e w' =>
      e = .returned (.tuple #[]) ∧ Coll M base 22 24 A (k + 1) (xs ++ [.float .f32 l]) w w' := by
  obtain ⟨i0, hi, hz0, hz1, hz2⟩ := info_parts info_f32
  have hM := hH.lt
  obtain ⟨l1, l2, l3, _, _, _⟩ := lts hM
  have hc : w.cell? ⟨M, 0, none⟩ = some (.slice A k c) := cell_of_row _ _ _ _ _ _ hH.box
  have hf : w.frozen? ⟨M, 0, none⟩ = false := frozen_of_row _ _ _ _ _ hH.box
  have HH := Lib.hid hH; clear hH
  have Hi := Lib.hid hi; have H0 := Lib.hid hz0; have H1 := Lib.hid hz1; have H2 := Lib.hid hz2; clear hi hz0 hz1 hz2
  unfold St.v
  generalize s1.ti = a1; generalize s1.wa = a2; generalize s1.sm = a3; generalize s2.ti = a4; generalize s2.wa = a5; generalize s2.sm = a6
  have HB : Hid (Below w.heap.size w (((w.alloc (.cells #[.int .i16 a1, .int .i8 a2, .int .i8 a3] 51)).alloc (.cells #[.int .i16 a4, .int .i8 a5, .int .i8 a6] 51)).alloc (.cells #[.float .f32 l] 24))) := (by (repeat' (first | (with_reducible exact Below.refl _ _) | (with_reducible assumption) | (with_reducible refine below_ext' ?_ ?_) | (with_reducible refine Below.alloc ?_ ?_ _) | (with_reducible refine below_drewN ?_ _) | (with_reducible refine Below.drew ?_) | (with_reducible refine Below.setCell ?_ ?_ _) | (with_reducible exact Nat.le_refl _) | (with_reducible refine ext_le _ _ ?_) | (simp; done) | (simp; omega) | omega)) : Below w.heap.size w _)
  have hsz : ((w.alloc (.cells #[.int .i16 a1, .int .i8 a2, .int .i8 a3] 51)).alloc (.cells #[.int .i16 a4, .int .i8 a5, .int .i8 a6] 51)).heap.size = w.heap.size + 1 + 1 := by simp
  have HN := Lib.hid (World.news_of_block (heap_alloc_new ((w.alloc (.cells #[.int .i16 a1, .int .i8 a2, .int .i8 a3] 51)).alloc (.cells #[.int .i16 a4, .int .i8 a5, .int .i8 a6] 51)) (.cells #[.float .f32 l] 24)))
  rw [hsz] at HN
  clear hsz
  have hle := HH.out.le
  go_enter Try.func87, Try.ntmps87
  go_wp2_with (at_builtin
               refine wpList_append_lies _ rfl _ _ 22 rfl base 24 i0 (.float .f32 0) 1 4 Try.underlying22 Hi.out H0.out H1.out H2.out rfl (by decide) (.slice A k c) k xs rfl (((HH.out.own.alloc _).alloc _).alloc _) ⟨w.heap.size + 1 + 1, 0, none⟩ 1 1 [.float .f32 l] rfl rfl HN.out (by simp [Value.oneCell']) (by decide) (by unfold maxLen; omega) (by omega) (by simp; omega) (w.heap.size + 1 + 1 + 1) (by simp) ?_
               intro g cap w1 hown1 hgrow hat hlt
               have hb1 := HH.out.box1 HB.out hgrow
               have hc1 : w1.cell? ⟨M, 0, none⟩ = some (.slice A k c) := cell_of_row _ _ _ _ _ _ hb1
               have hf1 : w1.frozen? ⟨M, 0, none⟩ = false := frozen_of_row _ _ _ _ _ hb1
               have HM := Lib.hid (HH.out.more HB.out hgrow hown1 (by simpa using hat))
               clear hb1 hown1 hgrow hat hlt)
  refine bodyPost_end (v := .tuple #[]) ?_ rfl ⟨rfl, ⟨g, cap, HM.out⟩⟩
  simp [results, Try.results87, go_sem]
set_option maxRecDepth 100000 in
set_option maxHeartbeats 2000000 in
theorem glare1_any (i : Int) (s1 s2 : St) (l : Nat) (up : Bool) (M base k c : Nat) (A : Option Addr) (xs : List Value) (hk : k ≤ 1000) (w : World) (Q bd : Nat) (hq : w.cell? ⟨Q, 0, none⟩ = some (.float .f32 bd)) (hgt : fgt l bd = true) (hH : Holds M base 23 2 A k c xs w) :
    Calls Try.prog 88 #[.int .i64 i, s1.v, s2.v, .float .f32 l, .bool up, .pointer (some ⟨Q, 0, none⟩), .pointer (some ⟨M, 0, none⟩)] w fun e w' =>
      e = .returned (.tuple #[]) ∧ Coll M base 23 2 A (k + 1) (xs ++ [.int .i64 i]) w w' := by
  obtain ⟨i0, hi, hz0, hz1, hz2⟩ := info_parts info_i64
  have hM := hH.lt
  obtain ⟨l1, l2, l3, _, _, _⟩ := lts hM
  have hQ : Q < w.heap.size := World.block_lt_of_cell? w _ hq
  obtain ⟨m1, m2, m3, _, _, _⟩ := lts hQ
  have hc : w.cell? ⟨M, 0, none⟩ = some (.slice A k c) := cell_of_row _ _ _ _ _ _ hH.box
  have hf : w.frozen? ⟨M, 0, none⟩ = false := frozen_of_row _ _ _ _ _ hH.box
  have HH := Lib.hid hH; clear hH
  have Hi := Lib.hid hi; have H0 := Lib.hid hz0; have H1 := Lib.hid hz1; have H2 := Lib.hid hz2; clear hi hz0 hz1 hz2
  unfold St.v
  generalize s1.ti = a1; generalize s1.wa = a2; generalize s1.sm = a3; generalize s2.ti = a4; generalize s2.wa = a5; generalize s2.sm = a6
  have HB : Hid (Below w.heap.size w (((w.alloc (.cells #[.int .i16 a1, .int .i8 a2, .int .i8 a3] 51)).alloc (.cells #[.int .i16 a4, .int .i8 a5, .int .i8 a6] 51)).alloc (.cells #[.int .i64 i] 2))) := (by (repeat' (first | (with_reducible exact Below.refl _ _) | (with_reducible assumption) | (with_reducible refine below_ext' ?_ ?_) | (with_reducible refine Below.alloc ?_ ?_ _) | (with_reducible refine below_drewN ?_ _) | (with_reducible refine Below.drew ?_) | (with_reducible refine Below.setCell ?_ ?_ _) | (with_reducible exact Nat.le_refl _) | (with_reducible refine ext_le _ _ ?_) | (simp; done) | (simp; omega) | omega)) : Below w.heap.size w _)
  have hsz : ((w.alloc (.cells #[.int .i16 a1, .int .i8 a2, .int .i8 a3] 51)).alloc (.cells #[.int .i16 a4, .int .i8 a5, .int .i8 a6] 51)).heap.size = w.heap.size + 1 + 1 := by simp
  have HN := Lib.hid (World.news_of_block (heap_alloc_new ((w.alloc (.cells #[.int .i16 a1, .int .i8 a2, .int .i8 a3] 51)).alloc (.cells #[.int .i16 a4, .int .i8 a5, .int .i8 a6] 51)) (.cells #[.int .i64 i] 2)))
  rw [hsz] at HN
  clear hsz
  have hle := HH.out.le
  go_enter Try.func88, Try.ntmps88
  go_wp2_with (at_builtin
               refine wpList_append_lies _ rfl _ _ 23 rfl base 2 i0 (.int .i64 0) 1 8 Try.underlying23 Hi.out H0.out H1.out H2.out rfl (by decide) (.slice A k c) k xs rfl (((HH.out.own.alloc _).alloc _).alloc _) ⟨w.heap.size + 1 + 1, 0, none⟩ 1 1 [.int .i64 i] rfl rfl HN.out (by simp [Value.oneCell']) (by decide) (by unfold maxLen; omega) (by omega) (by simp; omega) (w.heap.size + 1 + 1 + 1) (by simp) ?_
               intro g cap w1 hown1 hgrow hat hlt
               have hb1 := HH.out.box1 HB.out hgrow
               have hc1 : w1.cell? ⟨M, 0, none⟩ = some (.slice A k c) := cell_of_row _ _ _ _ _ _ hb1
               have hf1 : w1.frozen? ⟨M, 0, none⟩ = false := frozen_of_row _ _ _ _ _ hb1
               have HM := Lib.hid (HH.out.more HB.out hgrow hown1 (by simpa using hat))
               clear hb1 hown1 hgrow hat hlt)
  refine bodyPost_end (v := .tuple #[]) ?_ rfl ⟨rfl, ⟨g, cap, HM.out⟩⟩
  simp [results, Try.results88, go_sem]
set_option maxRecDepth 100000 in
set_option maxHeartbeats 2000000 in
theorem glare1_no (i : Int) (s1 s2 : St) (l : Nat) (up : Bool) (M Q bd : Nat) (w : World) (hq : w.cell? ⟨Q, 0, none⟩ = some (.float .f32 bd)) (hgt : fgt l bd = false) :
    Calls Try.prog 88 #[.int .i64 i, s1.v, s2.v, .float .f32 l, .bool up, .pointer (some ⟨Q, 0, none⟩), .pointer (some ⟨M, 0, none⟩)] w fun e w' => e = .returned (.tuple #[]) ∧ ∃ x, w' = ext w x := by
  have hQ : Q < w.heap.size := World.block_lt_of_cell? w _ hq
  obtain ⟨m1, m2, m3, _, _, _⟩ := lts hQ
  unfold St.v
  generalize s1.ti = a1; generalize s1.wa = a2; generalize s1.sm = a3; generalize s2.ti = a4; generalize s2.wa = a5; generalize s2.sm = a6
  go_enter Try.func88, Try.ntmps88
  go_wp2
  refine bodyPost_end (v := .tuple #[]) ?_ rfl ⟨rfl, ex_of (by (repeat' (first | (with_reducible exact Below.refl _ _) | (with_reducible assumption) | (with_reducible refine below_ext' ?_ ?_) | (with_reducible refine Below.alloc ?_ ?_ _) | (with_reducible refine below_drewN ?_ _) | (with_reducible refine Below.drew ?_) | (with_reducible refine Below.setCell ?_ ?_ _) | (with_reducible exact Nat.le_refl _) | (with_reducible refine ext_le _ _ ?_) | (simp; done) | (simp; omega) | omega)))⟩
  simp [results, Try.results88, go_sem]
end Go.Proofs.Ytbelopcfmjgfiaa
