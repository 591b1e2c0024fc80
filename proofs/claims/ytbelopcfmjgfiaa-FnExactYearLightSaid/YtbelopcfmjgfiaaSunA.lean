/- Suns as arrays of cells; contracts: what suns are valid (both packages). No condition. -/
import Derived.Test.YtbelopcfmjgfiaaValid
import Derived.Deep.MidRow
import Derived.Deep.WholeRow
import Derived.Deep.LoopGhost
namespace Go.Proofs.Ytbelopcfmjgfiaa
open Go Go.RowKit
attribute [local go_sem] binOp_flt binOp_fgt binOp_feq binOp_fne binOp_fle binOp_fge faRes_some run_fadd run_fsub run_fmul run_fdiv run_ofI run_store_float run_neg run_min1 ext_cell ext_frozen ext_lt ext_setCell ext_drew ext_drewN
/-- n cells that are int16: f 0, f 1, .. -/
def arrA (n : Nat) (f : Nat → Int) : Array Value := Array.ofFn (n := n) fun i => .int .i16 (f i.val)
theorem arrA_size (n : Nat) (f : Nat → Int) : (arrA n f).size = n := by simp [arrA]
theorem arrA_get (f : Nat → Int) {n i : Nat} (h : i < n) : (arrA n f)[i]? = some (.int .i16 (f i)) := by simp [arrA, h]
theorem arrA_of {n : Nat} {cs : Array Value} {f : Nat → Int} (hs : cs.size = n) (h : ∀ i, i < n → cs[i]? = some (.int .i16 (f i))) : cs = arrA n f := by
  apply Array.ext_getElem?
  intro i
  by_cases hi : i < n
  · rw [h i hi, arrA_get f hi]
  · rw [Array.getElem?_eq_none (by omega), Array.getElem?_eq_none (by rw [arrA_size]; omega)]
theorem arrA_one (n : Nat) (f : Nat → Int) : (arrA n f).all (·.oneCell') = true := by
  rw [Array.all_eq_true_iff_forall_mem]
  intro v hv
  obtain ⟨i, hi, rfl⟩ := Array.mem_iff_getElem.1 hv
  have h2 : i < n := by rw [← arrA_size n f]; exact hi
  have h3 := arrA_get f h2
  rw [Array.getElem?_eq_getElem hi] at h3
  rw [Option.some.inj h3]; rfl
/-- A sun's 48 cells: the heights f 0 .. f 23, the turns f 24 .. f 47. -/
abbrev sunA (f : Nat → Int) : Array Value := arrA 48 f
/-- n such cells in memory. -/
def ArrAt (w : World) (b o n : Nat) (f : Nat → Int) : Prop := ∀ i, i < n → w.cell? ⟨b, o + i, none⟩ = some (.int .i16 (f i))
abbrev SunAt (w : World) (b o : Nat) (f : Nat → Int) : Prop := ArrAt w b o 48 f
/-- The cells are int16. -/
def In16 (n : Nat) (f : Nat → Int) : Prop := ∀ i, i < n → -32768 ≤ f i ∧ f i ≤ 32767
abbrev I16 (f : Nat → Int) : Prop := In16 48 f
section
variable {w w' : World} {b o n : Nat} {f : Nat → Int}
theorem ArrAt.lt (h : ArrAt w b o n f) (hn : 0 < n) : b < w.heap.size := World.block_lt_of_cell? w _ (h 0 hn)
theorem ArrAt.below (h : ArrAt w b o n f) {B : Nat} (hb : Below B w w') (hB : b < B) : ArrAt w' b o n f := fun i hi => (hb.cell (p := ⟨b, o + i, none⟩) hB).trans (h i hi)
theorem ArrAt.of_row {t : TypeId} {fr : Nat × Nat} (h : w.heap[b]? = some (.cells (arrA n f) t fr)) : ArrAt w b 0 n f := fun i hi => by
  rw [cell_of_row w b (0 + i) (arrA n f) t fr h, Nat.zero_add]; exact arrA_get f hi
theorem ArrAt.range (h : ArrAt w b o n f) : w.rangeAt b o (arrA n f).toList := fun j v hv => by
  have hj : j < n := by
    have := (List.getElem?_eq_some_iff.1 hv).1
    simpa [arrA] using this
  rw [h j hj]
  have h2 := arrA_get f hj
  rw [Array.getElem?_toList] at hv
  rw [← hv, h2]
theorem ArrAt.part (h : ArrAt w b o n f) {k m : Nat} (hk : k + m ≤ n) : ArrAt w b (o + k) m (fun i => f (k + i)) := fun i hi => by
  rw [Nat.add_assoc]; exact h (k + i) (by omega)
end
/-- The first k hours are as they may be. -/
def okSun (f : Nat → Int) : Nat → Bool
  | 0 => true
  | k + 1 => okSun f k && (inB (f k) (-64) 64 && inB (f (24 + k)) 0 255)
def vSun (f : Nat → Int) : Bool := okSun f 24
theorem okSun_all {f : Nat → Int} : ∀ {n : Nat}, (∀ k, k < n → (inB (f k) (-64) 64 && inB (f (24 + k)) 0 255) = true) → okSun f n = true
  | 0, _ => rfl
  | n + 1, h => by unfold okSun; rw [okSun_all (fun k hk => h k (by omega)), h n (by omega)]; rfl
theorem okSun_bad {f : Nat → Int} : ∀ {n k : Nat}, k < n → (inB (f k) (-64) 64 && inB (f (24 + k)) 0 255) = false → okSun f n = false
  | 0, _, h, _ => absurd h (Nat.not_lt_zero _)
  | n + 1, k, h, hv => by
    unfold okSun
    rcases Nat.lt_succ_iff_lt_or_eq.1 h with h1 | h1
    · rw [okSun_bad h1 hv]; rfl
    · rw [h1] at hv; rw [hv]; simp
theorem okSun_at {f : Nat → Int} {n k : Nat} (h : okSun f n = true) (hk : k < n) : (-64 ≤ f k ∧ f k ≤ 64) ∧ 0 ≤ f (24 + k) ∧ f (24 + k) ≤ 255 := by
  cases hq : (inB (f k) (-64) 64 && inB (f (24 + k)) 0 255) with
  | false => rw [okSun_bad hk hq] at h; cases h
  | true =>
    rw [Bool.and_eq_true] at hq
    exact ⟨inB_iff.1 hq.1, inB_iff.1 hq.2⟩
set_option maxRecDepth 100000 in
set_option maxHeartbeats 4000000 in
theorem l01Ok_any (b o : Nat) (f : Nat → Int) (hI : I16 f) (w : World) (hS : SunAt w b o f) :
    Calls Try.prog 109 #[.pointer (some ⟨b, o, none⟩)] w fun e w' => e = .returned (.bool (vSun f)) ∧ w = w' := by
  have HS := Lib.hid hS; have HI := Lib.hid hI; clear hS hI
  go_enter Try.func109, Try.ntmps109
  go_wp2
  go_loop [3] (fun s3 => ∃ kk : Nat, kk ≤ 24 ∧ s3 = .int .i64 kk ∧ Aside (∀ j, j < kk → (inB (f j) (-64) 64 && inB (f (24 + j)) 0 255) = true)) (fun s3 => 24 - (intOf s3).toNat)
  case atStart => exact ⟨0, by omega, rfl, fun j hj => absurd hj (Nat.not_lt_zero _)⟩
  case round =>
    obtain ⟨kk, hkk, rfl, AA⟩ := hrel
    by_cases hlt : kk < 24
    · have hltz : (kk : Int) < 24 := by omega
      have c0 := HS.out kk (by omega)
      have c1 := HS.out (24 + kk) (by omega)
      rw [← Nat.add_assoc] at c1
      obtain ⟨i0, i1⟩ := HI.out kk (by omega)
      obtain ⟨i2, i3⟩ := HI.out (24 + kk) (by omega)
      have HB : Hid (vSun f = false ∨ (inB (f kk) (-64) 64 && inB (f (24 + kk)) 0 255) = true) := by
        cases hq : (inB (f kk) (-64) 64 && inB (f (24 + kk)) 0 255) with
        | true => exact .inr rfl
        | false => exact .inl (okSun_bad hlt hq)
      rcases cs2 (inB (f kk) (-64) 64) (inB (f (24 + kk)) 0 255) with h1 | ⟨h1, h2⟩ | ⟨h1, h2⟩
      · go_wp2_with (first | (go_at_call 135; refine (l01Height_any _ _).mono ?_; rintro e w' ⟨rfl, rfl⟩) | (go_at_call 64; refine (l01Faced_any _ _).mono ?_; rintro e w' ⟨rfl, rfl⟩))
        go_ret
        have H2 := HB.out; rw [h1] at H2
        exact ⟨(by rcases H2 with h | h; (rw [h]; rfl); cases h), rfl⟩
      · go_wp2_with (first | (go_at_call 135; refine (l01Height_any _ _).mono ?_; rintro e w' ⟨rfl, rfl⟩) | (go_at_call 64; refine (l01Faced_any _ _).mono ?_; rintro e w' ⟨rfl, rfl⟩))
        go_ret
        have H2 := HB.out; rw [h1, h2] at H2
        exact ⟨(by rcases H2 with h | h; (rw [h]; rfl); cases h), rfl⟩
      · have HQ : Hid ((inB (f kk) (-64) 64 && inB (f (24 + kk)) 0 255) = true) := by show _ = _; rw [h1, h2]; rfl
        go_wp2_with (first | (go_at_call 135; refine (l01Height_any _ _).mono ?_; rintro e w' ⟨rfl, rfl⟩) | (go_at_call 64; refine (l01Faced_any _ _).mono ?_; rintro e w' ⟨rfl, rfl⟩))
        go_round
        case rel =>
          refine ⟨kk + 1, by omega, by go_num, (show Aside _ from fun j hj => ?_)⟩
          by_cases e : j = kk
          · subst e; exact HQ.out
          · exact AA.out j (by omega)
        case measure => simp [intOf]; omega
    · have hltz : ¬ (kk : Int) < 24 := by omega
      have E := Lib.hid (show kk = 24 by omega)
      go_wp2
      go_ret
      exact ⟨by rw [show vSun f = true from okSun_all (fun j hj => AA.out j (by rw [E.out]; exact hj))]; rfl, rfl⟩
section
variable {b o n : Nat} {f : Nat → Int}
theorem arrAt_ext (w x : World) (h : b < w.heap.size) : ArrAt (ext w x) b o n f = ArrAt w b o n f := by
  unfold ArrAt
  have : ∀ i, (ext w x).cell? ⟨b, o + i, none⟩ = w.cell? ⟨b, o + i, none⟩ := fun i => ext_cell _ _ h
  simp only [this]
theorem arrAt_alloc (w : World) (ob : Obj) (h : b < w.heap.size) : ArrAt (w.alloc ob) b o n f = ArrAt w b o n f := by
  unfold ArrAt
  have : ∀ i, (w.alloc ob).cell? ⟨b, o + i, none⟩ = w.cell? ⟨b, o + i, none⟩ := fun i => World.cell?_alloc_lt w ob ⟨b, o + i, none⟩ h
  simp only [this]
theorem arrAt_drew (w : World) : ArrAt w.drew b o n f = ArrAt w b o n f := rfl
theorem arrAt_drewN (w : World) (k : Nat) : ArrAt (w.drewN k) b o n f = ArrAt w b o n f := rfl
theorem arrAt_new (w : World) (t : TypeId) : ArrAt (w.alloc (.cells (arrA n f) t)) w.heap.size 0 n f = True := by
  simp only [eq_iff_iff, iff_true]
  exact ArrAt.of_row (heap_alloc_new w _)
theorem arrAt_new1 (w : World) (ob : Obj) (t : TypeId) : ArrAt ((w.alloc ob).alloc (.cells (arrA n f) t)) (w.heap.size + 1) 0 n f = True := by
  have := arrAt_new (n := n) (f := f) (w.alloc ob) t
  simpa using this
theorem arrAt_new2 (w : World) (ob oc : Obj) (t : TypeId) : ArrAt (((w.alloc ob).alloc oc).alloc (.cells (arrA n f) t)) (w.heap.size + 1 + 1) 0 n f = True := by
  have := arrAt_new (n := n) (f := f) ((w.alloc ob).alloc oc) t
  simpa using this
end
/-- A load of an array or a struct, a store: under names, so that the walk does not take them apart. -/
def ldA (T : TypeId) (v : Value) : Sem Value := Instr.loadAt T v
def stA (T : TypeId) (p v : Value) : Sem Unit := Instr.storeAt T p v
theorem ldA_ok {T : TypeId} {d : TypeDesc} {n : Nat} (hu : Try.prog.underlying T = some d) (hd : d.isRow = true) (hi : (Try.prog.info? T).map (·.size) = some n) (f : Nat → Int) (w : World) (b o : Nat) (h : ArrAt w b o n f) : (ldA T (.pointer (some ⟨b, o, none⟩))).run Try.prog w = .ok (.agg (arrA n f)) w := by
  have := run_loadAt_mid (P := Try.prog) w b o T (arrA n f).toList d h.range hu hd (by rw [hi]; simp [arrA])
  simpa [ldA] using this
theorem stA_new {T : TypeId} {n : Nat} (hi : (Try.prog.info? T).map (·.size) = some n) (f : Nat → Int) (w : World) (cs : Array Value) (hs : cs.size = n) :
    (stA T (.pointer (some ⟨w.heap.size, 0, none⟩)) (.agg (arrA n f))).run Try.prog (w.alloc (.cells cs T)) = .ok () (w.alloc (.cells (arrA n f) T)) :=
  run_storeAt_new w T cs (arrA n f) (by rw [hi, arrA_size]) (by rw [hs, arrA_size]) (arrA_one n f)
theorem stA_ok {T : TypeId} {n : Nat} (hi : (Try.prog.info? T).map (·.size) = some n) (f : Nat → Int) (w : World) (b o : Nat) (ht : w.there b o n) :
    (stA T (.pointer (some ⟨b, o, none⟩)) (.agg (arrA n f))).run Try.prog w = .ok () (w.setCells b o (arrA n f).toList) :=
  run_storeAt_mid (P := Try.prog) w b o T (arrA n f) (by rw [arrA_size]; exact ht) (by rw [hi, arrA_size]) (arrA_one n f)
theorem size_sun : (Try.prog.info? 71).map (·.size) = some 48 := by kernel_rfl
theorem run_ld_sun (v : Value) : Instr.loadAt 71 v = ldA 71 v := rfl
theorem run_st_sun (p v : Value) : Instr.storeAt 71 p v = stA 71 p v := rfl
theorem ld_sun (f : Nat → Int) (w : World) (b o : Nat) (h : ArrAt w b o 48 f) : (ldA 71 (.pointer (some ⟨b, o, none⟩))).run Try.prog w = .ok (.agg (arrA 48 f)) w := ldA_ok Try.underlying71 rfl size_sun f w b o h
theorem stn_sun (f : Nat → Int) (w : World) (cs : Array Value) (hs : cs.size = 48) : (stA 71 (.pointer (some ⟨w.heap.size, 0, none⟩)) (.agg (arrA 48 f))).run Try.prog (w.alloc (.cells cs 71)) = .ok () (w.alloc (.cells (arrA 48 f) 71)) := stA_new size_sun f w cs hs
theorem st_sun (f : Nat → Int) (w : World) (b o : Nat) (ht : w.there b o 48) : (stA 71 (.pointer (some ⟨b, o, none⟩)) (.agg (arrA 48 f))).run Try.prog w = .ok () (w.setCells b o (arrA 48 f).toList) := stA_ok size_sun f w b o ht
theorem size_lsun : (Try.prog.info? 67).map (·.size) = some 48 := by kernel_rfl
theorem run_ld_lsun (v : Value) : Instr.loadAt 67 v = ldA 67 v := rfl
theorem run_st_lsun (p v : Value) : Instr.storeAt 67 p v = stA 67 p v := rfl
theorem ld_lsun (f : Nat → Int) (w : World) (b o : Nat) (h : ArrAt w b o 48 f) : (ldA 67 (.pointer (some ⟨b, o, none⟩))).run Try.prog w = .ok (.agg (arrA 48 f)) w := ldA_ok Try.underlying67 rfl size_lsun f w b o h
theorem stn_lsun (f : Nat → Int) (w : World) (cs : Array Value) (hs : cs.size = 48) : (stA 67 (.pointer (some ⟨w.heap.size, 0, none⟩)) (.agg (arrA 48 f))).run Try.prog (w.alloc (.cells cs 67)) = .ok () (w.alloc (.cells (arrA 48 f) 67)) := stA_new size_lsun f w cs hs
theorem st_lsun (f : Nat → Int) (w : World) (b o : Nat) (ht : w.there b o 48) : (stA 67 (.pointer (some ⟨b, o, none⟩)) (.agg (arrA 48 f))).run Try.prog w = .ok () (w.setCells b o (arrA 48 f).toList) := stA_ok size_lsun f w b o ht
theorem size_a24 : (Try.prog.info? 65).map (·.size) = some 24 := by kernel_rfl
theorem run_ld_a24 (v : Value) : Instr.loadAt 65 v = ldA 65 v := rfl
theorem run_st_a24 (p v : Value) : Instr.storeAt 65 p v = stA 65 p v := rfl
theorem ld_a24 (f : Nat → Int) (w : World) (b o : Nat) (h : ArrAt w b o 24 f) : (ldA 65 (.pointer (some ⟨b, o, none⟩))).run Try.prog w = .ok (.agg (arrA 24 f)) w := ldA_ok Try.underlying65 rfl size_a24 f w b o h
theorem stn_a24 (f : Nat → Int) (w : World) (cs : Array Value) (hs : cs.size = 24) : (stA 65 (.pointer (some ⟨w.heap.size, 0, none⟩)) (.agg (arrA 24 f))).run Try.prog (w.alloc (.cells cs 65)) = .ok () (w.alloc (.cells (arrA 24 f) 65)) := stA_new size_a24 f w cs hs
theorem st_a24 (f : Nat → Int) (w : World) (b o : Nat) (ht : w.there b o 24) : (stA 65 (.pointer (some ⟨b, o, none⟩)) (.agg (arrA 24 f))).run Try.prog w = .ok () (w.setCells b o (arrA 24 f).toList) := stA_ok size_a24 f w b o ht
set_option maxRecDepth 100000 in
set_option maxHeartbeats 4000000 in
theorem ValidSun_any (f : Nat → Int) (hI : I16 f) (w : World) :
    Calls Try.prog 112 #[.agg (sunA f)] w fun e w' => e = .returned (.bool (vSun f)) ∧ ∃ x, w' = ext w x := by
  have HI := Lib.hid hI; clear hI
  go_enter Try.func112, Try.ntmps112
  go_wp2
  have HS := Lib.hid (ArrAt.of_row (heap_alloc_new w (.cells (sunA f) 71)))
  have BW : Below w.heap.size w (w.alloc (.cells (sunA f) 71)) := (Below.refl _ _).alloc (Nat.le_refl _) _
  generalize w.alloc (.cells (sunA f) 71) = W0 at HS BW ⊢
  go_loop [3, 4] (fun _ s4 => ∃ kk : Nat, kk ≤ 24 ∧ s4 = .int .i64 kk ∧ Aside (∀ j, j < kk → (inB (f j) (-64) 64 && inB (f (24 + j)) 0 255) = true)) (fun _ s4 => 24 - (intOf s4).toNat)
  case atStart => exact ⟨0, by omega, rfl, fun j hj => absurd hj (Nat.not_lt_zero _)⟩
  case round =>
    obtain ⟨kk, hkk, rfl, AA⟩ := hrel
    by_cases hlt : kk < 24
    · have hltz : (kk : Int) < 24 := by omega
      have c0 := HS.out kk (by omega)
      have c1 := HS.out (24 + kk) (by omega)
      rw [Nat.zero_add] at c0 c1
      obtain ⟨i0, i1⟩ := HI.out kk (by omega)
      obtain ⟨i2, i3⟩ := HI.out (24 + kk) (by omega)
      have HB : Hid (vSun f = false ∨ (inB (f kk) (-64) 64 && inB (f (24 + kk)) 0 255) = true) := by
        cases hq : (inB (f kk) (-64) 64 && inB (f (24 + kk)) 0 255) with
        | true => exact .inr rfl
        | false => exact .inl (okSun_bad hlt hq)
      rcases cs2 (inB (f kk) (-64) 64) (inB (f (24 + kk)) 0 255) with h1 | ⟨h1, h2⟩ | ⟨h1, h2⟩
      · go_wp2_with (go_at_call 71; refine (within_any _ _ _ _).mono ?_; rintro e w' ⟨rfl, rfl⟩)
        go_ret
        have H2 := HB.out; rw [h1] at H2
        exact ⟨(by rcases H2 with h | h; (rw [h]; rfl); cases h), ex_of BW⟩
      · go_wp2_with (go_at_call 71; refine (within_any _ _ _ _).mono ?_; rintro e w' ⟨rfl, rfl⟩)
        go_ret
        have H2 := HB.out; rw [h1, h2] at H2
        exact ⟨(by rcases H2 with h | h; (rw [h]; rfl); cases h), ex_of BW⟩
      · have HQ : Hid ((inB (f kk) (-64) 64 && inB (f (24 + kk)) 0 255) = true) := by show _ = _; rw [h1, h2]; rfl
        go_wp2_with (go_at_call 71; refine (within_any _ _ _ _).mono ?_; rintro e w' ⟨rfl, rfl⟩)
        go_round
        case rel =>
          refine ⟨kk + 1, by omega, by go_num, (show Aside _ from fun j hj => ?_)⟩
          by_cases e : j = kk
          · subst e; exact HQ.out
          · exact AA.out j (by omega)
        case measure => simp [intOf]; omega
    · have hltz : ¬ (kk : Int) < 24 := by omega
      have E := Lib.hid (show kk = 24 by omega)
      go_wp2
      go_ret
      exact ⟨by rw [show vSun f = true from okSun_all (fun j hj => AA.out j (by rw [E.out]; exact hj))]; rfl, ex_of BW⟩
end Go.Proofs.Ytbelopcfmjgfiaa
