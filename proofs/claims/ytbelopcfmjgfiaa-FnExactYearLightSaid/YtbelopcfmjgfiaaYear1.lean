/- Contracts: codes of blinds, windows and years; what passes on a day (both packages). No condition. -/
import Derived.Test.YtbelopcfmjgfiaaSunA
import Derived.Test.YtbelopcfmjgfiaaYearPure
import Derived.Test.YtbelopcfmjgfiaaGrow
import Derived.Deep.LoopGhost
namespace Go.Proofs.Ytbelopcfmjgfiaa
open Go Go.RowKit Go.BigFrame
attribute [local go_sem] binOp_flt binOp_fgt binOp_feq binOp_fne binOp_fle binOp_fge faRes_some run_fadd run_fsub run_fmul run_fdiv run_ofI run_store_float run_neg run_min1 ext_cell ext_frozen ext_lt ext_setCell ext_drew ext_drewN
attribute [local go_sem] arrAt_ext arrAt_alloc arrAt_drew arrAt_drewN arrAt_new arrAt_new1 arrAt_new2
attribute [local go_sem ↓] run_ld_sun run_st_sun run_ld_lsun run_st_lsun run_ld_a24 run_st_a24
theorem size_of_heap {w : World} {b : Nat} {o : Obj} (h : w.heap[b]? = some o) : b < w.heap.size := by
  rcases Nat.lt_or_ge b w.heap.size with h1 | h1
  · exact h1
  · rw [Array.getElem?_eq_none h1] at h; cases h
theorem row5b {w : World} {b : Nat} {t : TypeId} {x y z p q : Value} (h : w.heap[b]? = some (.cells #[x, y, z, p, q] t (0, 0))) :
    w.cell? ⟨b, 0, none⟩ = some x ∧ w.cell? ⟨b, 1, none⟩ = some y ∧ w.cell? ⟨b, 2, none⟩ = some z ∧ w.cell? ⟨b, 3, none⟩ = some p ∧ w.cell? ⟨b, 4, none⟩ = some q :=
  ⟨cell_of_row _ _ _ _ _ _ h, cell_of_row _ _ _ _ _ _ h, cell_of_row _ _ _ _ _ _ h, cell_of_row _ _ _ _ _ _ h, cell_of_row _ _ _ _ _ _ h⟩
def codeB (vb r : Bool) : Int := if vb = true then (if r = true then 0 else 2) else 1
def codeW (vs vb r : Bool) : Int := if vs = true then codeB vb r else 1
set_option maxHeartbeats 1000000 in
theorem blindCode_any (sl : Int) (wd gp : Nat) (ti : Int) (sh : Nat) (r : Bool) (hs0 : -128 ≤ sl) (hs1 : sl ≤ 127) (ht0 : -32768 ≤ ti) (ht1 : ti ≤ 32767) (w : World) :
    Calls Try.prog 116 #[.agg #[.int .i8 sl, .float .f32 wd, .float .f32 gp, .int .i16 ti, .float .f32 sh], .bool r] w fun e w' => e = .returned (.int .i64 (codeB (vBlind sl wd gp ti sh) r)) ∧ ∃ x, w' = ext w x := by
  have HV := fun W => ValidBlind_any sl wd gp ti sh hs0 hs1 ht0 ht1 W
  cases hv : vBlind sl wd gp ti sh
  all_goals
    rw [hv] at HV
    cases r
    all_goals
      go_enter Try.func116, Try.ntmps116
      go_wp2_with (go_at_call 103; refine (HV _).mono ?_; rintro e w' ⟨rfl, x, rfl⟩)
      go_ret
      exact ⟨rfl, ex_of (by (repeat' (first | (with_reducible exact Below.refl _ _) | (with_reducible assumption) | (with_reducible refine below_ext' ?_ ?_) | (with_reducible refine Below.alloc ?_ ?_ _) | (with_reducible refine below_drewN ?_ _) | (with_reducible refine Below.drew ?_) | (with_reducible refine Below.setCell ?_ ?_ _) | (with_reducible exact Nat.le_refl _) | (with_reducible refine ext_le _ _ ?_) | (with_reducible refine le_alloc ?_ _) | (with_reducible refine le_set ?_ _ _) | (with_reducible refine le_drew ?_) | (with_reducible refine le_drewN ?_ _) | (simp; done) | (simp; omega) | omega)))⟩
set_option maxRecDepth 100000 in
set_option maxHeartbeats 1000000 in
theorem windowCode_any (sl : Int) (wd gp : Nat) (ti : Int) (sh : Nat) (f : Nat → Int) (r : Bool) (hs0 : -128 ≤ sl) (hs1 : sl ≤ 127) (ht0 : -32768 ≤ ti) (ht1 : ti ≤ 32767) (hI : I16 f) (w : World) :
    Calls Try.prog 80 #[.agg #[.int .i8 sl, .float .f32 wd, .float .f32 gp, .int .i16 ti, .float .f32 sh], .agg (sunA f), .bool r] w fun e w' => e = .returned (.int .i64 (codeW (vSun f) (vBlind sl wd gp ti sh) r)) ∧ ∃ x, w' = ext w x := by
  have HV := fun W => ValidSun_any f hI W
  have HB := fun W => blindCode_any sl wd gp ti sh r hs0 hs1 ht0 ht1 W
  have hlo := fun W b o => ld_sun f W b o
  clear hI
  have hcw : ∀ vs, codeW vs (vBlind sl wd gp ti sh) r = if vs = true then codeB (vBlind sl wd gp ti sh) r else 1 := fun vs => rfl
  generalize codeB (vBlind sl wd gp ti sh) r = cb at HB hcw
  have HCW := Lib.hid hcw; clear hcw
  cases hv : vSun f
  all_goals
    rw [hv] at HV
    go_enter Try.func80, Try.ntmps80
    go_wp2_with (first
      | (go_at_call 112; refine (HV _).mono ?_; rintro e w' ⟨rfl, x, rfl⟩)
      | (go_at_call 116; refine (HB _).mono ?_; rintro e w' ⟨rfl, x, rfl⟩))
    go_ret
    exact ⟨by rw [HCW.out]; rfl, ex_of (by (repeat' (first | (with_reducible exact Below.refl _ _) | (with_reducible assumption) | (with_reducible refine below_ext' ?_ ?_) | (with_reducible refine Below.alloc ?_ ?_ _) | (with_reducible refine below_drewN ?_ _) | (with_reducible refine Below.drew ?_) | (with_reducible refine Below.setCell ?_ ?_ _) | (with_reducible exact Nat.le_refl _) | (with_reducible refine ext_le _ _ ?_) | (with_reducible refine le_alloc ?_ _) | (with_reducible refine le_set ?_ _ _) | (with_reducible refine le_drew ?_) | (with_reducible refine le_drewN ?_ _) | (simp; done) | (simp; omega) | omega)))⟩
/-- n suns lie from A on. -/
def RdS (w : World) (A : Option Addr) (n : Nat) (S : Nat → Nat → Int) : Prop := ∀ k, k < n → ∃ b o, A = some ⟨b, o, none⟩ ∧ SunAt w b (o + k * 48) (S k)
theorem RdS.below {w w' : World} {A : Option Addr} {n : Nat} {S : Nat → Nat → Int} (h : RdS w A n S) (hb : Below w.heap.size w w') : RdS w' A n S := fun k hk => by
  obtain ⟨b, o, e, hc⟩ := h k hk
  exact ⟨b, o, e, hc.below hb (hc.lt (by omega))⟩
def I16s (n : Nat) (S : Nat → Nat → Int) : Prop := ∀ k, k < n → I16 (S k)
/-- One of the first n suns is not valid. -/
def badS (S : Nat → Nat → Int) : Nat → Bool
  | 0 => false
  | k + 1 => badS S k || !vSun (S k)
theorem badS_mono {S : Nat → Nat → Int} : ∀ {n k : Nat}, k < n → vSun (S k) = false → badS S n = true
  | 0, _, h, _ => absurd h (Nat.not_lt_zero _)
  | n + 1, k, h, hv => by
    unfold badS
    rcases Nat.lt_succ_iff_lt_or_eq.1 h with h1 | h1
    · rw [badS_mono h1 hv]; rfl
    · rw [h1] at hv; rw [hv]; simp
theorem badS_false {S : Nat → Nat → Int} : ∀ {n : Nat}, (∀ k, k < n → vSun (S k) = true) → badS S n = false
  | 0, _ => rfl
  | n + 1, h => by unfold badS; rw [badS_false (fun k hk => h k (by omega)), h n (by omega)]; rfl
theorem ok_of_badS {S : Nat → Nat → Int} {n : Nat} (h : badS S n = false) {k : Nat} (hk : k < n) : vSun (S k) = true := by
  cases hv : vSun (S k) with
  | true => rfl
  | false => rw [badS_mono hk hv] at h; cases h
def codeY (vb bad : Bool) (n : Nat) (r : Bool) : Int := if bad = true then 1 else if vb = true then (if inB (n : Int) 1 12 = true then (if r = true then 0 else 2) else 3) else 1
set_option maxRecDepth 100000 in
set_option maxHeartbeats 4000000 in
theorem yearCode_any (sl : Int) (wd gp : Nat) (ti : Int) (sh : Nat) (A : Option Addr) (n c : Nat) (S : Nat → Nat → Int) (r : Bool) (hs0 : -128 ≤ sl) (hs1 : sl ≤ 127) (ht0 : -32768 ≤ ti) (ht1 : ti ≤ 32767) (hI : I16s n S) (hn : n ≤ 9223372036854775807) (w : World) (hS : RdS w A n S) :
    Calls Try.prog 70 #[.agg #[.int .i8 sl, .float .f32 wd, .float .f32 gp, .int .i16 ti, .float .f32 sh], .slice A n c, .bool r] w fun e w' => e = .returned (.int .i64 (codeY (vBlind sl wd gp ti sh) (badS S n) n r)) ∧ ∃ x, w' = ext w x := by
  have HVB := fun W => ValidBlind_any sl wd gp ti sh hs0 hs1 ht0 ht1 W
  have HS := Lib.hid hS; have HI := Lib.hid hI; clear hS hI
  generalize vBlind sl wd gp ti sh = vb at HVB ⊢
  have hbx : w.heap.size < (w.alloc (.cells #[.int .i8 sl, .float .f32 wd, .float .f32 gp, .int .i16 ti, .float .f32 sh] 49)).heap.size := by simp
  have hrow := heap_alloc_new w (.cells #[.int .i8 sl, .float .f32 wd, .float .f32 gp, .int .i16 ti, .float .f32 sh] 49)
  have hold : Below w.heap.size w (w.alloc (.cells #[.int .i8 sl, .float .f32 wd, .float .f32 gp, .int .i16 ti, .float .f32 sh] 49)) := (Below.refl _ _).alloc (Nat.le_refl _) _
  have HBX := Lib.hid hbx; have HRW := Lib.hid hrow; have HOL := Lib.hid hold; clear hbx hrow hold
  go_enter Try.func70, Try.ntmps70
  go_wp2
  go_loopg [8, 11] n (fun gg _ s11 wr => ∃ kk : Nat, kk ≤ n ∧ n - kk ≤ gg ∧ s11 = .int .i64 kk ∧ Aside (Below w.heap.size w wr ∧ wr.heap[w.heap.size]? = some (.cells #[.int .i8 sl, .float .f32 wd, .float .f32 gp, .int .i16 ti, .float .f32 sh] 49 (0, 0))) ∧ Aside (∀ j, j < kk → vSun (S j) = true))
  case atStart => exact ⟨0, Nat.zero_le _, by omega, rfl, ⟨HOL.out, HRW.out⟩, fun j hj => absurd hj (Nat.not_lt_zero _)⟩
  case round =>
    obtain ⟨kk, hkk, hg, rfl, BW, AA⟩ := hrel
    have BW1 := BW.out.1
    have ZW := BW.out.1.size
    have zb := size_of_heap BW.out.2
    by_cases hlt : kk < n
    · have hltz : (kk : Int) < (n : Int) := by omega
      obtain ⟨b, o, rfl, hs⟩ := (HS.out.below BW.out.1) kk hlt
      have hb := hs.lt (by omega)
      have HV := fun W => ValidSun_any (S kk) (HI.out kk hlt) W
      have hlo := fun W b o => ld_sun (S kk) W b o
      have hst := fun W cs hcs => stn_sun (S kk) W cs hcs
      generalize hf : S kk = f at hs HV hlo hst
      cases hv : vSun f
      · rw [hv] at HV
        have HB : Hid (badS S n = true) := badS_mono hlt (by rw [hf]; exact hv)
        clear hf hv
        go_wp2_with (go_at_call 112; refine (HV _).mono ?_; rintro e w' ⟨rfl, x, rfl⟩)
        go_ret
        exact ⟨by rw [HB.out]; rfl, ex_of (by (repeat' (first | (with_reducible exact Below.refl _ _) | (with_reducible assumption) | (with_reducible refine below_ext' ?_ ?_) | (with_reducible refine Below.alloc ?_ ?_ _) | (with_reducible refine below_drewN ?_ _) | (with_reducible refine Below.drew ?_) | (with_reducible refine Below.setCell ?_ ?_ _) | (with_reducible exact Nat.le_refl _) | (with_reducible refine ext_le _ _ ?_) | (with_reducible refine le_alloc ?_ _) | (with_reducible refine le_set ?_ _ _) | (with_reducible refine le_drew ?_) | (with_reducible refine le_drewN ?_ _) | (simp; done) | (simp; omega) | omega)))⟩
      · rw [hv] at HV
        have HF : Hid (vSun (S kk) = true) := by rw [hf]; exact hv
        clear hf hv
        go_wp2_with (go_at_call 112; refine (HV _).mono ?_; rintro e w' ⟨rfl, x, rfl⟩)
        go_roundg (n - (kk + 1))
        case measure => omega
        case rel =>
          refine ⟨kk + 1, by omega, by omega, by go_num, (show Aside _ from ⟨by (repeat' (first | (with_reducible exact Below.refl _ _) | (with_reducible assumption) | (with_reducible refine below_ext' ?_ ?_) | (with_reducible refine Below.alloc ?_ ?_ _) | (with_reducible refine below_drewN ?_ _) | (with_reducible refine Below.drew ?_) | (with_reducible refine Below.setCell ?_ ?_ _) | (with_reducible exact Nat.le_refl _) | (with_reducible refine ext_le _ _ ?_) | (with_reducible refine le_alloc ?_ _) | (with_reducible refine le_set ?_ _ _) | (with_reducible refine le_drew ?_) | (with_reducible refine le_drewN ?_ _) | (simp; done) | (simp; omega) | omega)), ?_⟩), (show Aside _ from fun j hj => ?_)⟩
          · rw [ext_block _ _ (by simp; omega)]; exact (Below.heap_alloc _ _ _ zb).trans BW.out.2
          · by_cases e : j = kk
            · subst e; exact HF.out
            · exact AA.out j (by omega)
    · have hltz : ¬ (kk : Int) < (n : Int) := by omega
      have hk : kk = n := by omega
      subst hk
      have HB : Hid (badS S kk = false) := badS_false AA.out
      obtain ⟨b0, b1, b2, b3, b4⟩ := row5b BW.out.2
      have HN : Hid (∀ x, codeY vb (badS S kk) kk x = if vb = true then (if inB (kk : Int) 1 12 = true then (if x = true then 0 else 2) else 3) else 1) := fun x => by
        unfold codeY; rw [HB.out]; rfl
      rcases cs2 vb (inB (kk : Int) 1 12) with h1 | ⟨h1, h2⟩ | ⟨h1, h2⟩
      · subst h1
        go_wp2_with (first
          | (go_at_call 103; refine (HVB _).mono ?_; rintro e w' ⟨rfl, x, rfl⟩)
          | (go_at_call 71; refine (within_any _ _ _ _).mono ?_; rintro e w' ⟨rfl, rfl⟩))
        go_ret
        exact ⟨by rw [HN.out]; rfl, ex_of (by (repeat' (first | (with_reducible exact Below.refl _ _) | (with_reducible assumption) | (with_reducible refine below_ext' ?_ ?_) | (with_reducible refine Below.alloc ?_ ?_ _) | (with_reducible refine below_drewN ?_ _) | (with_reducible refine Below.drew ?_) | (with_reducible refine Below.setCell ?_ ?_ _) | (with_reducible exact Nat.le_refl _) | (with_reducible refine ext_le _ _ ?_) | (with_reducible refine le_alloc ?_ _) | (with_reducible refine le_set ?_ _ _) | (with_reducible refine le_drew ?_) | (with_reducible refine le_drewN ?_ _) | (simp; done) | (simp; omega) | omega)))⟩
      · subst h1
        go_wp2_with (first
          | (go_at_call 103; refine (HVB _).mono ?_; rintro e w' ⟨rfl, x, rfl⟩)
          | (go_at_call 71; refine (within_any _ _ _ _).mono ?_; rintro e w' ⟨rfl, rfl⟩))
        go_ret
        exact ⟨by rw [HN.out, h2]; rfl, ex_of (by (repeat' (first | (with_reducible exact Below.refl _ _) | (with_reducible assumption) | (with_reducible refine below_ext' ?_ ?_) | (with_reducible refine Below.alloc ?_ ?_ _) | (with_reducible refine below_drewN ?_ _) | (with_reducible refine Below.drew ?_) | (with_reducible refine Below.setCell ?_ ?_ _) | (with_reducible exact Nat.le_refl _) | (with_reducible refine ext_le _ _ ?_) | (with_reducible refine le_alloc ?_ _) | (with_reducible refine le_set ?_ _ _) | (with_reducible refine le_drew ?_) | (with_reducible refine le_drewN ?_ _) | (simp; done) | (simp; omega) | omega)))⟩
      · subst h1
        cases r
        all_goals
          go_wp2_with (first
            | (go_at_call 103; refine (HVB _).mono ?_; rintro e w' ⟨rfl, x, rfl⟩)
            | (go_at_call 71; refine (within_any _ _ _ _).mono ?_; rintro e w' ⟨rfl, rfl⟩))
          go_ret
          exact ⟨by rw [HN.out, h2]; rfl, ex_of (by (repeat' (first | (with_reducible exact Below.refl _ _) | (with_reducible assumption) | (with_reducible refine below_ext' ?_ ?_) | (with_reducible refine Below.alloc ?_ ?_ _) | (with_reducible refine below_drewN ?_ _) | (with_reducible refine Below.drew ?_) | (with_reducible refine Below.setCell ?_ ?_ _) | (with_reducible exact Nat.le_refl _) | (with_reducible refine ext_le _ _ ?_) | (with_reducible refine le_alloc ?_ _) | (with_reducible refine le_set ?_ _ _) | (with_reducible refine le_drew ?_) | (with_reducible refine le_drewN ?_ _) | (simp; done) | (simp; omega) | omega)))⟩
set_option maxRecDepth 100000 in
set_option maxHeartbeats 4000000 in
theorem l07Year_any (bb ob : Nat) (sl : Int) (wd gp : Nat) (ti : Int) (sh : Nat) (A : Option Addr) (n c : Nat) (S : Nat → Nat → Int) (r : Bool) (hs0 : -128 ≤ sl) (hs1 : sl ≤ 127) (ht0 : -32768 ≤ ti) (ht1 : ti ≤ 32767) (hI : I16s n S) (hn : n ≤ 9223372036854775807) (w : World) (hB : BlindAt w bb ob sl wd gp ti sh) (hS : RdS w A n S) :
    Calls Try.prog 63 #[.pointer (some ⟨bb, ob, none⟩), .slice A n c, .bool r] w fun e w' => e = .returned (.int .i64 (codeY (vBlind sl wd gp ti sh) (badS S n) n r)) ∧ ∃ x, w' = ext w x := by
  have HVB := l02Ok_any bb ob sl wd gp ti sh hs0 hs1 ht0 ht1 w hB
  have HS := Lib.hid hS; have HI := Lib.hid hI; clear hS hI hB
  generalize vBlind sl wd gp ti sh = vb at HVB ⊢
  have HN : Hid (∀ bad x, codeY vb bad n x = if bad = true then 1 else if vb = true then (if inB (n : Int) 1 12 = true then (if x = true then 0 else 2) else 3) else 1) := fun _ _ => rfl
  cases vb
  · have HN2 : Hid (∀ bad x, codeY false bad n x = 1) := fun bad x => by unfold codeY; cases bad <;> rfl
    clear HN
    go_enter Try.func63, Try.ntmps63
    go_wp2_with (go_at_call 96; refine (Calls.mono HVB) ?_; rintro e w' ⟨rfl, x, rfl⟩)
    go_ret
    exact ⟨by rw [HN2.out]; rfl, ex_of (by (repeat' (first | (with_reducible exact Below.refl _ _) | (with_reducible assumption) | (with_reducible refine below_ext' ?_ ?_) | (with_reducible refine Below.alloc ?_ ?_ _) | (with_reducible refine below_drewN ?_ _) | (with_reducible refine Below.drew ?_) | (with_reducible refine Below.setCell ?_ ?_ _) | (with_reducible exact Nat.le_refl _) | (with_reducible refine ext_le _ _ ?_) | (with_reducible refine le_alloc ?_ _) | (with_reducible refine le_set ?_ _ _) | (with_reducible refine le_drew ?_) | (with_reducible refine le_drewN ?_ _) | (simp; done) | (simp; omega) | omega)))⟩
  · go_enter Try.func63, Try.ntmps63
    go_wp2_with (go_at_call 96; refine (Calls.mono HVB) ?_; rintro e w' ⟨rfl, x, rfl⟩)
    have HBX := Lib.hid (below_ext w x)
    generalize ext w x = W0 at HBX ⊢
    go_loopg [7] n (fun gg s7 wr => ∃ kk : Nat, kk ≤ n ∧ n - kk ≤ gg ∧ s7 = .int .i64 kk ∧ Aside (W0 = wr) ∧ Aside (∀ j, j < kk → vSun (S j) = true))
    case atStart => exact ⟨0, Nat.zero_le _, by omega, rfl, rfl, fun j hj => absurd hj (Nat.not_lt_zero _)⟩
    case round =>
      obtain ⟨kk, hkk, hg, rfl, BW, AA⟩ := hrel
      obtain rfl := BW.out
      clear BW
      by_cases hlt : kk < n
      · have hltz : (kk : Int) < (n : Int) := by omega
        obtain ⟨b, o, rfl, hs⟩ := (HS.out.below HBX.out) kk hlt
        have HV := l01Ok_any b (o + kk * 48) (S kk) (HI.out kk hlt) W0 hs
        clear hs
        generalize hf : S kk = f at HV
        cases hv : vSun f
        · rw [hv] at HV
          have HB : Hid (badS S n = true) := badS_mono hlt (by rw [hf]; exact hv)
          clear hf hv
          go_wp2_with (go_at_call 109; refine (Calls.mono HV) ?_; rintro e w' ⟨rfl, rfl⟩)
          go_ret
          exact ⟨by rw [HN.out, HB.out]; rfl, ex_of HBX.out⟩
        · rw [hv] at HV
          have HF : Hid (vSun (S kk) = true) := by rw [hf]; exact hv
          clear hf hv
          go_wp2_with (go_at_call 109; refine (Calls.mono HV) ?_; rintro e w' ⟨rfl, rfl⟩)
          go_roundg (n - (kk + 1))
          case measure => omega
          case rel =>
            refine ⟨kk + 1, by omega, by omega, by go_num, rfl, (show Aside _ from fun j hj => ?_)⟩
            by_cases e : j = kk
            · subst e; exact HF.out
            · exact AA.out j (by omega)
      · have hltz : ¬ (kk : Int) < (n : Int) := by omega
        have hk : kk = n := by omega
        subst hk
        have HB : Hid (badS S kk = false) := badS_false AA.out
        cases h2 : inB (kk : Int) 1 12
        · go_wp2_with (go_at_call 69; refine (l00In_any _ _ _ _).mono ?_; rintro e w' ⟨rfl, rfl⟩)
          go_ret
          exact ⟨by rw [HN.out, HB.out, h2]; rfl, ex_of HBX.out⟩
        · cases r
          all_goals
            go_wp2_with (go_at_call 69; refine (l00In_any _ _ _ _).mono ?_; rintro e w' ⟨rfl, rfl⟩)
            go_ret
            exact ⟨by rw [HN.out, HB.out, h2]; rfl, ex_of HBX.out⟩
end Go.Proofs.Ytbelopcfmjgfiaa
