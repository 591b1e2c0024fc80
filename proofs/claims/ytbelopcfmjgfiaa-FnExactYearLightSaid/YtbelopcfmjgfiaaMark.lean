/- Contracts: the laws' eqState, eqFloat32S, eqInt64S, mark.. and held.. No condition. -/
import Derived.Test.YtbelopcfmjgfiaaOwn
import Derived.Test.YtbelopcfmjgfiaaNan
import Derived.Test.YtbelopcfmjgfiaaEqTick
import Derived.Deep.LoopGhost
import Derived.Deep.RegionWith
namespace Go.Proofs.Ytbelopcfmjgfiaa
open Go Go.RowKit Go.BigFrame
attribute [local go_sem] binOp_flt binOp_fgt binOp_feq binOp_fne binOp_fle binOp_fge faRes_some run_fadd run_fsub run_fmul run_fdiv run_ofI run_store_float run_neg run_min1 ext_cell ext_frozen ext_lt ext_setCell ext_drew ext_drewN
set_option maxRecDepth 100000 in
set_option maxHeartbeats 2000000 in
theorem eqState_any (s : St) (w : World) : Calls Try.prog 45 #[s.v, s.v] w fun e w' => e = .returned (.bool true) ∧ ∃ x, w' = ext w x := by
  unfold St.v
  generalize s.ti = ti'; generalize s.wa = wa; generalize s.sm = sm
  go_enter Try.func45, Try.ntmps45
  go_wp2
  go_ret
  exact ⟨rfl, ex_of (by (repeat' (first | (with_reducible exact Below.refl _ _) | (with_reducible assumption) | (with_reducible refine below_ext' ?_ ?_) | (with_reducible refine Below.alloc ?_ ?_ _) | (with_reducible refine below_drewN ?_ _) | (with_reducible refine Below.drew ?_) | (with_reducible refine Below.setCell ?_ ?_ _) | (with_reducible exact Nat.le_refl _) | (with_reducible refine ext_le _ _ ?_) | (simp; done) | (simp; omega) | omega)))⟩
theorem floatOfInt_ofI (n : Int) : floatOfInt .f32 n = ofI n := rfl
attribute [local go_sem] floatOfInt_ofI
def markF (k0 : Int) (i : Nat) : Value := .float .f32 (ofI (k0 + i))
def markI (k0 : Int) (i : Nat) : Value := .int .i64 (k0 + i)
set_option maxRecDepth 100000 in
set_option maxHeartbeats 2000000 in
theorem markFloat32S_any (A : Option Addr) (n c : Nat) (k0 : Int) (B : Nat) (f : Nat → Value) (hn : n ≤ 1048576) (h0 : 0 ≤ k0) (h1 : k0 ≤ 1000000000) (w : World) (hO : Own w B A n 24 f) :
    Calls Try.prog 17 #[.slice A n c, .int .i64 k0] w fun e w' => e = .returned (.int .i64 (k0 + n)) ∧ Apart (fun j => 0 < n ∧ blk A j) w w' ∧ Own w' B A n 24 (markF k0) := by
  have HO := Lib.hid (hO.start (markF k0)); clear hO
  go_enter Try.func17, Try.ntmps17
  go_wp2
  go_loopg [1, 5] n (fun gg s1 s5 wr => ∃ kk : Nat, kk ≤ n ∧ n - kk ≤ gg ∧ s1 = .int .i64 (k0 + kk) ∧ s5 = .int .i64 kk ∧ Aside (Apart (fun j => 0 < n ∧ blk A j) w wr) ∧ Aside (OwnK wr B A n 24 kk (markF k0)))
  case atStart => exact ⟨0, Nat.zero_le _, by omega, by simp, rfl, apart_refl _ _, HO.out⟩
  case round =>
    obtain ⟨kk, hkk, hg, rfl, rfl, AP, OW⟩ := hrel
    by_cases hlt : kk < n
    · have hltz : (kk : Int) < (n : Int) := by omega
      obtain ⟨g, rfl, gB, gl, ⟨y, d0⟩, f0, ow⟩ := OW.out.at hlt
      have OW2 := Lib.hid ow; clear ow
      go_wp2
      go_roundg (n - (kk + 1))
      case measure => omega
      case rel => exact ⟨kk + 1, by omega, by omega, by simp; omega, by go_num, (show Aside _ from AP.out.set ⟨by omega, 0, rfl⟩ _), OW2.out⟩
    · have hltz : ¬ (kk : Int) < (n : Int) := by omega
      have : kk = n := by omega
      subst this
      go_wp2
      go_ret
      exact ⟨rfl, AP.out, OW.out⟩
set_option maxRecDepth 100000 in
set_option maxHeartbeats 2000000 in
theorem markInt64S_any (A : Option Addr) (n c : Nat) (k0 : Int) (B : Nat) (f : Nat → Value) (hn : n ≤ 1048576) (h0 : 0 ≤ k0) (h1 : k0 ≤ 1000000000) (w : World) (hO : Own w B A n 2 f) :
    Calls Try.prog 18 #[.slice A n c, .int .i64 k0] w fun e w' => e = .returned (.int .i64 (k0 + n)) ∧ Apart (fun j => 0 < n ∧ blk A j) w w' ∧ Own w' B A n 2 (markI k0) := by
  have HO := Lib.hid (hO.start (markI k0)); clear hO
  go_enter Try.func18, Try.ntmps18
  go_wp2
  go_loopg [1, 5] n (fun gg s1 s5 wr => ∃ kk : Nat, kk ≤ n ∧ n - kk ≤ gg ∧ s1 = .int .i64 (k0 + kk) ∧ s5 = .int .i64 kk ∧ Aside (Apart (fun j => 0 < n ∧ blk A j) w wr) ∧ Aside (OwnK wr B A n 2 kk (markI k0)))
  case atStart => exact ⟨0, Nat.zero_le _, by omega, by simp, rfl, apart_refl _ _, HO.out⟩
  case round =>
    obtain ⟨kk, hkk, hg, rfl, rfl, AP, OW⟩ := hrel
    by_cases hlt : kk < n
    · have hltz : (kk : Int) < (n : Int) := by omega
      obtain ⟨g, rfl, gB, gl, ⟨y, d0⟩, f0, ow⟩ := OW.out.at hlt
      have OW2 := Lib.hid ow; clear ow
      go_wp2
      go_roundg (n - (kk + 1))
      case measure => omega
      case rel => exact ⟨kk + 1, by omega, by omega, by simp; omega, by go_num, (show Aside _ from AP.out.set ⟨by omega, 0, rfl⟩ _), OW2.out⟩
    · have hltz : ¬ (kk : Int) < (n : Int) := by omega
      have : kk = n := by omega
      subst this
      go_wp2
      go_ret
      exact ⟨rfl, AP.out, OW.out⟩
set_option maxRecDepth 100000 in
set_option maxHeartbeats 2000000 in
theorem heldFloat32S_any (A : Option Addr) (n c : Nat) (k0 : Int) (hn : n ≤ 1048576) (h0 : 0 ≤ k0) (h1 : k0 ≤ 1000000000) (w : World) (hR : Rd w A n (markF k0)) :
    Calls Try.prog 42 #[.slice A n c, .int .i64 k0] w fun e w' => e = .returned (.int .i64 (k0 + n)) ∧ w = w' := by
  have HR := Lib.hid hR; clear hR
  go_enter Try.func42, Try.ntmps42
  go_wp2
  go_loop [1, 5] (fun s1 s5 => ∃ kk : Nat, kk ≤ n ∧ s1 = .int .i64 (k0 + kk) ∧ s5 = .int .i64 kk) (fun _ s5 => n - (intOf s5).toNat)
  case atStart => exact ⟨0, Nat.zero_le _, by simp, rfl⟩
  case round =>
    obtain ⟨kk, hkk, rfl, rfl⟩ := hrel
    by_cases hlt : kk < n
    · have hltz : (kk : Int) < (n : Int) := by omega
      obtain ⟨b, o, rfl, hc⟩ := HR.out kk hlt
      unfold markF at hc
      have hne : (FloatKind.f32.format.order (ofI (k0 + kk)) (ofI (k0 + kk)) != some .eq) = false := fne_self (ofI_ok (k0 + kk))
      go_wp2
      go_round
      case rel => exact ⟨kk + 1, by omega, by simp; omega, by go_num⟩
      case measure => simp [intOf]; omega
    · have hltz : ¬ (kk : Int) < (n : Int) := by omega
      have : kk = n := by omega
      subst this
      go_wp2
      go_ret
      exact ⟨rfl, rfl⟩
set_option maxRecDepth 100000 in
set_option maxHeartbeats 2000000 in
theorem heldInt64S_any (A : Option Addr) (n c : Nat) (k0 : Int) (hn : n ≤ 1048576) (h0 : 0 ≤ k0) (h1 : k0 ≤ 1000000000) (w : World) (hR : Rd w A n (markI k0)) :
    Calls Try.prog 19 #[.slice A n c, .int .i64 k0] w fun e w' => e = .returned (.int .i64 (k0 + n)) ∧ w = w' := by
  have HR := Lib.hid hR; clear hR
  go_enter Try.func19, Try.ntmps19
  go_wp2
  go_loop [1, 5] (fun s1 s5 => ∃ kk : Nat, kk ≤ n ∧ s1 = .int .i64 (k0 + kk) ∧ s5 = .int .i64 kk) (fun _ s5 => n - (intOf s5).toNat)
  case atStart => exact ⟨0, Nat.zero_le _, by simp, rfl⟩
  case round =>
    obtain ⟨kk, hkk, rfl, rfl⟩ := hrel
    by_cases hlt : kk < n
    · have hltz : (kk : Int) < (n : Int) := by omega
      obtain ⟨b, o, rfl, hc⟩ := HR.out kk hlt
      unfold markI at hc
      skip
      go_wp2
      go_round
      case rel => exact ⟨kk + 1, by omega, by simp; omega, by go_num⟩
      case measure => simp [intOf]; omega
    · have hltz : ¬ (kk : Int) < (n : Int) := by omega
      have : kk = n := by omega
      subst this
      go_wp2
      go_ret
      exact ⟨rfl, rfl⟩
set_option maxRecDepth 100000 in
set_option maxHeartbeats 4000000 in
theorem eqInt64S_any (A A' : Option Addr) (n c d : Nat) (f : Nat → Int) (hn : n ≤ 1048576) (w : World) (hT : Rd w A n (fun k => .int .i64 (f k))) (hU : Rd w A' n (fun k => .int .i64 (f k))) :
    Calls Try.prog 14 #[.slice A n c, .slice A' n d] w fun e w' => e = .returned (.bool true) ∧ ∃ x, w' = ext w x := by
  have HT := Lib.hid hT; have HU := Lib.hid hU; clear hT hU
  go_enter Try.func14, Try.ntmps14
  go_wp2
  go_loopg [5] n (fun gg s5 wr => ∃ kk : Nat, kk ≤ n ∧ n - kk ≤ gg ∧ s5 = .int .i64 kk ∧ Aside (Below w.heap.size w wr))
  case atStart => exact ⟨0, Nat.zero_le _, by omega, rfl, Below.refl _ _⟩
  case round =>
    obtain ⟨kk, hkk, hg, rfl, BW⟩ := hrel
    by_cases hlt : kk < n
    · have hltz : (kk : Int) < (n : Int) := by omega
      obtain ⟨b1, o1, rfl, t0⟩ := (HT.out.below BW.out) kk hlt
      obtain ⟨b2, o2, rfl, u0⟩ := (HU.out.below BW.out) kk hlt
      have l1 : b1 < wr.heap.size := World.block_lt_of_cell? wr _ t0
      have l2 : b2 < wr.heap.size := World.block_lt_of_cell? wr _ u0
      simp only at t0 u0
      generalize f kk = y at t0 u0
      go_wp2
      refine wp_region_ex (by kernel_rfl) (by kernel_rfl) ?_
      repeat (go_big_quiet_step ((fail)))
      refine wpQuiet_nil ?_
      intro _ hw'
      obtain ⟨xq, hw''⟩ := hw'
      subst hw''
      go_wp2
      go_roundg (n - (kk + 1))
      case measure => omega
      case rel => exact ⟨kk + 1, by omega, by omega, by go_num, (show Aside _ from below_ext' BW.out BW.out.size)⟩
    · have hltz : ¬ (kk : Int) < (n : Int) := by omega
      have : kk = n := by omega
      subst this
      go_wp2
      go_ret
      exact ⟨rfl, ex_of BW.out⟩
set_option maxRecDepth 100000 in
set_option maxHeartbeats 4000000 in
theorem eqFloat32S_any (A A' : Option Addr) (n c d : Nat) (f : Nat → Nat) (hn : n ≤ 1048576) (w : World) (hT : Rd w A n (fun k => .float .f32 (f k))) (hU : Rd w A' n (fun k => .float .f32 (f k))) :
    Calls Try.prog 16 #[.slice A n c, .slice A' n d] w fun e w' => e = .returned (.bool true) ∧ ∃ x, w' = ext w x := by
  have HT := Lib.hid hT; have HU := Lib.hid hU; clear hT hU
  have HN := Lib.hid (fun x y W1 W2 W => sameFloat_nan (nanOf x W1) (nanOf y W2) (dne_nanOf x W1) (dne_nanOf y W2) W)
  go_enter Try.func16, Try.ntmps16
  go_wp2
  go_loopg [5] n (fun gg s5 wr => ∃ kk : Nat, kk ≤ n ∧ n - kk ≤ gg ∧ s5 = .int .i64 kk ∧ Aside (Below w.heap.size w wr))
  case atStart => exact ⟨0, Nat.zero_le _, by omega, rfl, Below.refl _ _⟩
  case round =>
    obtain ⟨kk, hkk, hg, rfl, BW⟩ := hrel
    by_cases hlt : kk < n
    · have hltz : (kk : Int) < (n : Int) := by omega
      obtain ⟨b1, o1, rfl, t0⟩ := (HT.out.below BW.out) kk hlt
      obtain ⟨b2, o2, rfl, u0⟩ := (HU.out.below BW.out) kk hlt
      have l1 : b1 < wr.heap.size := World.block_lt_of_cell? wr _ t0
      have l2 : b2 < wr.heap.size := World.block_lt_of_cell? wr _ u0
      simp only at t0 u0
      generalize f kk = y at t0 u0
      rcases wide_cases y with ⟨_, c1⟩ | ⟨r1, q1, d1, v1, c1⟩
      · have BW2 := BW.out
        go_wp2
        go_region_with (go_at_call 15; refine (HN.out _ _ _ _ _).mono ?_; rintro e w' ⟨rfl, rfl⟩)
        all_goals go_wp2
        all_goals go_roundg (n - (kk + 1))
        all_goals first | omega | exact ⟨kk + 1, by omega, by omega, by go_num, (show Aside _ from (by (repeat' (first | (with_reducible exact Below.refl _ _) | (with_reducible assumption) | (with_reducible refine below_ext' ?_ ?_) | (with_reducible refine Below.alloc ?_ ?_ _) | (with_reducible refine below_drewN ?_ _) | (with_reducible refine Below.drew ?_) | (with_reducible refine Below.setCell ?_ ?_ _) | (with_reducible exact Nat.le_refl _) | (with_reducible refine ext_le _ _ ?_) | (simp; done) | (simp; omega) | omega)) : Below w.heap.size w _))⟩
      · have H1 := Lib.hid (sameFloat_same r1 q1 d1 (fun _ => v1)); clear d1 v1
        go_wp2
        refine wp_region_ex (by kernel_rfl) (by kernel_rfl) ?_
        repeat (go_big_quiet_step ((go_at_call 15; exact Calls.ex_of_same (H1.out _))))
        refine wpQuiet_nil ?_
        intro _ hw'
        obtain ⟨xq, hw''⟩ := hw'
        subst hw''
        go_wp2
        go_roundg (n - (kk + 1))
        case measure => omega
        case rel => exact ⟨kk + 1, by omega, by omega, by go_num, (show Aside _ from below_ext' BW.out BW.out.size)⟩
    · have hltz : ¬ (kk : Int) < (n : Int) := by omega
      have : kk = n := by omega
      subst this
      go_wp2
      go_ret
      exact ⟨rfl, ex_of BW.out⟩
set_option maxRecDepth 100000 in
set_option maxHeartbeats 4000000 in
theorem markTickS_any (g n c : Nat) (k0 : Int) (hn : n ≤ 1048576) (h0 : 0 ≤ k0) (h1 : k0 ≤ 1000000000) (w : World) (hO : RowOf w g n 3 102) :
    Calls Try.prog 46 #[.slice (some ⟨g, 0, none⟩) n c, .int .i64 k0] w fun e w' => e = .returned (.int .i64 (k0 + n * 3)) ∧ Apart (fun j => j = g) w w' ∧ RowOf w' g n 3 102 := by
  have HO := Lib.hid hO; clear hO
  go_enter Try.func46, Try.ntmps46
  go_wp2
  go_loopg [1, 5] n (fun gg s1 s5 wr => ∃ kk : Nat, kk ≤ n ∧ n - kk ≤ gg ∧ s1 = .int .i64 (k0 + kk * 3) ∧ s5 = .int .i64 kk ∧ Aside (Apart (fun j => j = g) w wr) ∧ Aside (RowOf wr g n 3 102))
  case atStart => exact ⟨0, Nat.zero_le _, by omega, by simp, rfl, apart_refl _ _, HO.out⟩
  case round =>
    obtain ⟨kk, hkk, hg, rfl, rfl, AP, OW⟩ := hrel
    by_cases hlt : kk < n
    · have hltz : (kk : Int) < (n : Int) := by omega
      have RW := OW.out
      have f0 := RW.frozen (kk * 3); have f1 := RW.frozen (kk * 3 + 1); have f2 := RW.frozen (kk * 3 + 2)
      obtain ⟨y0, d0⟩ := Option.isSome_iff_exists.1 (RW.some (k := kk * 3) (by omega))
      obtain ⟨y1, d1⟩ := Option.isSome_iff_exists.1 (RW.some (k := kk * 3 + 1) (by omega))
      obtain ⟨y2, d2⟩ := Option.isSome_iff_exists.1 (RW.some (k := kk * 3 + 2) (by omega))
      have RW2 := Lib.hid RW; clear RW
      go_wp2
      go_roundg (n - (kk + 1))
      case measure => omega
      case rel =>
        refine ⟨kk + 1, by omega, by omega, by simp; omega, by go_num, (show Aside _ from ((AP.out.set rfl _).set rfl _).set rfl _), (show Aside _ from ((RW2.out.set _ _).set _ _).set _ _)⟩
    · have hltz : ¬ (kk : Int) < (n : Int) := by omega
      have : kk = n := by omega
      subst this
      go_wp2
      go_ret
      exact ⟨rfl, AP.out, OW.out⟩
end Go.Proofs.Ytbelopcfmjgfiaa
