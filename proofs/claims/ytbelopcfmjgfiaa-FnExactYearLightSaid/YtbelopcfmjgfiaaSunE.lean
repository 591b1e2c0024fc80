/- Contracts: the laws' szSunS; eqInt16A24, eqSun, eqSunS at the same; markSunS. No condition. -/
import Derived.Test.YtbelopcfmjgfiaaSunD
import Derived.Test.YtbelopcfmjgfiaaApart
namespace Go.Proofs.Ytbelopcfmjgfiaa
open Go Go.RowKit Go.BigFrame
attribute [local go_sem] binOp_flt binOp_fgt binOp_feq binOp_fne binOp_fle binOp_fge faRes_some run_fadd run_fsub run_fmul run_fdiv run_ofI run_store_float run_neg run_min1 ext_cell ext_frozen ext_lt ext_setCell ext_drew ext_drewN
attribute [local go_sem] arrAt_ext arrAt_alloc arrAt_drew arrAt_drewN arrAt_new arrAt_new1 arrAt_new2
attribute [local go_sem ↓] run_ld_sun run_st_sun run_ld_lsun run_st_lsun run_ld_a24 run_st_a24
set_option maxHeartbeats 1000000 in
theorem szSunS_any (A : Option Addr) (n c : Nat) (left : Int) (hn : n ≤ 9223372036854775807) (h0 : 0 ≤ left) (h1 : left ≤ 9223372036854775807) (w : World) :
    Calls Try.prog 28 #[.slice A n c, .int .i64 left] w fun e w' => e = .returned (.int .i64 (if left < n then -1 else left - n)) ∧ w = w' := by
  by_cases h : left < n
  · have h2 : left - (n : Int) < 0 := by omega
    go_enter Try.func28, Try.ntmps28
    go_wp2
    go_ret
    exact ⟨rfl, rfl⟩
  · have h2 : ¬ left - (n : Int) < 0 := by omega
    go_enter Try.func28, Try.ntmps28
    go_wp2
    go_ret
    exact ⟨rfl, rfl⟩
set_option maxRecDepth 100000 in
set_option maxHeartbeats 4000000 in
theorem eqInt16A24_any (f : Nat → Int) (w : World) : Calls Try.prog 111 #[.agg (arrA 24 f), .agg (arrA 24 f)] w fun e w' => e = .returned (.bool true) ∧ ∃ x, w' = ext w x := by
  have J1 : ArrAt ((w.alloc (.cells (arrA 24 f) 65)).alloc (.cells (arrA 24 f) 65)) w.heap.size 0 24 f := ArrAt.of_row ((Below.heap_alloc _ _ _ (by simp)).trans (heap_alloc_new _ _))
  have J2 : ArrAt ((w.alloc (.cells (arrA 24 f) 65)).alloc (.cells (arrA 24 f) 65)) (w.heap.size + 1) 0 24 f := by
    rw [arrAt_new1]; trivial
  have J3 : Below w.heap.size w ((w.alloc (.cells (arrA 24 f) 65)).alloc (.cells (arrA 24 f) 65)) := by (repeat' (first | (with_reducible exact Below.refl _ _) | (with_reducible assumption) | (with_reducible refine below_ext' ?_ ?_) | (with_reducible refine Below.alloc ?_ ?_ _) | (with_reducible refine below_drewN ?_ _) | (with_reducible refine Below.drew ?_) | (with_reducible refine Below.setCell ?_ ?_ _) | (with_reducible exact Nat.le_refl _) | (with_reducible refine ext_le _ _ ?_) | (with_reducible refine le_alloc ?_ _) | (with_reducible refine le_set ?_ _ _) | (with_reducible refine le_drew ?_) | (with_reducible refine le_drewN ?_ _) | (simp; done) | (simp; omega) | omega))
  have K1 := Lib.hid J1; have K2 := Lib.hid J2; have K3 := Lib.hid J3; clear J1 J2 J3
  go_enter Try.func111, Try.ntmps111
  go_wp2
  generalize (w.alloc (.cells (arrA 24 f) 65)).alloc (.cells (arrA 24 f) 65) = W0 at K1 K2 K3 ⊢
  go_loopg [5] 24 (fun gg s5 wr => ∃ kk : Nat, kk ≤ 24 ∧ 24 - kk ≤ gg ∧ s5 = .int .i64 kk ∧ Aside (Below W0.heap.size W0 wr))
  case atStart => exact ⟨0, by omega, by omega, rfl, Below.refl _ _⟩
  case round =>
    obtain ⟨kk, hkk, hg, rfl, BW⟩ := hrel
    by_cases hlt : kk < 24
    · have hltz : (kk : Int) < 24 := by omega
      have t0 := (K1.out.below BW.out (K1.out.lt (by omega))) kk hlt
      have u0 := (K2.out.below BW.out (K2.out.lt (by omega))) kk hlt
      rw [Nat.zero_add] at t0 u0
      have l1 := World.block_lt_of_cell? wr _ t0
      have l2 := World.block_lt_of_cell? wr _ u0
      simp only at l1 l2
      generalize f kk = y at t0 u0
      go_wp2
      refine wp_region_ex (by kernel_rfl) (by kernel_rfl) ?_
      repeat (go_big_quiet_step ((fail)))
      refine wpQuiet_nil ?_
      intro _ hw'
      obtain ⟨xq, hw''⟩ := hw'
      subst hw''
      go_wp2
      go_roundg (24 - (kk + 1))
      case measure => omega
      case rel => exact ⟨kk + 1, by omega, by omega, by go_num, (show Aside _ from below_ext' BW.out BW.out.size)⟩
    · have hltz : ¬ (kk : Int) < 24 := by omega
      have hB := Lib.hid (below_step K3.out BW.out)
      go_wp2
      go_ret
      exact ⟨rfl, ex_of hB.out⟩
set_option maxRecDepth 100000 in
set_option maxHeartbeats 4000000 in
theorem eqSun_any (f : Nat → Int) (w : World) : Calls Try.prog 68 #[.agg (arrA 48 f), .agg (arrA 48 f)] w fun e w' => e = .returned (.bool true) ∧ ∃ x, w' = ext w x := by
  have J1 : ArrAt ((w.alloc (.cells (arrA 48 f) 71)).alloc (.cells (arrA 48 f) 71)) w.heap.size 0 48 f := ArrAt.of_row ((Below.heap_alloc _ _ _ (by simp)).trans (heap_alloc_new _ _))
  have J2 : ArrAt ((w.alloc (.cells (arrA 48 f) 71)).alloc (.cells (arrA 48 f) 71)) (w.heap.size + 1) 0 48 f := by
    rw [arrAt_new1]; trivial
  have J3 : Below w.heap.size w ((w.alloc (.cells (arrA 48 f) 71)).alloc (.cells (arrA 48 f) 71)) := by (repeat' (first | (with_reducible exact Below.refl _ _) | (with_reducible assumption) | (with_reducible refine below_ext' ?_ ?_) | (with_reducible refine Below.alloc ?_ ?_ _) | (with_reducible refine below_drewN ?_ _) | (with_reducible refine Below.drew ?_) | (with_reducible refine Below.setCell ?_ ?_ _) | (with_reducible exact Nat.le_refl _) | (with_reducible refine ext_le _ _ ?_) | (with_reducible refine le_alloc ?_ _) | (with_reducible refine le_set ?_ _ _) | (with_reducible refine le_drew ?_) | (with_reducible refine le_drewN ?_ _) | (simp; done) | (simp; omega) | omega))
  have K1 := Lib.hid J1; have K2 := Lib.hid J2; have K3 := Lib.hid J3; clear J1 J2 J3
  have HC1 := fun W => eqInt16A24_any f W
  have HC2 := fun W => eqInt16A24_any (fun i => f (24 + i)) W
  have hlo1 := fun W b o => ld_a24 f W b o
  have hlo2 := fun W b o => ld_a24 (fun i => f (24 + i)) W b o
  have HP : ∀ W b, ArrAt W b 0 48 f → ArrAt W b 24 24 (fun i => f (24 + i)) := fun W b h => by
    have := h.part (k := 24) (m := 24) (by omega)
    rwa [Nat.zero_add] at this
  generalize (fun i => f (24 + i)) = g at HC2 hlo2 HP
  have HP' := Lib.hid HP; clear HP
  go_enter Try.func68, Try.ntmps68
  go_upto_region 1 with fail
  generalize (w.alloc (.cells (arrA 48 f) 71)).alloc (.cells (arrA 48 f) 71) = W0 at K1 K2 K3 ⊢
  have a1 : ArrAt W0 w.heap.size 0 24 f := fun i hi => K1.out i (by omega)
  have a2 : ArrAt W0 (w.heap.size + 1) 0 24 f := fun i hi => K2.out i (by omega)
  go_upto_region 3 with (go_at_call 111
                         refine (HC1 _).mono ?_
                         rintro e w' ⟨rfl, x, rfl⟩
                         clear a1 a2
                         have b1 := HP'.out _ _ (K1.out.below (below_ext W0 x) (K1.out.lt (by omega)))
                         have b2 := HP'.out _ _ (K2.out.below (below_ext W0 x) (K2.out.lt (by omega)))
                         have K4 := Lib.hid (below_step K3.out (below_ext W0 x))
                         generalize ext W0 x = W1 at b1 b2 K4 ⊢)
  have BW := K4.out
  have ZW := K4.out.size
  go_wp2_with (go_at_call 111; refine (HC2 _).mono ?_; rintro e w' ⟨rfl, x2, rfl⟩)
  go_ret
  exact ⟨rfl, ex_of (by (repeat' (first | (with_reducible exact Below.refl _ _) | (with_reducible assumption) | (with_reducible refine below_ext' ?_ ?_) | (with_reducible refine Below.alloc ?_ ?_ _) | (with_reducible refine below_drewN ?_ _) | (with_reducible refine Below.drew ?_) | (with_reducible refine Below.setCell ?_ ?_ _) | (with_reducible exact Nat.le_refl _) | (with_reducible refine ext_le _ _ ?_) | (with_reducible refine le_alloc ?_ _) | (with_reducible refine le_set ?_ _ _) | (with_reducible refine le_drew ?_) | (with_reducible refine le_drewN ?_ _) | (simp; done) | (simp; omega) | omega)))⟩
set_option maxRecDepth 100000 in
set_option maxHeartbeats 4000000 in
theorem eqSunS_any (A A' : Option Addr) (n c d : Nat) (S : Nat → Nat → Int) (hn : n ≤ 1048576) (w : World) (hS : RdS w A n S) (hU : RdS w A' n S) :
    Calls Try.prog 32 #[.slice A n c, .slice A' n d] w fun e w' => e = .returned (.bool true) ∧ ∃ x, w' = ext w x := by
  have HS := Lib.hid hS; have HU := Lib.hid hU; clear hS hU
  go_enter Try.func32, Try.ntmps32
  go_wp2
  go_loopg [5] n (fun gg s5 wr => ∃ kk : Nat, kk ≤ n ∧ n - kk ≤ gg ∧ s5 = .int .i64 kk ∧ Aside (Below w.heap.size w wr))
  case atStart => exact ⟨0, Nat.zero_le _, by omega, rfl, Below.refl _ _⟩
  case round =>
    obtain ⟨kk, hkk, hg, rfl, BW⟩ := hrel
    by_cases hlt : kk < n
    · have hltz : (kk : Int) < (n : Int) := by omega
      obtain ⟨b1, o1, rfl, t0⟩ := (HS.out.below BW.out) kk hlt
      obtain ⟨b2, o2, rfl, u0⟩ := (HU.out.below BW.out) kk hlt
      have l1 := t0.lt (by omega)
      have l2 := u0.lt (by omega)
      have hcall := fun W => eqSun_any (S kk) W
      have hlo := fun W b o => ld_sun (S kk) W b o
      generalize S kk = f at t0 u0 hcall hlo
      go_wp2
      refine wp_region_ex (by kernel_rfl) (by kernel_rfl) ?_
      repeat (go_big_quiet_step ((go_at_call 68; exact Calls.ex_of (hcall _))))
      refine wpQuiet_nil ?_
      intro _ hw'
      obtain ⟨xq, hw''⟩ := hw'
      subst hw''
      go_wp2
      go_roundg (n - (kk + 1))
      case measure => omega
      case rel => exact ⟨kk + 1, by omega, by omega, by go_num, (show Aside _ from below_ext' BW.out BW.out.size)⟩
    · have hltz : ¬ (kk : Int) < (n : Int) := by omega
      have : kk = n := by omega
      subst this
      go_wp2
      go_ret
      exact ⟨rfl, ex_of BW.out⟩
set_option maxRecDepth 100000 in
set_option maxHeartbeats 8000000 in
theorem markSunS_any (g n c : Nat) (k0 : Int) (hn : n ≤ 1048576) (h0 : 0 ≤ k0) (h1 : k0 ≤ 1000000000) (w : World) (hO : RowOf w g n 48 71) :
    Calls Try.prog 41 #[.slice (some ⟨g, 0, none⟩) n c, .int .i64 k0] w fun e w' => e = .returned (.int .i64 (k0 + n * 48)) ∧ Apart (fun j => j = g) w w' ∧ RowOf w' g n 48 71 := by
  have HO := Lib.hid hO; clear hO
  go_enter Try.func41, Try.ntmps41
  go_wp2
  go_loopg [1, 5, 6, 7] n (fun gg s1 s5 _ _ wr => ∃ kk : Nat, kk ≤ n ∧ n - kk ≤ gg ∧ s1 = .int .i64 (k0 + kk * 48) ∧ s5 = .int .i64 kk ∧ Aside (Apart (fun j => j = g) w wr) ∧ Aside (RowOf wr g n 48 71))
  case atStart => exact ⟨0, Nat.zero_le _, by omega, by simp, rfl, apart_refl _ _, HO.out⟩
  case round =>
    obtain ⟨kk, hkk, hg, rfl, rfl, AP, OW⟩ := hrel
    by_cases hlt : kk < n
    · have hltz : (kk : Int) < (n : Int) := by omega
      go_wp2
      go_loopg [1, 6] 24 (fun gg s1 s6 wr => ∃ jj : Nat, jj ≤ 24 ∧ 24 - jj ≤ gg ∧ s1 = .int .i64 (k0 + kk * 48 + jj) ∧ s6 = .int .i64 jj ∧ Aside (Apart (fun j => j = g) w wr) ∧ Aside (RowOf wr g n 48 71))
      case atStart => exact ⟨0, by omega, by omega, by simp, rfl, AP.out, OW.out⟩
      case round =>
        clear AP OW
        obtain ⟨jj, hjj, hgj, rfl, rfl, AP, OW⟩ := hrel
        by_cases hlj : jj < 24
        · have hljz : (jj : Int) < 24 := by omega
          have RW := OW.out
          have f0 := RW.frozen (kk * 48 + jj)
          obtain ⟨y0, d0⟩ := Option.isSome_iff_exists.1 (RW.some (k := kk * 48 + jj) (by omega))
          have RW2 := Lib.hid RW; clear RW
          go_wp2
          go_roundg (24 - (jj + 1))
          case measure => omega
          case rel => exact ⟨jj + 1, by omega, by omega, by simp; omega, by go_num, (show Aside _ from AP.out.set rfl _), (show Aside _ from RW2.out.set _ _)⟩
        · have hljz : ¬ (jj : Int) < 24 := by omega
          have hj24 : (jj : Int) = 24 := by omega
          go_wp2
          go_loopg [1, 7] 24 (fun gg s1 s7 wr => ∃ jj : Nat, jj ≤ 24 ∧ 24 - jj ≤ gg ∧ s1 = .int .i64 (k0 + kk * 48 + 24 + jj) ∧ s7 = .int .i64 jj ∧ Aside (Apart (fun j => j = g) w wr) ∧ Aside (RowOf wr g n 48 71))
          case atStart => exact ⟨0, by omega, by omega, by simp, rfl, AP.out, OW.out⟩
          case round =>
            clear AP OW
            obtain ⟨ii, hii, hgi, rfl, rfl, AP, OW⟩ := hrel
            by_cases hli : ii < 24
            · have hliz : (ii : Int) < 24 := by omega
              have RW := OW.out
              have f0 := RW.frozen (kk * 48 + 24 + ii)
              obtain ⟨y0, d0⟩ := Option.isSome_iff_exists.1 (RW.some (k := kk * 48 + 24 + ii) (by omega))
              have RW2 := Lib.hid RW; clear RW
              go_wp2
              go_roundg (24 - (ii + 1))
              case measure => omega
              case rel => exact ⟨ii + 1, by omega, by omega, by simp; omega, by go_num, (show Aside _ from AP.out.set rfl _), (show Aside _ from RW2.out.set _ _)⟩
            · have hliz : ¬ (ii : Int) < 24 := by omega
              go_wp2
              go_roundg (n - (kk + 1))
              case measure => omega
              case rel => exact ⟨kk + 1, by omega, by omega, by simp; omega, by go_num, AP.out, OW.out⟩
    · have hltz : ¬ (kk : Int) < (n : Int) := by omega
      have : kk = n := by omega
      subst this
      go_wp2
      go_ret
      exact ⟨rfl, AP.out, OW.out⟩
end Go.Proofs.Ytbelopcfmjgfiaa
