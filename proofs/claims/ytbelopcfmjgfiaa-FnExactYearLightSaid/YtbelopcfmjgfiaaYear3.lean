/- Contracts: impl's year, left, greatest and their closures. No condition. -/
import Derived.Test.YtbelopcfmjgfiaaYear2
import Derived.Test.YtbelopcfmjgfiaaOwnR
import Derived.Deep.DeepCutAuto
import Derived.Deep.CutRange
namespace Go.Proofs.Ytbelopcfmjgfiaa
open Go Go.RowKit Go.BigFrame
attribute [local go_sem] binOp_flt binOp_fgt binOp_feq binOp_fne binOp_fle binOp_fge faRes_some run_fadd run_fsub run_fmul run_fdiv run_ofI run_store_float run_neg run_min1 ext_cell ext_frozen ext_lt ext_setCell ext_drew ext_drewN
attribute [local go_sem] arrAt_ext arrAt_alloc arrAt_drew arrAt_drewN arrAt_new arrAt_new1 arrAt_new2
attribute [local go_sem ↓] run_ld_sun run_st_sun run_ld_lsun run_st_lsun run_ld_a24 run_st_a24
/-- A blind, and the suns of a year. -/
structure Yr where
  sl : Int
  wd : Nat
  gp : Nat
  ti : Int
  sh : Nat
  S : Nat → Nat → Int
def Yr.day (Y : Yr) (fc : Int) (i : Nat) : Nat := dayF (Y.S i) Y.wd Y.gp Y.ti Y.sh fc
def Yr.year (Y : Yr) (n : Nat) (fc : Int) : Nat := sumF (Y.day fc) n
structure Yr.Fits (Y : Yr) (n : Nat) : Prop where
  s0 : -128 ≤ Y.sl
  s1 : Y.sl ≤ 127
  t0 : -32768 ≤ Y.ti
  t1 : Y.ti ≤ 32767
  w : Y.wd < 4294967296
  g : Y.gp < 4294967296
  I : I16s n Y.S
structure Yr.Ok (Y : Yr) (n : Nat) : Prop where
  vb : vBlind Y.sl Y.wd Y.gp Y.ti Y.sh = true
  b : BOk Y.wd Y.gp Y.ti Y.sh
  v : ∀ k, k < n → vSun (Y.S k) = true
  n1 : 1 ≤ n
  n2 : n ≤ 12
def Yr.code (Y : Yr) (n : Nat) (r : Bool) : Int := codeY (vBlind Y.sl Y.wd Y.gp Y.ti Y.sh) (badS Y.S n) n r
theorem Yr.ok_of {Y : Yr} {n : Nat} {r : Bool} (F : Y.Fits n) (h : Y.code n r = 0) : Y.Ok n ∧ r = true := by
  unfold Yr.code codeY at h
  split at h
  · cases h
  · rename_i hb
    split at h
    · rename_i hv
      split at h
      · rename_i hn
        split at h
        · rename_i hr
          have := inB_iff.1 hn
          exact ⟨⟨hv, bok_of hv F.w F.g, fun k hk => ok_of_badS (by simpa using hb) hk, by omega, by omega⟩, hr⟩
        · cases h
      · cases h
    · cases h
theorem Yr.day_facts {Y : Yr} {n : Nat} (h : Y.Ok n) (fc : Int) {i : Nat} (hi : i < n) : mg (Y.day fc i) ≤ W 25 ∧ NN (Y.day fc i) :=
  dayF_facts h.b.w h.b.g Y.ti h.b.s fc (fun _ hk => (sun_at (h.v i hi) hk).1.2)
theorem Yr.year_step {Y : Yr} {n : Nat} (h : Y.Ok n) (fc : Int) {i : Nat} (hi : i < n) : fadd (sumF (Y.day fc) i) (Y.day fc i) = some (sumF (Y.day fc) (i + 1)) :=
  sumF_step (a := 25) (n := n) (by have := h.n2; omega) (fun _ hk => (Yr.day_facts h fc hk).1) hi
theorem Yr.year_gt {Y : Yr} {n : Nat} (h : Y.Ok n) (fc : Int) : fgt (Y.year n fc) 3212836864 = true :=
  nn_gt (lt_Inf (k := 37) (by omega) (Nat.le_trans (sumF_bound (a := 25) (n := n) (by have := h.n2; omega) (fun _ hk => (Yr.day_facts h fc hk).1) n (Nat.le_refl _)) (by have := h.n2; unfold W; omega)))
    (sumF_nn (a := 25) (n := n) (by have := h.n2; omega) (fun _ hk => (Yr.day_facts h fc hk).1) (fun _ hk => (Yr.day_facts h fc hk).2) n (Nat.le_refl _))
def Yr.dayL (Y : Yr) (fc : Int) (k : Nat) : List Value := (List.range k).map fun i => .float .f32 (Y.day fc i)
theorem Yr.dayL_succ (Y : Yr) (fc : Int) (k : Nat) : Y.dayL fc (k + 1) = Y.dayL fc k ++ [.float .f32 (Y.day fc k)] := by
  unfold Yr.dayL; rw [List.range_succ, List.map_append]; rfl
theorem Yr.dayL_get (Y : Yr) (fc : Int) {n k : Nat} (h : k < n) : (Y.dayL fc n)[k]? = some (.float .f32 (Y.day fc k)) := by
  unfold Yr.dayL; simp [h]
theorem info_f32y : (Try.prog.info? 24).map (fun i => (i.zero, i.size, i.bytes)) = some (some (.float .f32 0), 1, 4) := by kernel_rfl
/-- What holds ahead of month kk. -/
structure YInv (Y : Yr) (fc : Int) (w : World) (kk : Nat) (A : Option Addr) (c : Nat) (wr : World) : Prop where
  old : Below w.heap.size w wr
  b : wr.heap[w.heap.size]? = some (.cells #[.int .i8 Y.sl, .float .f32 Y.wd, .float .f32 Y.gp, .int .i16 Y.ti, .float .f32 Y.sh] 49 (0, 0))
  own : wr.ownsRow (w.heap.size + 1) 24 1 (.slice A kk c) kk (Y.dayL fc kk)
theorem YInv.grow {Y : Yr} {fc : Int} {w : World} {kk : Nat} {A : Option Addr} {c : Nat} {wr W : World} (h : YInv Y fc w kk A c wr) (hb : Below wr.heap.size wr W) : YInv Y fc w kk A c W :=
  ⟨h.old.trans (hb.mono h.old.size), (hb.block _ (size_of_block h.b)).trans h.b, own_below h.own hb⟩
theorem YInv.app {Y : Yr} {fc : Int} {w : World} {kk : Nat} {A : Option Addr} {c : Nat} {wr : World} (h : YInv Y fc w kk A c wr) (ob : Obj) {w1 : World} {g cap : Nat}
    (hg : (wr.alloc ob).grownBy w1 (Value.slice A kk c).ownBlock) (ho : w1.ownsRow (w.heap.size + 1) 24 1 (.slice (some ⟨g, 0, none⟩) (kk + 1) cap) (kk + 1) (Y.dayL fc (kk + 1))) : YInv Y fc w (kk + 1) (some ⟨g, 0, none⟩) cap w1 := by
  have hb : Below wr.heap.size wr (wr.alloc ob) := (Below.refl _ _).alloc (Nat.le_refl _) _
  have hblk : ∀ j, j < w.heap.size + 1 → j < wr.heap.size → w1.heap[j]? = wr.heap[j]? := fun j hj hj2 => by
    refine (hg.block j (Nat.lt_of_lt_of_le hj2 hb.size) (fun e => ?_)).trans (hb.block j hj2)
    have := own_lt h.own (j := j) (by unfold owns; rw [← own_eq A kk c]; exact e.symm)
    omega
  have z := size_of_block h.b
  exact ⟨⟨hg.os.trans (hb.os.trans h.old.os), hg.tape.trans (hb.tape.trans h.old.tape), hg.output.trans (hb.output.trans h.old.output), Nat.le_trans h.old.size (Nat.le_trans hb.size hg.size), fun k hk => (hblk k (by omega) (by omega)).trans (h.old.block k hk)⟩,
    (hblk _ (by omega) z).trans h.b, ho⟩
def YearRow (Y : Yr) (fc : Int) (n : Nat) (w : World) (e : Ending) (w' : World) : Prop :=
  ∃ A c, e = .returned (.slice A n c) ∧ (∃ x, w' = ext w x) ∧ Own w' w.heap.size A n 24 (fun k => .float .f32 (Y.day fc k))
set_option maxRecDepth 100000 in
set_option maxHeartbeats 4000000 in
theorem year_any (Y : Yr) (fc : Int) (A : Option Addr) (n c : Nat) (F : Y.Fits n) (O : Y.Ok n) (hf0 : 0 ≤ fc) (hf1 : fc ≤ 255) (w : World) (hS : RdS w A n Y.S) :
    Calls Try.prog 73 #[.agg #[.int .i8 Y.sl, .float .f32 Y.wd, .float .f32 Y.gp, .int .i16 Y.ti, .float .f32 Y.sh], .slice A n c, .int .i64 fc] w (YearRow Y fc n w) := by
  have HS := Lib.hid hS
  have HD : ∀ k, k < n → ∀ W, Calls Try.prog 113 #[.agg #[.int .i8 Y.sl, .float .f32 Y.wd, .float .f32 Y.gp, .int .i16 Y.ti, .float .f32 Y.sh], .agg (arrA 48 (Y.S k)), .int .i64 fc] W fun e w' => e = .returned (.tuple #[.float .f32 (Y.day fc k), .int .i64 0]) ∧ ∃ x, w' = ext W x :=
    fun k hk W => PassDay_any Y.sl Y.wd Y.gp Y.ti Y.sh (Y.S k) fc F.s0 F.s1 F.t0 F.t1 (F.I k hk) O.vb O.b (O.v k hk) hf0 hf1 W
  have HD' := Lib.hid HD; clear HD hS F
  have hn := O.n2
  clear O
  obtain ⟨i0, hi, hz0, hz1, hz2⟩ := info_parts info_f32y
  have Hi := Lib.hid hi; have H0 := Lib.hid hz0; have H1 := Lib.hid hz1; have H2 := Lib.hid hz2; clear hi hz0 hz1 hz2
  have K0 : Hid (YInv Y fc w 0 (some ⟨w.heap.size + 1, 0, none⟩) 0 ((w.alloc (.cells #[.int .i8 Y.sl, .float .f32 Y.wd, .float .f32 Y.gp, .int .i16 Y.ti, .float .f32 Y.sh] 49)).alloc (.cells #[] 24))) := by
    refine ⟨by (repeat' (first | (with_reducible exact Below.refl _ _) | (with_reducible assumption) | (with_reducible refine below_ext' ?_ ?_) | (with_reducible refine Below.alloc ?_ ?_ _) | (with_reducible refine below_drewN ?_ _) | (with_reducible refine Below.drew ?_) | (with_reducible refine Below.setCell ?_ ?_ _) | (with_reducible exact Nat.le_refl _) | (with_reducible refine ext_le _ _ ?_) | (with_reducible refine le_alloc ?_ _) | (with_reducible refine le_set ?_ _ _) | (with_reducible refine le_drew ?_) | (with_reducible refine le_drewN ?_ _) | (simp; done) | (simp; omega) | omega)), (Below.heap_alloc _ _ _ (by simp)).trans (heap_alloc_new _ _), ?_⟩
    have := own_new (B := w.heap.size + 1) (w.alloc (.cells #[.int .i8 Y.sl, .float .f32 Y.wd, .float .f32 Y.gp, .int .i16 Y.ti, .float .f32 Y.sh] 49)) 24 (by simp)
    simpa [Yr.dayL] using this
  go_enter Try.func73, Try.ntmps73
  go_wp2
  go_loopg [7, 9, 10, 11, 15] n (fun gg s7 _ _ _ s15 wr => ∃ kk : Nat, kk ≤ n ∧ n - kk ≤ gg ∧ s15 = .int .i64 kk ∧ ∃ A' c', s7 = .slice A' kk c' ∧ Aside (YInv Y fc w kk A' c' wr))
  case atStart => exact ⟨0, Nat.zero_le _, by omega, rfl, _, _, rfl, K0.out⟩
  case round =>
    obtain ⟨kk, hkk, hg, rfl, A', c', rfl, I⟩ := hrel
    by_cases hlt : kk < n
    · have hltz : (kk : Int) < (n : Int) := by omega
      obtain ⟨b, o, rfl, hs⟩ := (HS.out.below I.out.old) kk hlt
      have hb := hs.lt (by omega)
      have hlo := fun W b o => ld_sun (Y.S kk) W b o
      have hst := fun W cs hcs => stn_sun (Y.S kk) W cs hcs
      have HP := HD'.out kk hlt
      have HLs := Lib.hid (Y.dayL_succ fc kk)
      generalize Y.S kk = f at hs hlo hst HP
      generalize Y.day fc kk = dv at HP HLs
      obtain ⟨b0, b1, b2, b3, b4⟩ := row5b I.out.b
      have z0 := size_of_block I.out.b
      obtain ⟨z0', _, _, _, _, _⟩ := lts z0
      go_upto_region 6 with (go_at_call 113; refine (HP _).mono ?_; rintro e w' ⟨rfl, x, rfl⟩)
      have I2a := I.out.grow (W := ext (wr.alloc (.cells (arrA 48 f) 71)) x) (by (repeat' (first | (with_reducible exact Below.refl _ _) | (with_reducible assumption) | (with_reducible refine below_ext' ?_ ?_) | (with_reducible refine Below.alloc ?_ ?_ _) | (with_reducible refine below_drewN ?_ _) | (with_reducible refine Below.drew ?_) | (with_reducible refine Below.setCell ?_ ?_ _) | (with_reducible exact Nat.le_refl _) | (with_reducible refine ext_le _ _ ?_) | (with_reducible refine le_alloc ?_ _) | (with_reducible refine le_set ?_ _ _) | (with_reducible refine le_drew ?_) | (with_reducible refine le_drewN ?_ _) | (simp; done) | (simp; omega) | omega)))
      have hsz : wr.heap.size ≤ (ext (wr.alloc (.cells (arrA 48 f) 71)) x).heap.size := by (repeat' (first | (with_reducible exact Below.refl _ _) | (with_reducible assumption) | (with_reducible refine below_ext' ?_ ?_) | (with_reducible refine Below.alloc ?_ ?_ _) | (with_reducible refine below_drewN ?_ _) | (with_reducible refine Below.drew ?_) | (with_reducible refine Below.setCell ?_ ?_ _) | (with_reducible exact Nat.le_refl _) | (with_reducible refine ext_le _ _ ?_) | (with_reducible refine le_alloc ?_ _) | (with_reducible refine le_set ?_ _ _) | (with_reducible refine le_drew ?_) | (with_reducible refine le_drewN ?_ _) | (simp; done) | (simp; omega) | omega))
      have I2 := Lib.hid I2a; clear I2a
      generalize ext (wr.alloc (.cells (arrA 48 f) 71)) x = wc at I2 hsz ⊢
      clear b0 b1 b2 b3 b4
      have HN : Hid (∀ j u, [Value.float .f32 dv][j]? = some u → (wc.alloc (.cells #[.float .f32 dv] 24)).cell? ((⟨wc.heap.size, 0, none⟩ : Addr).add j) = some u) :=
        World.news_of_block (heap_alloc_new wc (.cells #[.float .f32 dv] 24))
      go_wp2_with (at_builtin
                   refine wpList_append_lies _ rfl _ _ 22 rfl (w.heap.size + 1) 24 i0 (.float .f32 0) 1 4 Try.underlying22 Hi.out H0.out H1.out H2.out rfl (by decide) (.slice A' kk c') kk _ rfl (I2.out.own.alloc _) ⟨wc.heap.size, 0, none⟩ 1 1 [.float .f32 dv] rfl rfl HN.out (by simp [Value.oneCell']) (by decide) (by unfold maxLen; omega) (by omega) (by simp; omega) (wc.heap.size + 1) (by simp) ?_
                   intro g cap w1 hown1 hgrow hat hlt1
                   rw [← HLs.out] at hown1
                   have I3 := Lib.hid (I2.out.app _ hgrow hown1)
                   clear hown1 hgrow hat hlt1 HN)
      go_roundg (n - (kk + 1))
      case measure => omega
      case rel => exact ⟨kk + 1, by omega, by omega, by go_num, _, cap, rfl, I3.out⟩
    · have hltz : ¬ (kk : Int) < (n : Int) := by omega
      have : kk = n := by omega
      subst this
      obtain ⟨A2, c2, hv, hO⟩ := Own.of_row (f := fun k => .float .f32 (Y.day fc k)) I.out.own (fun k hk => Y.dayL_get fc hk)
      injection hv with hv1 hv2 hv3
      subst hv1
      clear hv2 hv3
      have HF : Hid (YearRow Y fc kk w (.returned (.slice A' kk c')) wr) := ⟨A', c', rfl, ex_of I.out.old, hO.lower (by omega)⟩
      clear hO
      go_wp2
      go_ret
      exact HF.out
set_option maxRecDepth 100000 in
set_option maxHeartbeats 2000000 in
theorem left_any (A : Option Addr) (n c : Nat) (g : Nat → Nat) (hn : n ≤ 9223372036854775807) (HS : ∀ k, k < n → fadd (sumF g k) (g k) = some (sumF g (k + 1))) (w : World) (hR : Rd w A n (fun k => .float .f32 (g k))) :
    Calls Try.prog 55 #[.slice A n c] w fun e w' => e = .returned (.float .f32 (sumF g n)) ∧ w = w' := by
  have HR := Lib.hid hR; have HS' := Lib.hid HS; clear hR HS
  go_enter Try.func55, Try.ntmps55
  go_wp2
  go_loop [3, 5, 8] (fun s3 _ s8 => ∃ kk : Nat, kk ≤ n ∧ s3 = .float .f32 (sumF g kk) ∧ s8 = .int .i64 kk) (fun _ _ s8 => n - (intOf s8).toNat)
  case atStart => exact ⟨0, Nat.zero_le _, rfl, rfl⟩
  case round =>
    obtain ⟨kk, hkk, rfl, rfl⟩ := hrel
    by_cases hlt : kk < n
    · have hltz : (kk : Int) < (n : Int) := by omega
      obtain ⟨b, o, rfl, hc⟩ := HR.out kk hlt
      simp only at hc
      have HS1 := HS'.out kk hlt
      generalize hs1 : sumF g (kk + 1) = s1 at HS1
      have Hs1 := Lib.hid hs1; clear hs1
      go_wp2
      go_round
      case rel => exact ⟨kk + 1, by omega, by rw [Hs1.out], by go_num⟩
      case measure => simp [intOf]; omega
    · have hltz : ¬ (kk : Int) < (n : Int) := by omega
      have : kk = n := by omega
      subst this
      go_wp2
      go_ret
      exact ⟨rfl, rfl⟩
set_option maxRecDepth 100000 in
set_option maxHeartbeats 4000000 in
theorem greatest_B (m : Nat) (hm : m + 1 ≤ 1000) (F : Nat → Nat) (p1 : Value) (w : World) (HC : ∀ k, k ≤ m → ∀ W, Below w.heap.size w W → Calls Try.prog 67 #[.int .i64 (k : Nat), p1] W fun e w' => e = .returned (.float .f32 (F k)) ∧ ∃ x, w' = ext W x) :
    Calls Try.prog 66 #[.int .i64 ((m : Int) + 1), .func (.func 67) #[] #[p1]] w fun e w' => e = .returned (.tuple #[.int .i64 (bestF F m).1, .float .f32 (bestF F m).2]) ∧ ∃ x, w' = ext w x := by
  have HC0 : Calls Try.prog 67 #[.int .i64 0, p1] w fun e w' => e = .returned (.float .f32 (F 0)) ∧ ∃ x, w' = ext w x := HC 0 (Nat.zero_le _) w (Below.refl _ _)
  have HC' := Lib.hid HC; clear HC
  go_enter Try.func66, Try.ntmps66
  go_wp2_with (go_at_call 67; refine (Calls.mono HC0) ?_; rintro e w' ⟨rfl, x, rfl⟩)
  have HB0 := Lib.hid (below_ext w x)
  generalize ext w x = W0 at HB0 ⊢
  go_loopg [6, 7, 8, 9] m (fun gg s6 s7 s8 _ wr => ∃ j : Nat, j ≤ m ∧ m - j ≤ gg ∧ s6 = .int .i64 (bestF F j).1 ∧ s7 = .float .f32 (bestF F j).2 ∧ s8 = .int .i64 ((j : Int) + 1) ∧ Aside (Below w.heap.size w wr))
  case atStart => exact ⟨0, Nat.zero_le _, by omega, rfl, rfl, rfl, HB0.out⟩
  case round =>
    obtain ⟨j, hj, hg, rfl, rfl, rfl, BW⟩ := hrel
    have hE : Hid (bestF F (j + 1) = if fgt (F (j + 1)) (bestF F j).2 = true then (j + 1, F (j + 1)) else bestF F j) := (rfl : bestF F (j + 1) = _)
    by_cases hlt : j < m
    · have hltz : (j : Int) + 1 < (m : Int) + 1 := by omega
      have HC1 : Calls Try.prog 67 #[.int .i64 ((j : Int) + 1), p1] wr fun e w' => e = .returned (.float .f32 (F (j + 1))) ∧ ∃ x, w' = ext wr x := HC'.out (j + 1) (by omega) wr BW.out
      generalize F (j + 1) = fj at HC1 hE
      cases hgt : fgt fj (bestF F j).2
      · go_wp2_with (go_at_call 67; refine (Calls.mono HC1) ?_; rintro e w' ⟨rfl, x, rfl⟩)
        go_roundg (m - (j + 1))
        case measure => omega
        case rel =>
          have h1 : bestF F (j + 1) = bestF F j := by rw [hE.out, hgt]; rfl
          exact ⟨j + 1, by omega, by omega, by rw [h1], by rw [h1], by go_num, (show Aside _ from below_ext' BW.out BW.out.size)⟩
      · go_wp2_with (go_at_call 67; refine (Calls.mono HC1) ?_; rintro e w' ⟨rfl, x, rfl⟩)
        go_roundg (m - (j + 1))
        case measure => omega
        case rel =>
          have h1 : bestF F (j + 1) = (j + 1, fj) := by rw [hE.out, hgt]; rfl
          exact ⟨j + 1, by omega, by omega, by rw [h1]; go_num, by rw [h1], by go_num, (show Aside _ from below_ext' BW.out BW.out.size)⟩
    · have hltz : ¬ (j : Int) + 1 < (m : Int) + 1 := by omega
      have : j = m := by omega
      subst this
      go_wp2
      go_ret2
      exact ⟨rfl, ex_of BW.out⟩
set_option maxRecDepth 100000 in
set_option maxHeartbeats 4000000 in
theorem greatest_F (m : Nat) (hm : m + 1 ≤ 1000) (F : Nat → Nat) (p1 p2 p3 : Value) (w : World) (HC : ∀ k, k ≤ m → ∀ W, Below w.heap.size w W → Calls Try.prog 72 #[.int .i64 (k : Nat), p1, p2, p3] W fun e w' => e = .returned (.float .f32 (F k)) ∧ ∃ x, w' = ext W x) :
    Calls Try.prog 66 #[.int .i64 ((m : Int) + 1), .func (.func 72) #[] #[p1, p2, p3]] w fun e w' => e = .returned (.tuple #[.int .i64 (bestF F m).1, .float .f32 (bestF F m).2]) ∧ ∃ x, w' = ext w x := by
  have HC0 : Calls Try.prog 72 #[.int .i64 0, p1, p2, p3] w fun e w' => e = .returned (.float .f32 (F 0)) ∧ ∃ x, w' = ext w x := HC 0 (Nat.zero_le _) w (Below.refl _ _)
  have HC' := Lib.hid HC; clear HC
  go_enter Try.func66, Try.ntmps66
  go_wp2_with (go_at_call 72; refine (Calls.mono HC0) ?_; rintro e w' ⟨rfl, x, rfl⟩)
  have HB0 := Lib.hid (below_ext w x)
  generalize ext w x = W0 at HB0 ⊢
  go_loopg [6, 7, 8, 9] m (fun gg s6 s7 s8 _ wr => ∃ j : Nat, j ≤ m ∧ m - j ≤ gg ∧ s6 = .int .i64 (bestF F j).1 ∧ s7 = .float .f32 (bestF F j).2 ∧ s8 = .int .i64 ((j : Int) + 1) ∧ Aside (Below w.heap.size w wr))
  case atStart => exact ⟨0, Nat.zero_le _, by omega, rfl, rfl, rfl, HB0.out⟩
  case round =>
    obtain ⟨j, hj, hg, rfl, rfl, rfl, BW⟩ := hrel
    have hE : Hid (bestF F (j + 1) = if fgt (F (j + 1)) (bestF F j).2 = true then (j + 1, F (j + 1)) else bestF F j) := (rfl : bestF F (j + 1) = _)
    by_cases hlt : j < m
    · have hltz : (j : Int) + 1 < (m : Int) + 1 := by omega
      have HC1 : Calls Try.prog 72 #[.int .i64 ((j : Int) + 1), p1, p2, p3] wr fun e w' => e = .returned (.float .f32 (F (j + 1))) ∧ ∃ x, w' = ext wr x := HC'.out (j + 1) (by omega) wr BW.out
      generalize F (j + 1) = fj at HC1 hE
      cases hgt : fgt fj (bestF F j).2
      · go_wp2_with (go_at_call 72; refine (Calls.mono HC1) ?_; rintro e w' ⟨rfl, x, rfl⟩)
        go_roundg (m - (j + 1))
        case measure => omega
        case rel =>
          have h1 : bestF F (j + 1) = bestF F j := by rw [hE.out, hgt]; rfl
          exact ⟨j + 1, by omega, by omega, by rw [h1], by rw [h1], by go_num, (show Aside _ from below_ext' BW.out BW.out.size)⟩
      · go_wp2_with (go_at_call 72; refine (Calls.mono HC1) ?_; rintro e w' ⟨rfl, x, rfl⟩)
        go_roundg (m - (j + 1))
        case measure => omega
        case rel =>
          have h1 : bestF F (j + 1) = (j + 1, fj) := by rw [hE.out, hgt]; rfl
          exact ⟨j + 1, by omega, by omega, by rw [h1]; go_num, by rw [h1], by go_num, (show Aside _ from below_ext' BW.out BW.out.size)⟩
    · have hltz : ¬ (j : Int) + 1 < (m : Int) + 1 := by omega
      have : j = m := by omega
      subst this
      go_wp2
      go_ret2
      exact ⟨rfl, ex_of BW.out⟩
end Go.Proofs.Ytbelopcfmjgfiaa
