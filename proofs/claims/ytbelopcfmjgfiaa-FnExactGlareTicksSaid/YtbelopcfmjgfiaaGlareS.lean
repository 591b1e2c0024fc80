/- Contract: spec's GlareTicks. No condition. -/
import Derived.Test.YtbelopcfmjgfiaaTickAllS
import Derived.Test.YtbelopcfmjgfiaaGlare
namespace Go.Proofs.Ytbelopcfmjgfiaa
open Go Go.RowKit Go.BigFrame
attribute [local go_sem] binOp_flt binOp_fgt binOp_feq binOp_fne binOp_fle binOp_fge faRes_some run_fadd run_fsub run_fmul run_fdiv run_ofI run_store_float run_neg run_min1 ext_cell ext_frozen ext_lt ext_setCell ext_drew ext_drewN
set_option maxRecDepth 100000 in
set_option maxHeartbeats 8000000 in
theorem GlareTicksS_any (R : Rn) (sl ti : Int) (A : Option Addr) (n c bd : Nat) (hS : Small n R.T) (hn : n ≤ 9223372036854775807) (hw : R.wd < 4294967296) (hg : R.gp < 4294967296) (F : Fits R.st R.de R.ca sl ti R.s0) (w : World) (hT : RdT w A n R.T) :
    Calls Try.prog 47 #[.agg #[.float .f32 R.lo, .float .f32 R.hi, .float .f32 R.wi, .int .i8 R.st, .int .i8 R.de, .int .i8 R.ca], .agg #[.int .i8 sl, .float .f32 R.wd, .float .f32 R.gp, .int .i16 ti, .float .f32 R.sh], R.s0.v, .slice A n c, .float .f32 bd] w (GlareAns R sl ti n bd w) := by
  have I0 := Lib.hid (s_start (R := R) (sl := sl) (ti := ti) (w := w))
  have HA : Calls Try.prog 56 #[.pointer (some ⟨w.heap.size, 0, none⟩), .pointer (some ⟨w.heap.size + 1, 0, none⟩), .pointer (some ⟨w.heap.size + 1 + 1, 0, none⟩), .slice A n c] (sW R sl ti w) fun e w' => e = .returned (.int .i64 (R.ask sl ti n)) ∧ ∃ x, w' = ext (sW R sl ti w) x :=
    l05Asked_any _ _ _ _ _ _ A n c R.T hS hn R.lo R.hi R.wi R.st R.de R.ca sl R.wd R.gp ti R.sh R.s0 F _ I0.out.control
      ⟨cell_of_row _ _ _ _ _ _ I0.out.b, cell_of_row _ _ _ _ _ _ I0.out.b, cell_of_row _ _ _ _ _ _ I0.out.b, cell_of_row _ _ _ _ _ _ I0.out.b, cell_of_row _ _ _ _ _ _ I0.out.b⟩
      ⟨cell_of_row _ _ _ _ _ _ I0.out.s, cell_of_row _ _ _ _ _ _ I0.out.s, cell_of_row _ _ _ _ _ _ I0.out.s⟩ (hT.below I0.out.old)
  have HT := Lib.hid hT
  have HP := fun W => l01Part_any bd W
  by_cases h : R.ask sl ti n = 0
  · have hok := Lib.hid (Rn.ok_of h hw hg)
    have hn2 := R.ask_le h
    cases hp : partB bd with
    | true =>
      have EA : Hid (R.gOut sl ti n bd = R.glareL bd n ∧ R.gAsk sl ti n bd = 0) := by
        have e : R.gAsk sl ti n bd = 0 := by unfold Rn.gAsk; rw [if_pos h, if_pos hp]
        exact ⟨by unfold Rn.gOut; rw [if_pos e], e⟩
      rw [h] at HA
      rw [hp] at HP
      clear h hS hw hg F hT hp
      unfold St.v
      obtain ⟨i0, hi, hz0, hz1, hz2⟩ := info_parts info_i64
      have Hi := Lib.hid hi; have H0 := Lib.hid hz0; have H1 := Lib.hid hz1; have H2 := Lib.hid hz2; clear hi hz0 hz1 hz2
      go_enter Try.func47, Try.ntmps47
      go_upto_region 6 with (first
        | (go_at_call 56; refine (Calls.mono HA) ?_; rintro e w' ⟨rfl, x, rfl⟩)
        | (go_at_call 75; refine (HP _).mono ?_; rintro e w' ⟨rfl, rfl⟩))
      have I1 := I0.out.grow (below_ext _ x)
      generalize ext (sW R sl ti w) x = W0 at I1 ⊢
      clear I0 HA
      have z2 := lt_of_block I1.s
      have K0 : Hid (SAcc R sl ti w (w.heap.size + 1 + 1 + 1) (R.st' 0) 2 (R.glareL bd 0).length ((R.glareL bd 0).map (Value.int .i64)) (some ⟨W0.heap.size, 0, none⟩) 0 (W0.alloc (.cells #[] 2))) :=
        ⟨by omega, I1.grow ((Below.refl _ _).alloc (Nat.le_refl _) _), fun h => absurd h (Nat.lt_irrefl _), own_new W0 _ (by omega)⟩
      clear I1
      go_wp2
      go_loopg [13, 14, 15, 16] n (fun gg s13 s14 _ _ wr => ∃ kk : Nat, kk ≤ n ∧ n - kk ≤ gg ∧ s14 = .int .i64 kk ∧ ∃ A' c', s13 = .slice A' (R.glareL bd kk).length c' ∧ Aside (SAcc R sl ti w (w.heap.size + 1 + 1 + 1) (R.st' kk) 2 (R.glareL bd kk).length ((R.glareL bd kk).map (Value.int .i64)) A' c' wr))
      case atStart => exact ⟨0, Nat.zero_le _, by omega, rfl, _, _, rfl, K0.out⟩
      case round =>
        obtain ⟨kk, hkk, hg, rfl, A', c', rfl, I⟩ := hrel
        have hgl := R.glareL_le bd kk
        by_cases hlt : kk < n
        · have hltz : (kk : Int) < (n : Int) := by omega
          obtain ⟨bt, ot, rfl, hTk⟩ := (HT.out.below I.out.s.old) kk hlt
          have HTk := Lib.hid hTk
          have hbt1 : bt < wr.heap.size := hTk.lt
          obtain ⟨t0, t1, t2⟩ := hTk
          have z0 := lt_of_block I.out.s.c
          have z1 := lt_of_block I.out.s.b
          have z2 := lt_of_block I.out.s.s
          obtain ⟨p1, _, p2, p3⟩ := vTk_parts (hok.out.tk kk hlt)
          have HO := fun W (hW : Below wr.heap.size wr W) => once_any (b := w.heap.size) (o := 0) (tb := bt) (t_ := ot + kk * 3) sl ti hok.out.run (Rn.ok_at hok.out kk) (gu := (R.T kk).gu) p1 p2 p3 W (I.out.s.control.below hW) (HTk.out.below hW hbt1)
          have et : (tickF R.lo R.hi R.wi R.st R.de R.ca R.wd R.gp R.sh (R.st' kk) (R.T kk).li (R.T kk).gu (R.T kk).he) = R.st' (kk + 1) := rfl
          have el : (lightF R.wi R.ca R.wd R.gp R.sh (R.st' kk) (R.T kk).li (R.T kk).gu (R.T kk).he) = R.light kk := rfl
          rw [et, el] at HO
          clear et el
          unfold St.v at HO
          generalize hs2 : R.st' (kk + 1) = s2 at HO
          have Hs2 := Lib.hid hs2; clear hs2
          generalize hm : R.glareL bd kk = L at I hgl ⊢
          have hL1 : Hid (R.glareL bd (kk + 1) = if fgt (R.light kk) bd = true then L ++ [(kk : Int)] else L) := by show _ = _; rw [← hm]; rfl
          clear hm
          generalize R.light kk = lk at HO hL1
          go_upto_region 10 with fail
          go_cut [15, 16] from 37 to 46 (fun s15 s16 wx => ∃ q : Nat, s15 = .pointer (some ⟨q, 0, none⟩) ∧ s16 = .float .f32 lk ∧ Aside (Below wr.heap.size wr wx ∧ wr.heap.size ≤ q ∧ wx.heap[q]? = some (.cells #[.int .i16 s2.ti, .int .i8 s2.wa, .int .i8 s2.sm] 51 (0, 0))))
          case first =>
            generalize hv : R.st' kk = v at HO I
            have HV := Lib.hid hv; clear hv
            go_region_held3 (fun w' : World => w'.cell? ⟨w.heap.size + 1, 0, none⟩ = some (.int .i8 sl) ∧ w'.cell? ⟨w.heap.size + 1, 1, none⟩ = some (.float .f32 R.wd) ∧ w'.cell? ⟨w.heap.size + 1, 2, none⟩ = some (.float .f32 R.gp) ∧ w'.cell? ⟨w.heap.size + 1, 3, none⟩ = some (.int .i16 ti) ∧ w'.cell? ⟨w.heap.size + 1, 4, none⟩ = some (.float .f32 R.sh) ∧ w'.cell? ⟨w.heap.size + 1 + 1, 0, none⟩ = some (.int .i16 v.ti) ∧ w'.cell? ⟨w.heap.size + 1 + 1, 1, none⟩ = some (.int .i8 v.wa) ∧ w'.cell? ⟨w.heap.size + 1 + 1, 2, none⟩ = some (.int .i8 v.sm)) (exact (SAcc.grow I.out (by (repeat' (first | (with_reducible exact Below.refl _ _) | (with_reducible assumption) | (with_reducible refine below_ext' ?_ ?_) | (with_reducible refine Below.alloc ?_ ?_ _) | (with_reducible refine below_drewN ?_ _) | (with_reducible refine Below.drew ?_) | (with_reducible refine Below.setCell ?_ ?_ _) | (with_reducible exact Nat.le_refl _) | (with_reducible refine ext_le _ _ ?_) | (with_reducible refine le_alloc ?_ _) | (with_reducible refine le_set ?_ _ _) | (with_reducible refine le_drew ?_) | (with_reducible refine le_drewN ?_ _) | (simp; done) | (simp; omega) | omega)))).s.cells) (first | (go_at_call 57; refine (HO _ (by (repeat' (first | (with_reducible exact Below.refl _ _) | (with_reducible assumption) | (with_reducible refine below_ext' ?_ ?_) | (with_reducible refine Below.alloc ?_ ?_ _) | (with_reducible refine below_drewN ?_ _) | (with_reducible refine Below.drew ?_) | (with_reducible refine Below.setCell ?_ ?_ _) | (with_reducible exact Nat.le_refl _) | (with_reducible refine ext_le _ _ ?_) | (with_reducible refine le_alloc ?_ _) | (with_reducible refine le_set ?_ _ _) | (with_reducible refine le_drew ?_) | (with_reducible refine le_drewN ?_ _) | (simp; done) | (simp; omega) | omega)))).mono ?_; rintro e w' ⟨rfl, x, rfl⟩))
            all_goals (go_wp2_with fail; go_meet; refine ⟨_, rfl, rfl, (show Aside _ from ⟨by (repeat' (first | (with_reducible exact Below.refl _ _) | (with_reducible assumption) | (with_reducible refine below_ext' ?_ ?_) | (with_reducible refine Below.alloc ?_ ?_ _) | (with_reducible refine below_drewN ?_ _) | (with_reducible refine Below.drew ?_) | (with_reducible refine Below.setCell ?_ ?_ _) | (with_reducible exact Nat.le_refl _) | (with_reducible refine ext_le _ _ ?_) | (with_reducible refine le_alloc ?_ _) | (with_reducible refine le_set ?_ _ _) | (with_reducible refine le_drew ?_) | (with_reducible refine le_drewN ?_ _) | (simp; done) | (simp; omega) | omega)), by (repeat' (first | (with_reducible exact Below.refl _ _) | (with_reducible assumption) | (with_reducible refine below_ext' ?_ ?_) | (with_reducible refine Below.alloc ?_ ?_ _) | (with_reducible refine below_drewN ?_ _) | (with_reducible refine Below.drew ?_) | (with_reducible refine Below.setCell ?_ ?_ _) | (with_reducible exact Nat.le_refl _) | (with_reducible refine ext_le _ _ ?_) | (with_reducible refine le_alloc ?_ _) | (with_reducible refine le_set ?_ _ _) | (with_reducible refine le_drew ?_) | (with_reducible refine le_drewN ?_ _) | (simp; done) | (simp; omega) | omega)), ?_⟩)⟩)
            all_goals first | exact heap_alloc_new _ _ | (rw [ext_block _ _ (by simp)]; exact heap_alloc_new _ _)
          case rest =>
            obtain ⟨q, rfl, rfl, hBq⟩ := hcut
            have I2 := Lib.hid (I.out.grow hBq.out.1)
            obtain ⟨q0, q1, q2, _, _, _⟩ := row3 hBq.out.2.2
            have zq := lt_of_block hBq.out.2.2
            have HQ := Lib.hid hBq.out.2.2
            have hqge := hBq.out.2.1
            have hown0 : Hid (∀ j, owns A' j → j < wr.heap.size) := fun j hj => (own_lt I.out.own hj).2
            clear t0 t1 t2 HO hBq
            cases hgt : fgt lk bd with
            | false =>
              obtain ⟨r0, r1, r2, v0, v1, v2⟩ := row3 I2.out.s.s
              have I3 := Lib.hid (I2.out.store s2)
              rw [hgt] at hL1
              clear I2 HQ
              go_wp2
              go_roundg (n - (kk + 1))
              case measure => omega
              case rel =>
                have e1 : R.glareL bd (kk + 1) = L := hL1.out
                refine ⟨kk + 1, by omega, by omega, by go_num, A', c', ?_⟩
                rw [e1, Hs2.out]; exact ⟨rfl, I3.out⟩
            | true =>
              rw [hgt] at hL1
              have hle2 : w.heap.size + 1 + 1 + 1 ≤ wc.heap.size := lt_of_block I2.out.s.s
              have HN : Hid (∀ j u, [Value.int .i64 (kk : Int)][j]? = some u → (wc.alloc (.cells #[.int .i64 (kk : Int)] 2)).cell? ((⟨wc.heap.size, 0, none⟩ : Addr).add j) = some u) :=
                World.news_of_block (heap_alloc_new wc (.cells #[.int .i64 (kk : Int)] 2))
              go_wp2_with (at_builtin
                           refine wpList_append_lies _ rfl _ _ 23 rfl (w.heap.size + 1 + 1 + 1) 2 i0 (.int .i64 0) 1 8 Try.underlying23 Hi.out H0.out H1.out H2.out rfl (by decide) (.slice A' L.length c') L.length _ rfl (I2.out.own.alloc _) ⟨wc.heap.size, 0, none⟩ 1 1 [.int .i64 (kk : Int)] rfl rfl HN.out (by simp [Value.oneCell']) (by decide) (by unfold maxLen; omega) (by omega) (by simp; omega) (wc.heap.size + 1) (by simp) ?_
                           intro g cap w1 hown1 hgrow hat hlt1
                           have I3 := I2.out.app _ hgrow hown1
                           have hq1 : w1.heap[q]? = some (.cells #[.int .i16 s2.ti, .int .i8 s2.wa, .int .i8 s2.sm] 51 (0, 0)) :=
                             (hgrow.block q (by simp; omega) (fun e => by
                               have := hown0.out q (by unfold owns; rw [← own_eq A' L.length c']; exact e.symm)
                               omega)).trans ((Below.heap_alloc _ _ _ zq).trans HQ.out)
                           obtain ⟨q0', q1', q2', _, _, _⟩ := row3 hq1
                           obtain ⟨r0, r1, r2, v0, v1, v2⟩ := row3 I3.s.s
                           have I4 := Lib.hid (I3.store s2)
                           clear hown1 hgrow hat hlt1 HN I3 hq1)
              go_roundg (n - (kk + 1))
              case measure => omega
              case rel =>
                have e1 : R.glareL bd (kk + 1) = L ++ [(kk : Int)] := hL1.out
                refine ⟨kk + 1, by omega, by omega, by go_num, some ⟨g, 0, none⟩, cap, ?_⟩
                rw [e1, Hs2.out, List.map_append, List.length_append]; exact ⟨rfl, I4.out⟩
        · have hltz : ¬ (kk : Int) < (n : Int) := by omega
          have : kk = n := by omega
          subst this
          have E2 := EA.out.1; have E3 := EA.out.2
          obtain ⟨A2, c2, hv, hO⟩ := Own.of_row (f := fI (R.glareL bd kk)) I.out.own (fun k hk => by rw [nthI_map hk]; rfl)
          injection hv with hv1 hv2 hv3
          subst hv1
          clear hv2 hv3
          have HF : Hid (GlareAns R sl ti kk bd w (.returned (.tuple #[.slice A' (R.glareL bd kk).length c', .int .i64 0])) wr) := by
            refine ⟨A', c', ?_, ex_of I.out.s.old, ?_⟩
            · rw [E2, E3]
            · rw [E2]; exact hO.lower (by omega)
          clear E2 E3 hO
          go_wp2
          refine bodyPost_ret (v := .tuple #[.slice A' (R.glareL bd kk).length c', .int .i64 0]) ?_ rfl HF.out
          simp [results, Try.results47, go_sem]
    | false =>
      have e : R.gAsk sl ti n bd = 2 := by unfold Rn.gAsk; rw [if_pos h, hp]; rfl
      have EA : Hid (R.gOut sl ti n bd = [] ∧ R.gAsk sl ti n bd = 2) := ⟨by unfold Rn.gOut; rw [e]; rfl, e⟩
      have HF : ∀ W9 A9, Below w.heap.size w W9 → GlareAns R sl ti n bd w (.returned (.tuple #[.slice A9 0 0, .int .i64 2])) W9 := fun W9 A9 hW => by
        refine ⟨A9, 0, ?_, ex_of hW, ?_⟩
        · rw [EA.out.1, EA.out.2]; rfl
        · rw [EA.out.1]; exact .inl rfl
      rw [h] at HA
      rw [hp] at HP
      clear hS hw hg F hT h hp e
      have HF2 := Lib.hid HF; clear HF EA
      unfold St.v
      go_enter Try.func47, Try.ntmps47
      go_upto_region 5 with (first
        | (go_at_call 56; refine (Calls.mono HA) ?_; rintro e w' ⟨rfl, x, rfl⟩)
        | (go_at_call 75; refine (HP _).mono ?_; rintro e w' ⟨rfl, rfl⟩))
      have I1 := I0.out.grow (below_ext _ x)
      generalize ext (sW R sl ti w) x = W0 at I1 ⊢
      clear I0 HA
      have BW := I1.old
      have ZW := I1.old.size
      clear I1
      go_wp2
      refine bodyPost_ret (v := .tuple #[.slice (some ⟨W0.heap.size, 0, none⟩) 0 0, .int .i64 2]) ?_ rfl (HF2.out _ _ (by (repeat' (first | (with_reducible exact Below.refl _ _) | (with_reducible assumption) | (with_reducible refine below_ext' ?_ ?_) | (with_reducible refine Below.alloc ?_ ?_ _) | (with_reducible refine below_drewN ?_ _) | (with_reducible refine Below.drew ?_) | (with_reducible refine Below.setCell ?_ ?_ _) | (with_reducible exact Nat.le_refl _) | (with_reducible refine ext_le _ _ ?_) | (with_reducible refine le_alloc ?_ _) | (with_reducible refine le_set ?_ _ _) | (with_reducible refine le_drew ?_) | (with_reducible refine le_drewN ?_ _) | (simp; done) | (simp; omega) | omega))))
      simp [results, Try.results47, go_sem]
  · have e : R.gAsk sl ti n bd = R.ask sl ti n := by unfold Rn.gAsk; rw [if_neg h]
    have EA : Hid (R.gOut sl ti n bd = [] ∧ R.gAsk sl ti n bd = R.ask sl ti n) := ⟨by unfold Rn.gOut; rw [e, if_neg h], e⟩
    have hb : (R.ask sl ti n == 0) = false := by simpa using h
    have hb' : (R.ask sl ti n != 0) = true := by simpa using h
    have HF : ∀ W9 A9, Below w.heap.size w W9 → GlareAns R sl ti n bd w (.returned (.tuple #[.slice A9 0 0, .int .i64 (R.ask sl ti n)])) W9 := fun W9 A9 hW => by
      refine ⟨A9, 0, ?_, ex_of hW, ?_⟩
      · rw [EA.out.1, EA.out.2]; rfl
      · rw [EA.out.1]; exact .inl rfl
    clear hS hw hg F hT h e
    have HF2 := Lib.hid HF; clear HF EA
    generalize R.ask sl ti n = cd at HA hb hb' HF2
    unfold St.v
    go_enter Try.func47, Try.ntmps47
    go_upto_region 5 with (go_at_call 56; refine (Calls.mono HA) ?_; rintro e w' ⟨rfl, x, rfl⟩)
    have I1 := I0.out.grow (below_ext _ x)
    generalize ext (sW R sl ti w) x = W0 at I1 ⊢
    clear I0 HA
    have BW := I1.old
    have ZW := I1.old.size
    clear I1
    go_wp2
    refine bodyPost_ret (v := .tuple #[.slice (some ⟨W0.heap.size, 0, none⟩) 0 0, .int .i64 cd]) ?_ rfl (HF2.out _ _ (by (repeat' (first | (with_reducible exact Below.refl _ _) | (with_reducible assumption) | (with_reducible refine below_ext' ?_ ?_) | (with_reducible refine Below.alloc ?_ ?_ _) | (with_reducible refine below_drewN ?_ _) | (with_reducible refine Below.drew ?_) | (with_reducible refine Below.setCell ?_ ?_ _) | (with_reducible exact Nat.le_refl _) | (with_reducible refine ext_le _ _ ?_) | (with_reducible refine le_alloc ?_ _) | (with_reducible refine le_set ?_ _ _) | (with_reducible refine le_drew ?_) | (with_reducible refine le_drewN ?_ _) | (simp; done) | (simp; omega) | omega))))
    simp [results, Try.results47, go_sem]
end Go.Proofs.Ytbelopcfmjgfiaa
