/- The law CellsKeep: its walk. -/
import Derived.Test.YtnhkadknibinfaaPL5
import Derived.Deep.DeepCutAuto
import Derived.Lib.MinMax
namespace Go.Proofs.Ytnhkadknibinfaa
open Go.RowKit
set_option linter.unusedVariables false


def chArr (c : Ch) : Array Value := #[.int .i64 c.1, .int .i64 c.2.1, .int .i64 c.2.2.1, .int .i64 c.2.2.2]
theorem box_set4 {W : World} {g : Nat} {c : Ch} (d : Ch) (h : W.heap[g]? = some (.cells (chArr c) 39 (0, 0))) :
    ((((W.setCell ⟨g, 0, none⟩ (.int .i64 d.1)).setCell ⟨g, 1, none⟩ (.int .i64 d.2.1)).setCell ⟨g, 2, none⟩ (.int .i64 d.2.2.1)).setCell ⟨g, 3, none⟩ (.int .i64 d.2.2.2)).heap[g]? = some (.cells (chArr d) 39 (0, 0)) := by
  have h1 := cells_set (o := 0) h (.int .i64 d.1)
  have h2 := cells_set (o := 1) h1 (.int .i64 d.2.1)
  have h3 := cells_set (o := 2) h2 (.int .i64 d.2.2.1)
  exact cells_set (o := 3) h3 (.int .i64 d.2.2.2)
theorem set4_grown (W : World) (g : Nat) (a b c d : Value) : W.grownBy ((((W.setCell ⟨g, 0, none⟩ a).setCell ⟨g, 1, none⟩ b).setCell ⟨g, 2, none⟩ c).setCell ⟨g, 3, none⟩ d) (some g) :=
  grown_trans (grown_trans (grown_trans (grown_cell _ _ _ _) (grown_cell _ _ _ _)) (grown_cell _ _ _ _)) (grown_cell _ _ _ _)
theorem k_below {G : Nat} {w0 W : World} (h : Below w0.heap.size w0 W) (hG : w0.heap.size ≤ G) {a b c d : Value} : Below w0.heap.size w0 ((((W.setCell ⟨G, 0, none⟩ a).setCell ⟨G, 1, none⟩ b).setCell ⟨G, 2, none⟩ c).setCell ⟨G, 3, none⟩ d) :=
  (((h.setCell hG _).setCell hG _).setCell hG _).setCell hG _
theorem zero39 : ∀ W : World, (Instr.build 39 #[]).run Try.prog W = .ok (.agg #[.int .i64 0, .int .i64 0, .int .i64 0, .int .i64 0]) W := fun W => by kernel_rfl

set_option maxRecDepth 100000 in
set_option maxHeartbeats 4000000 in
theorem keep_law {w : World} {lv mv kv : Value} {ls ms ks : List Sm} (hl : SrcS w lv ls) (hm2 : SrcS w mv ms) (hk2 : SrcS w kv ks) :
    Calls Try.prog 4 #[lv, mv, kv] w fun e w' => e = .returned (.bool true) ∧ Below w.heap.size w w' := by
  have FM := Hd.mk hm2
  have FK := Hd.mk hk2
  clear hm2 hk2
  have FL := Hd.mk hl
  clear hl
  go_enter Try.func4, Try.ntmps4
  go_wp2_with fail
  refine (awake_any _).mono ?_
  rintro e w1 ⟨rfl, hB0⟩
  have HB0 := Hd.mk hB0
  clear hB0
  go_wp2_with fail
  refine (made_any _).mono ?_
  rintro e w2 ⟨M, p0, rfl, hm, hp, hB1⟩
  have HM0 := Hd.mk hm
  have FB0 := Hd.mk (Held.below (HB0.out.trans (hB1.mono HB0.out.size)) (fun k hk => hp k (Nat.lt_of_lt_of_le hk HB0.out.size)))
  have FL0 := Hd.mk (FB0.out.imp fun W hW => SrcS.below FL.out hW)
  clear hm hp hB1 HB0 FL
  go_wp2_with fail
  refine (do_any HM0.out rfl FL0.out false 0).mono ?_
  rintro e w1 ⟨rfl, hm, hs⟩
  have FB_2 := Hd.mk (FB0.out.step hs)
  have Fl_2 := Hd.mk (FL0.out.step hs)
  have HM2 := Hd.mk hm
  clear FB0 FL0 HM0
  clear hs hm
  clear Fl_2
  have HSH := Hd.mk (doV_sh (marks := false) (floor := 0) _ ls (show ShOk S9 ⟨[[0, 0], [0, 0, 0], [], [0, 0, 0, 0]], []⟩ from ⟨⟨by decide, by decide, by simp, by decide⟩, rfl⟩))
  have HKS := Hd.mk (kst_doV (K := []) _ ls (show Kst [] ⟨[[0, 0], [0, 0, 0], [], [0, 0, 0, 0]], []⟩ from ⟨⟨⟨by decide, by decide, by simp, by decide⟩, rfl⟩, rfl⟩))
  generalize doV false 0 ⟨[[0, 0], [0, 0, 0], [], [0, 0, 0, 0]], []⟩ ls = st at *
  have FM0 := Hd.mk (FB_2.out.imp fun W hW => SrcS.below FM.out hW)
  have FK0 := Hd.mk (FB_2.out.imp fun W hW => SrcS.below FK.out hW)
  clear FM FK
  go_wp2_with fail
  obtain ⟨L0, hL0⟩ : ∃ L, st.now.flatten = L := ⟨_, rfl⟩
  have HL9 : Hd (L0.length = 9) := ⟨by rw [← hL0]; exact flat9 HSH.out⟩
  have HL0 := Hd.mk hL0
  clear hL0
  refine (y_all HM2.out HL0.out HL9.out).mono ?_
  rintro e w3 ⟨g3, c3, p3, rfl, hm, hf, hs⟩
  have FNb03 := Hd.mk hf
  clear hf
  have FB_4 := Hd.mk (FB_2.out.step hs)
  have Fm_4 := Hd.mk (FM0.out.step hs)
  have Fk_4 := Hd.mk (FK0.out.step hs)
  have HM4 := Hd.mk hm
  clear FB_2 FM0 FK0 HM2
  clear hs hm
  go_wp2_with fail
  obtain ⟨hk1, hE, hNow⟩ := kst_mark HKS.out (by simp)
  obtain ⟨st1, hst1⟩ : ∃ s, markS st = s := ⟨_, rfl⟩
  rw [hst1] at hk1 hNow
  have HC := y_mark HM4.out rfl hE hst1
  generalize markN st = nvst1 at HC
  have HK1 := Hd.mk (show Kst _ st1 ∧ st1.now = st.now from ⟨hk1, hNow⟩)
  clear hk1 hE hNow hst1
  refine (HC).mono ?_
  rintro e w5 ⟨rfl, hm, hs⟩
  have FB_6 := Hd.mk (FB_4.out.step hs)
  have Fm_6 := Hd.mk (Fm_4.out.step hs)
  have Fk_6 := Hd.mk (Fk_4.out.step hs)
  have Fb0_6 := Hd.mk (FNb03.out.step hs)
  have HM6 := Hd.mk hm
  clear FB_4 Fm_4 Fk_4 FNb03 HM4
  clear hs hm
  clear HC
  go_wp2_with fail
  refine (do_any HM6.out HK1.out.1.1.2 Fm_6.out false 0).mono ?_
  rintro e w7 ⟨rfl, hm, hs⟩
  have FB_8 := Hd.mk (FB_6.out.step hs)
  have Fm_8 := Hd.mk (Fm_6.out.step hs)
  have Fk_8 := Hd.mk (Fk_6.out.step hs)
  have Fb0_8 := Hd.mk (Fb0_6.out.step hs)
  have HM8 := Hd.mk hm
  clear FB_6 Fm_6 Fk_6 Fb0_6 HM6
  clear hs hm
  have HK2 := Hd.mk (kst_doV (K := [st.now]) st1 ms HK1.out.1)
  generalize doV false 0 st1 ms = st2 at *
  clear Fm_8
  go_wp2_with fail
  obtain ⟨L2, hL2⟩ : ∃ L, st2.now.flatten = L := ⟨_, rfl⟩
  have HL29 : Hd (L2.length = 9) := ⟨by rw [← hL2]; exact flat9 HK2.out.1⟩
  have HL2 := Hd.mk hL2
  clear hL2
  refine (y_all HM8.out HL2.out HL29.out).mono ?_
  rintro e w9 ⟨g9, c9, p9, rfl, hm, hf, hs⟩
  have FNb29 := Hd.mk hf
  clear hf
  have FB_10 := Hd.mk (FB_8.out.step hs)
  have Fk_10 := Hd.mk (Fk_8.out.step hs)
  have Fb0_10 := Hd.mk (Fb0_8.out.step hs)
  have HM10 := Hd.mk hm
  clear FB_8 Fk_8 Fb0_8 HM8
  clear hs hm
  go_wp2_with fail
  obtain ⟨hk1, hE, hNow⟩ := kst_mark HK2.out (by simp)
  obtain ⟨st3, hst1⟩ : ∃ s, markS st2 = s := ⟨_, rfl⟩
  rw [hst1] at hk1 hNow
  have HC := y_mark HM10.out rfl hE hst1
  generalize markN st2 = nvst3 at HC
  have HK3 := Hd.mk (show Kst _ st3 ∧ st3.now = st2.now from ⟨hk1, hNow⟩)
  clear hk1 hE hNow hst1
  refine (HC).mono ?_
  rintro e w11 ⟨rfl, hm, hs⟩
  have FB_12 := Hd.mk (FB_10.out.step hs)
  have Fk_12 := Hd.mk (Fk_10.out.step hs)
  have Fb0_12 := Hd.mk (Fb0_10.out.step hs)
  have Fb2_12 := Hd.mk (FNb29.out.step hs)
  have HM12 := Hd.mk hm
  clear FB_10 Fk_10 Fb0_10 FNb29 HM10
  clear hs hm
  clear HC
  go_wp2_with fail
  refine (do_any HM12.out HK3.out.1.1.2 Fk_12.out false 0).mono ?_
  rintro e w13 ⟨rfl, hm, hs⟩
  have FB_14 := Hd.mk (FB_12.out.step hs)
  have Fk_14 := Hd.mk (Fk_12.out.step hs)
  have Fb0_14 := Hd.mk (Fb0_12.out.step hs)
  have Fb2_14 := Hd.mk (Fb2_12.out.step hs)
  have HM14 := Hd.mk hm
  clear FB_12 Fk_12 Fb0_12 Fb2_12 HM12
  clear hs hm
  have HK4 := Hd.mk (kst_doV (K := [st.now, st2.now]) st3 ks HK3.out.1)
  generalize doV false 0 st3 ks = st4 at *
  clear Fk_14
  go_wp2_with fail
  obtain ⟨L4, hL4⟩ : ∃ L, st4.now.flatten = L := ⟨_, rfl⟩
  have HL49 : Hd (L4.length = 9) := ⟨by rw [← hL4]; exact flat9 HK4.out.1⟩
  have HL4 := Hd.mk hL4
  have HSS : Hd (shape st.now = shape st4.now) := ⟨HSH.out.2.trans HK4.out.1.2.symm⟩
  clear hL4
  refine (y_all HM14.out HL4.out HL49.out).mono ?_
  rintro e w15 ⟨g15, c15, p15, rfl, hm, hf, hs⟩
  have FNb415 := Hd.mk hf
  clear hf
  have FB_16 := Hd.mk (FB_14.out.step hs)
  have Fb0_16 := Hd.mk (Fb0_14.out.step hs)
  have Fb2_16 := Hd.mk (Fb2_14.out.step hs)
  have HM16 := Hd.mk hm
  clear FB_14 Fb0_14 Fb2_14 HM14
  clear hs hm
  go_wp2_with fail
  obtain ⟨hkS, hkE, hkN⟩ := keep_two HK4.out
  rw [HL2.out, HL4.out] at hkN
  obtain ⟨qn, hqn⟩ : ∃ q, cntD L2 L4 = q := ⟨_, rfl⟩
  rw [hqn] at hkN
  have HQN := Hd.mk hqn
  clear hqn
  refine (y_keep HM16.out hkN hkE hkS).mono ?_
  rintro e w17 ⟨rfl, hm, hs⟩
  have FB_18 := Hd.mk (FB_16.out.step hs)
  have Fb0_18 := Hd.mk (Fb0_16.out.step hs)
  have Fb2_18 := Hd.mk (Fb2_16.out.step hs)
  have Fb4_18 := Hd.mk (FNb415.out.step hs)
  have HM18 := Hd.mk hm
  clear FB_16 Fb0_16 Fb2_16 FNb415 HM16
  clear hs hm
  clear hkS hkE hkN
  go_wp2_with fail
  refine (y_all HM18.out HL4.out HL49.out).mono ?_
  rintro e w19 ⟨g19, c19, p19, rfl, hm, hf, hs⟩
  have FNb519 := Hd.mk hf
  clear hf
  have FB_20 := Hd.mk (FB_18.out.step hs)
  have Fb0_20 := Hd.mk (Fb0_18.out.step hs)
  have Fb2_20 := Hd.mk (Fb2_18.out.step hs)
  have Fb4_20 := Hd.mk (Fb4_18.out.step hs)
  have HM20 := Hd.mk hm
  clear FB_18 Fb0_18 Fb2_18 Fb4_18 HM18
  clear hs hm
  go_wp2_with fail
  have hq1 := AppI.src FNb519.out.now
  have hq2 := AppI.src Fb4_20.out.now
  refine (equal_at28 (l := L4) (m := L4) (b := true) (decide_eq_true rfl) hq1 hq2).mono ?_
  rintro e w21 ⟨rfl, hB⟩
  obtain ⟨hm, hs⟩ := HM20.out.below hB
  clear hB
  have FB_22 := Hd.mk (FB_20.out.step hs)
  have Fb0_22 := Hd.mk (Fb0_20.out.step hs)
  have Fb2_22 := Hd.mk (Fb2_20.out.step hs)
  have Fb4_22 := Hd.mk (Fb4_20.out.step hs)
  have Fb5_22 := Hd.mk (FNb519.out.step hs)
  have HM22 := Hd.mk hm
  clear FB_20 Fb0_20 Fb2_20 Fb4_20 FNb519 HM20
  clear hs hm
  clear hq1 hq2
  clear Fb5_22
  go_wp2_with fail
  have HXM := x_marks HM22.out
  refine HXM.mono ?_
  rintro e wq ⟨rfl, rfl⟩
  clear HXM
  simp only [List.length_cons, List.length_nil]
  go_wp2_with fail
  go_loopw [18, 19, 109] (fun a b i W => ∃ k : Nat, k ≤ 9 ∧ i = .int .i64 k ∧ a = .int .i64 (cntD (L2.take k) (L4.take k) : Nat) ∧ b = .int .i64 (cntD (L0.take k) (L4.take k) : Nat) ∧ Hd (Below w21.heap.size w21 W)) (fun _ _ i _ => 9 - (intOf i).toNat)
  case atStart => exact ⟨0, by omega, rfl, by simp [cntD], by simp [cntD], ⟨Below.refl _ _⟩⟩
  case round =>
    obtain ⟨k, hk, rfl, rfl, rfl, HBW⟩ := hrel
    have HK := Hd.mk hk
    by_cases hlt : k < 9
    · skip
      have hk0 : k < L0.length := by rw [HL9.out]; exact hlt
      have hk2 : k < L2.length := by rw [HL29.out]; exact hlt
      have hk4 : k < L4.length := by rw [HL49.out]; exact hlt
      have hc0 := AppI.cell9 HL9.out (OwnE.below Fb0_22.out.now HBW.out) k hk0
      have hc2 := AppI.cell9 HL29.out (OwnE.below Fb2_22.out.now HBW.out) k hk2
      have hc4 := AppI.cell9 HL49.out (OwnE.below Fb4_22.out.now HBW.out) k hk4
      have hct := cntD_take hk2 hk4
      have hcu := cntD_take hk0 hk4
      have hcl := cntD_le (L2.take (k + 1)) (L4.take (k + 1))
      have hcl2 : (L2.take (k + 1)).length ≤ 9 := by simp; omega
      have hcl3 := cntD_le (L0.take (k + 1)) (L4.take (k + 1))
      have hcl4 : (L0.take (k + 1)).length ≤ 9 := by simp; omega
      obtain ⟨x, hx⟩ : ∃ x, L0[k] = x := ⟨_, rfl⟩
      obtain ⟨y, hy⟩ : ∃ y, L2[k] = y := ⟨_, rfl⟩
      obtain ⟨z, hz⟩ : ∃ z, L4[k] = z := ⟨_, rfl⟩
      obtain ⟨q, hq⟩ : ∃ q, cntD (L2.take k) (L4.take k) = q := ⟨_, rfl⟩
      obtain ⟨r, hr⟩ : ∃ q, cntD (L0.take k) (L4.take k) = q := ⟨_, rfl⟩
      rw [hy, hz, hq] at hct
      rw [hx, hz, hr] at hcu
      rw [hx] at hc0
      rw [hy] at hc2
      rw [hz] at hc4
      rw [hq, hr]
      have HCT := Hd.mk hct
      have HCU := Hd.mk hcu
      have q0 : q ≤ 10 := by omega
      have r0 : r ≤ 10 := by omega
      have wq : IntKind.i64.wrap ((q : Int) + 1) = (q : Int) + 1 := IntWalk.i64_in _ ⟨by omega, by omega⟩
      have wr1 : IntKind.i64.wrap ((r : Int) + 1) = (r : Int) + 1 := IntWalk.i64_in _ ⟨by omega, by omega⟩
      have k0 : (0 : Int) ≤ (k : Int) := by omega
      have k9 : (k : Int) < 9 := by omega
      have HLT := Hd.mk hlt
      clear hk0 hk2 hk4 hx hy hz hq hr hct hcu hcl hcl2 hcl3 hcl4
      by_cases he : z = y
      · have hd : decide (z = y) = true := decide_eq_true he
        have hdb : (z != y) = false := by simp [he]
        have HX : Hd (cntD (L2.take (k + 1)) (L4.take (k + 1)) = q) := ⟨by rw [HCT.out, if_pos he.symm]; rfl⟩
        by_cases hf : z = x
        · have hd2 : decide (z = x) = true := decide_eq_true hf
          have hd2b : (z != x) = false := by simp [hf]
          have HY : Hd (cntD (L0.take (k + 1)) (L4.take (k + 1)) = r) := ⟨by rw [HCU.out, if_pos hf.symm]; rfl⟩
          clear HCT HCU he hf
          go_wp2_with fail
          go_quiet (fail)
          go_wp2_with fail
          go_quiet (fail)
          go_wp2_with fail
          go_roundw
          case rel => exact ⟨k + 1, by have := HLT.out; omega, by go_num, by rw [HX.out]; try go_num, by rw [HY.out]; try go_num, ⟨below_drewN HBW.out _⟩⟩
          case measure => have := HLT.out; simp [intOf]; omega
        · have hd2 : decide (z = x) = false := decide_eq_false hf
          have hd2b : (z != x) = true := by simp [hf]
          have HY : Hd (cntD (L0.take (k + 1)) (L4.take (k + 1)) = r + 1) := ⟨by rw [HCU.out, if_neg (fun e => hf e.symm)]⟩
          clear HCT HCU he hf
          go_wp2_with fail
          go_quiet (fail)
          go_wp2_with fail
          go_quiet (fail)
          go_wp2_with fail
          go_roundw
          case rel => exact ⟨k + 1, by have := HLT.out; omega, by go_num, by rw [HX.out]; try go_num, by rw [HY.out]; try go_num, ⟨below_drewN HBW.out _⟩⟩
          case measure => have := HLT.out; simp [intOf]; omega
      · have hd : decide (z = y) = false := decide_eq_false he
        have hdb : (z != y) = true := by simp [he]
        have HX : Hd (cntD (L2.take (k + 1)) (L4.take (k + 1)) = q + 1) := ⟨by rw [HCT.out, if_neg (fun e => he e.symm)]⟩
        by_cases hf : z = x
        · have hd2 : decide (z = x) = true := decide_eq_true hf
          have hd2b : (z != x) = false := by simp [hf]
          have HY : Hd (cntD (L0.take (k + 1)) (L4.take (k + 1)) = r) := ⟨by rw [HCU.out, if_pos hf.symm]; rfl⟩
          clear HCT HCU he hf
          go_wp2_with fail
          go_quiet (fail)
          go_wp2_with fail
          go_quiet (fail)
          go_wp2_with fail
          go_roundw
          case rel => exact ⟨k + 1, by have := HLT.out; omega, by go_num, by rw [HX.out]; try go_num, by rw [HY.out]; try go_num, ⟨below_drewN HBW.out _⟩⟩
          case measure => have := HLT.out; simp [intOf]; omega
        · have hd2 : decide (z = x) = false := decide_eq_false hf
          have hd2b : (z != x) = true := by simp [hf]
          have HY : Hd (cntD (L0.take (k + 1)) (L4.take (k + 1)) = r + 1) := ⟨by rw [HCU.out, if_neg (fun e => hf e.symm)]⟩
          clear HCT HCU he hf
          go_wp2_with fail
          go_quiet (fail)
          go_wp2_with fail
          go_quiet (fail)
          go_wp2_with fail
          go_roundw
          case rel => exact ⟨k + 1, by have := HLT.out; omega, by go_num, by rw [HX.out]; try go_num, by rw [HY.out]; try go_num, ⟨below_drewN HBW.out _⟩⟩
          case measure => have := HLT.out; simp [intOf]; omega
    · obtain rfl : k = 9 := by omega
      rw [show L0.take 9 = L0 from List.take_of_length_le (by rw [HL9.out]; exact Nat.le_refl _), show L2.take 9 = L2 from List.take_of_length_le (by rw [HL29.out]; exact Nat.le_refl _), show L4.take 9 = L4 from List.take_of_length_le (by rw [HL49.out]; exact Nat.le_refl _)]
      obtain ⟨hm, hs⟩ := HM22.out.below HBW.out
      rw [HQN.out]
      clear hlt
      rename World => wG
      have FB_23 := Hd.mk (FB_22.out.step hs)
      have Fb0_23 := Hd.mk (Fb0_22.out.step hs)
      have Fb2_23 := Hd.mk (Fb2_22.out.step hs)
      have Fb4_23 := Hd.mk (Fb4_22.out.step hs)
      have HM23 := Hd.mk hm
      clear FB_22 Fb0_22 Fb2_22 Fb4_22 HM22
      clear hs hm
      obtain ⟨hbS, hbE, hbN, hbC, hbL⟩ := back_one HSS.out
      rw [HL0.out, HL4.out] at hbN hbL
      obtain ⟨qs, hqs⟩ : ∃ q, cntD L0 L4 = q := ⟨_, rfl⟩
      have HQS : Hd (qs ≤ 9) := ⟨by rw [← hqs]; have := cntD_le L0 L4; have := HL9.out; omega⟩
      rw [hqs] at hbN hbL ⊢
      obtain ⟨C, hC⟩ : ∃ C, chgV st.now st4.now = C := ⟨_, rfl⟩
      rw [hC] at hbC hbL
      have HCE := Hd.mk hC
      have HBO := Hd.mk (show backS ⟨st4.now, [st.now]⟩ = ⟨st.now, []⟩ ∧ popE ⟨st4.now, [st.now]⟩ = 0 ∧ popN ⟨st4.now, [st.now]⟩ = (qs : Nat) ∧ changesV ⟨st4.now, [st.now]⟩ = C ∧ C.length = qs from ⟨hbS, hbE, hbN, hbC, hbL⟩)
      clear hbS hbE hbN hbC hbL hqs hC
      have hz39 := zero39
      go_wp2_with fail
      obtain ⟨w1b, hW⟩ : ∃ W, (wG.alloc (.cells #[.int .i64 0, .int .i64 0, .int .i64 0, .int .i64 0] 39)) = W := ⟨_, rfl⟩
      have hB1 : Below wG.heap.size wG w1b := by rw [← hW]; exact bl_alloc (Below.refl _ _)
      have hF1 : w1b.heap[wG.heap.size]? = some (.cells (chArr (0, 0, 0, 0)) 39 (0, 0)) := by rw [← hW]; exact heap_alloc_new _ _
      have HGS : Hd (wG.heap.size < w1b.heap.size) := ⟨by rw [← hW]; simp⟩
      rw [hW]
      clear hW hz39
      obtain ⟨y, hy⟩ := (HM23.out.below hB1).1
      have HC1 := changes_any hy
      rw [HBO.out.2.2.2.1] at HC1
      refine HC1.mono ?_
      rintro e w2b ⟨v, rfl, ho, hB2⟩
      obtain ⟨a, c, rfl⟩ := ho.src.shape
      have HB2 := Hd.mk (hB1.trans (hB2.mono hB1.size))
      have HF2 := Hd.mk ((hB2.block _ HGS.out).trans hF1)
      have HCN := HBO.out.2.2.2.2
      have HO2 := Hd.mk ho
      clear hB1 hF1 hy HC1 ho hB2
      obtain ⟨G, hG⟩ : ∃ g, wG.heap.size = g := ⟨_, rfl⟩
      rw [hG] at HF2 HGS ⊢
      have HGE := Hd.mk hG
      rw [HCN] at HO2 ⊢
      clear HCN hG
      have qs9 := HQS.out
      go_wp2_with fail
      go_loopw [139] (fun i W => ∃ k : Nat, k ≤ qs ∧ i = .int .i64 k ∧ Hd (Below wG.heap.size wG W) ∧ ∃ last : Ch, Hd (W.heap[G]? = some (.cells (chArr last) 39 (0, 0))) ∧ Hd (∀ j, k = j + 1 → C[j]? = some last) ∧ Hd (OwnD W w1b.heap.size 39 (.slice a qs c) C)) (fun i _ => qs - (intOf i).toNat)
      case atStart => exact ⟨0, by omega, rfl, HB2, (0, 0, 0, 0), HF2, ⟨fun j h => by omega⟩, HO2⟩
      case round =>
        obtain ⟨k, hk, rfl, HBW, last, HFW, HLS, HOW⟩ := hrel
        by_cases hlt : k < qs
        · have hkc : k < C.length := by rw [HBO.out.2.2.2.2]; exact hlt
          obtain ⟨bc, oc, rfl, hbc, c0, c1, c2, c3⟩ := HOW.out.src.at k hkc
          obtain ⟨d, hd⟩ : ∃ d, C[k] = d := ⟨_, rfl⟩
          have HDK : Hd (C[k]? = some d) := ⟨by rw [List.getElem?_eq_getElem hkc, hd]⟩
          rw [hd] at c0 c1 c2 c3
          obtain ⟨hv, he, hne⟩ := chgV_load (s := st.now) (a := st4.now) (c := d) (by rw [HCE.out, ← hd]; exact List.getElem_mem hkc)
          have HLT1 : Hd (∀ j, k = j + 1 → chLt last d) := ⟨fun j hj => chgV_next (s := st.now) (a := st4.now) (k := j) (by rw [HCE.out]; exact HLS.out j hj) (by rw [HCE.out, ← hj]; exact HDK.out)⟩
          obtain ⟨d1, d2, d3, d4⟩ := d
          dsimp only at c0 c1 c2 c3 hv he hne
          have HLOAD := Hd.mk (show ldV st4.now d1 d2 = d4 ∧ ldE st4.now d1 d2 = 0 from ⟨hv, he⟩)
          have hne1 : (d3 == d4) = false := by simpa using hne
          have hne2 : decide (d3 = d4) = false := decide_eq_false hne
          have hb1 : Below wr.heap.size wr (wr.alloc (.cells #[.int .i64 d1, .int .i64 d2, .int .i64 d3, .int .i64 d4] 39)) := bl_alloc (Below.refl _ _)
          have HB1 := Hd.mk (HBW.out.trans (hb1.mono HBW.out.size))
          have hx := heap_alloc_new wr (.cells #[.int .i64 d1, .int .i64 d2, .int .i64 d3, .int .i64 d4] 39)
          have hg := (heap_alloc_old wr (.cells #[.int .i64 d1, .int .i64 d2, .int .i64 d3, .int .i64 d4] 39) (lt_of_heap HFW.out)).trans HFW.out
          have HOX := Hd.mk (OwnD.alloc HOW.out (.cells #[.int .i64 d1, .int .i64 d2, .int .i64 d3, .int .i64 d4] 39))
          have HHX := Hd.mk (show (wr.alloc (.cells #[.int .i64 d1, .int .i64 d2, .int .i64 d3, .int .i64 d4] 39)).heap[G]? = some (.cells (chArr last) 39 (0, 0)) from hg)
          obtain ⟨l1, l2, l3, l4⟩ := last
          have x0 := cells_cell hx 0
          have x1 := cells_cell hx 1
          have x2 := cells_cell hx 2
          have x3 := cells_cell hx 3
          have g0 := cells_cell hg 0
          have g1 := cells_cell hg 1
          have g2 := cells_cell hg 2
          have g3_ := cells_cell hg 3
          have f0 := cells_free hg 0
          have f1 := cells_free hg 1
          have f2 := cells_free hg 2
          have f3 := cells_free hg 3
          simp only [chArr, List.getElem?_toArray, List.getElem?_cons_zero, List.getElem?_cons_succ] at x0 x1 x2 x3 g0 g1 g2 g3_ f0 f1 f2 f3
          have HLT := Hd.mk hlt
          have k0 : (0 : Int) ≤ (k : Int) := by omega
          have kq : (k : Int) < (qs : Int) := by omega
          have hGr : G ≠ wr.heap.size := by have := lt_of_heap HFW.out; omega
          clear hkc hd hv he hne hx hg hb1 hlt
          rcases Nat.eq_zero_or_pos k with h0 | h0
          · skip
            clear HLT1
            have u4 : ¬ (0 : Int) < (k : Int) := by omega
            clear h0
            go_wp2_with fail
            obtain ⟨y, hy⟩ := (HM23.out.below HB1.out).1
            refine (y_load ⟨y, hy⟩ HLOAD.out.1 HLOAD.out.2).mono ?_
            rintro e wq ⟨rfl, rfl⟩
            clear hy
            go_wp2_with fail
            go_roundw
            case rel => exact ⟨k + 1, by have := HLT.out; omega, by go_num, ⟨k_below HB1.out (by have := HGE.out; omega)⟩, (d1, d2, d3, d4), ⟨box_set4 (d1, d2, d3, d4) HHX.out⟩, ⟨fun i hi => by rw [show i = k by omega]; exact HDK.out⟩, ⟨OwnD.kept HOX.out (set4_grown _ _ _ _ _ _) (own_neD HOX.out HGS.out)⟩⟩
            case measure => have := HLT.out; simp [intOf]; omega
          · rcases HLT1.out (k - 1) (by omega) with hl1 | ⟨hl1, hl2⟩
            · skip
              dsimp only at hl1
              have u1 : ¬ d1 < l1 := by omega
              have u2 : (d1 == l1) = false := by simp; omega
              have u3 : ¬ d1 = l1 := by omega
              clear hl1
              have u4 : (0 : Int) < (k : Int) := by omega
              go_wp2_with fail
              obtain ⟨y, hy⟩ := (HM23.out.below HB1.out).1
              refine (y_load ⟨y, hy⟩ HLOAD.out.1 HLOAD.out.2).mono ?_
              rintro e wq ⟨rfl, rfl⟩
              clear hy
              go_wp2_with fail
              go_roundw
              case rel => exact ⟨k + 1, by have := HLT.out; omega, by go_num, ⟨k_below HB1.out (by have := HGE.out; omega)⟩, (d1, d2, d3, d4), ⟨box_set4 (d1, d2, d3, d4) HHX.out⟩, ⟨fun i hi => by rw [show i = k by omega]; exact HDK.out⟩, ⟨OwnD.kept HOX.out (set4_grown _ _ _ _ _ _) (own_neD HOX.out HGS.out)⟩⟩
              case measure => have := HLT.out; simp [intOf]; omega
            · skip
              dsimp only at hl1 hl2
              have u1 : ¬ d1 < l1 := by omega
              have u2 : (d1 == l1) = true := by simp; omega
              have u4 : (0 : Int) < (k : Int) := by omega
              have u5 : ¬ d2 ≤ l2 := by omega
              clear hl1 hl2
              go_wp2_with fail
              obtain ⟨y, hy⟩ := (HM23.out.below HB1.out).1
              refine (y_load ⟨y, hy⟩ HLOAD.out.1 HLOAD.out.2).mono ?_
              rintro e wq ⟨rfl, rfl⟩
              clear hy
              go_wp2_with fail
              go_roundw
              case rel => exact ⟨k + 1, by have := HLT.out; omega, by go_num, ⟨k_below HB1.out (by have := HGE.out; omega)⟩, (d1, d2, d3, d4), ⟨box_set4 (d1, d2, d3, d4) HHX.out⟩, ⟨fun i hi => by rw [show i = k by omega]; exact HDK.out⟩, ⟨OwnD.kept HOX.out (set4_grown _ _ _ _ _ _) (own_neD HOX.out HGS.out)⟩⟩
              case measure => have := HLT.out; simp [intOf]; omega
        · obtain rfl : k = qs := by omega
          obtain ⟨hm, hs⟩ := HM23.out.below HBW.out
          clear hlt
          have FB_24 := Hd.mk (FB_23.out.step hs)
          have Fb0_24 := Hd.mk (Fb0_23.out.step hs)
          have Fb2_24 := Hd.mk (Fb2_23.out.step hs)
          have Fb4_24 := Hd.mk (Fb4_23.out.step hs)
          have HM24 := Hd.mk hm
          clear FB_23 Fb0_23 Fb2_23 Fb4_23 HM23
          clear hs hm
          go_wp2_with fail
          refine (x_changes HM24.out HBO.out.2.2.2.1).mono ?_
          rintro e w25 ⟨a25, c25, p25, rfl, hm, hf, hs⟩
          have FNc325 := Hd.mk hf
          clear hf
          have FB_26 := Hd.mk (FB_24.out.step hs)
          have Fb0_26 := Hd.mk (Fb0_24.out.step hs)
          have Fb2_26 := Hd.mk (Fb2_24.out.step hs)
          have Fb4_26 := Hd.mk (Fb4_24.out.step hs)
          have HM26 := Hd.mk hm
          clear FB_24 Fb0_24 Fb2_24 Fb4_24 HM24
          clear hs hm
          rw [HBO.out.2.2.2.2]
          clear FNc325
          go_wp2_with fail
          refine (y_back HM26.out HBO.out.2.2.1 HBO.out.2.1 HBO.out.1).mono ?_
          rintro e w27 ⟨rfl, hm, hs⟩
          have FB_28 := Hd.mk (FB_26.out.step hs)
          have Fb0_28 := Hd.mk (Fb0_26.out.step hs)
          have Fb2_28 := Hd.mk (Fb2_26.out.step hs)
          have Fb4_28 := Hd.mk (Fb4_26.out.step hs)
          have HM28 := Hd.mk hm
          clear FB_26 Fb0_26 Fb2_26 Fb4_26 HM26
          clear hs hm
          go_wp2_with fail
          refine (y_all HM28.out HL0.out HL9.out).mono ?_
          rintro e w29 ⟨g29, c29, p29, rfl, hm, hf, hs⟩
          have FNb629 := Hd.mk hf
          clear hf
          have FB_30 := Hd.mk (FB_28.out.step hs)
          have Fb0_30 := Hd.mk (Fb0_28.out.step hs)
          have Fb2_30 := Hd.mk (Fb2_28.out.step hs)
          have Fb4_30 := Hd.mk (Fb4_28.out.step hs)
          have HM30 := Hd.mk hm
          clear FB_28 Fb0_28 Fb2_28 Fb4_28 HM28
          clear hs hm
          go_wp2_with fail
          have hq1 := AppI.src FNb629.out.now
          have hq2 := AppI.src Fb0_30.out.now
          refine (equal_at28 (l := L0) (m := L0) (b := true) (decide_eq_true rfl) hq1 hq2).mono ?_
          rintro e w31 ⟨rfl, hB⟩
          obtain ⟨hm, hs⟩ := HM30.out.below hB
          clear hB
          have FB_32 := Hd.mk (FB_30.out.step hs)
          have Fb0_32 := Hd.mk (Fb0_30.out.step hs)
          have Fb2_32 := Hd.mk (Fb2_30.out.step hs)
          have Fb4_32 := Hd.mk (Fb4_30.out.step hs)
          have Fb6_32 := Hd.mk (FNb629.out.step hs)
          have HM32 := Hd.mk hm
          clear FB_30 Fb0_30 Fb2_30 Fb4_30 FNb629 HM30
          clear hs hm
          clear hq1 hq2
          go_wp2_with fail
          have HXM := x_marks HM32.out
          refine HXM.mono ?_
          rintro e wq ⟨rfl, rfl⟩
          clear HXM
          simp only [List.length_nil]
          go_wp2_with fail
          go_ret
          exact ⟨rfl, FB_32.out.now⟩
end Go.Proofs.Ytnhkadknibinfaa
