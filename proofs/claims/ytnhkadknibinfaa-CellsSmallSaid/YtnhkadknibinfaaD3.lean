/- The law CellsBack: its walk. -/
import Derived.Test.YtnhkadknibinfaaPL4
import Derived.Deep.DeepCutAuto
import Derived.Lib.MinMax
namespace Go.Proofs.Ytnhkadknibinfaa
open Go.RowKit
set_option linter.unusedVariables false


theorem y_all {w : World} {pr : Nat → Prop} {M : Nat} {st : St} (h : MemAt w pr M st) {l : List Int} (hl : st.now.flatten = l) (h9 : l.length = 9) : Calls Try.prog 13 #[.pointer (some ⟨M, 0, none⟩)] w fun e w' =>
    ∃ g c pr', e = .returned (.slice (some ⟨g, 0, none⟩) 9 c) ∧ MemAt w' pr' M st ∧ Held pr' w' (fun W => AppI 2 W w.heap.size (.slice (some ⟨g, 0, none⟩) 9 c) l) ∧ Step pr w pr' w' := by
  refine (x_all h hl).mono ?_
  rintro e w' ⟨a, c, p, rfl, hm, hf, hs⟩
  obtain ⟨g, rfl, _, _⟩ := own_at hf (by omega)
  rw [h9] at hf ⊢
  exact ⟨g, c, p, rfl, hm, hf, hs⟩
theorem AppI.cell9 {w : World} {e base g c : Nat} {l : List Int} (h9 : l.length = 9) (h : AppI e w base (.slice (some ⟨g, 0, none⟩) 9 c) l) (j : Nat) (hj : j < l.length) : w.cell? ⟨g, j, none⟩ = some (.int .i64 l[j]) := by
  rw [← h9] at h; exact h.cell j hj
theorem flat9 {st : St} (h : ShOk S9 st) : st.now.flatten.length = 9 := by rw [flatten_len_eq, h.2]; rfl

set_option maxRecDepth 100000 in
set_option maxHeartbeats 4000000 in
theorem back_law {w : World} {lv mv : Value} {ls ms : List Sm} (hl : SrcS w lv ls) (hm2 : SrcS w mv ms) :
    Calls Try.prog 3 #[lv, mv] w fun e w' => e = .returned (.bool true) ∧ Below w.heap.size w w' := by
  have FM := Hd.mk hm2
  clear hm2
  have FL := Hd.mk hl
  clear hl
  go_enter Try.func3, Try.ntmps3
  go_wp2_with fail
  refine (awake_any _).mono ?_
  rintro e w1 ⟨rfl, hB0⟩
  have HB0 := Hd.mk hB0
  clear hB0
  go_wp2_with fail
  refine (made_any _).mono ?_
  rintro e w2 ⟨M, p0, rfl, hm, hp, hB1⟩
  have HM0 := Hd.mk hm
  have FB0 := Hd.mk (Held.below (HB0.out.trans (hB1.mono HB0.out.size)) (fun k hk => hp k (Nat.lt_of_lt_of_le hk HB0.out.size)))
  have FL0 := Hd.mk (FB0.out.imp fun W hW => SrcS.below FL.out hW)
  clear hm hp hB1 HB0 FL
  go_wp2_with fail
  refine (do_any HM0.out rfl FL0.out true 0).mono ?_
  rintro e w1 ⟨rfl, hm, hs⟩
  have FB_2 := Hd.mk (FB0.out.step hs)
  have Fl_2 := Hd.mk (FL0.out.step hs)
  have HM2 := Hd.mk hm
  clear FB0 FL0 HM0
  clear hs hm
  clear Fl_2
  have HSH := Hd.mk (doV_sh (marks := true) (floor := 0) _ ls (show ShOk S9 ⟨[[0, 0], [0, 0, 0], [], [0, 0, 0, 0]], []⟩ from ⟨⟨by decide, by decide, by simp, by decide⟩, rfl⟩))
  generalize doV true 0 ⟨[[0, 0], [0, 0, 0], [], [0, 0, 0, 0]], []⟩ ls = st at *
  have FM0 := Hd.mk (FB_2.out.imp fun W hW => SrcS.below FM.out hW)
  clear FM
  go_wp2_with fail
  obtain ⟨L0, hL0⟩ : ∃ L, st.now.flatten = L := ⟨_, rfl⟩
  have HL9 : Hd (L0.length = 9) := ⟨by rw [← hL0]; exact flat9 HSH.out⟩
  obtain ⟨nm, hnm⟩ : ∃ m, st.marks.length = m := ⟨_, rfl⟩
  obtain ⟨C0, hC0⟩ : ∃ C, changesV st = C := ⟨_, rfl⟩
  have HC0 := Hd.mk hC0
  have HL0 := Hd.mk hL0
  have HNM := Hd.mk hnm
  clear hL0 hC0 hnm
  refine (y_all HM2.out HL0.out HL9.out).mono ?_
  rintro e w3 ⟨g3, c3, p3, rfl, hm, hf, hs⟩
  have FNb03 := Hd.mk hf
  clear hf
  have FB_4 := Hd.mk (FB_2.out.step hs)
  have Fm_4 := Hd.mk (FM0.out.step hs)
  have HM4 := Hd.mk hm
  clear FB_2 FM0 HM2
  clear hs hm
  go_wp2_with fail
  have HXM := x_marks HM4.out
  rw [HNM.out] at HXM
  refine HXM.mono ?_
  rintro e wq5 ⟨rfl, rfl⟩
  clear HXM
  go_wp2_with fail
  refine (x_changes HM4.out HC0.out).mono ?_
  rintro e w6 ⟨a6, c6, p6, rfl, hm, hf, hs⟩
  have FNc06 := Hd.mk hf
  clear hf
  have FB_7 := Hd.mk (FB_4.out.step hs)
  have Fm_7 := Hd.mk (Fm_4.out.step hs)
  have Fb0_7 := Hd.mk (FNb03.out.step hs)
  have HM7 := Hd.mk hm
  clear FB_4 Fm_4 FNb03 HM4
  clear hs hm
  by_cases h64 : nm < 64
  · obtain ⟨hbt, hN, hE, hCh, hNow⟩ := mark_bott HSH.out (by rw [HNM.out]; exact h64)
    rw [HNM.out] at hN hbt
    have i64 : ¬ (64 : Int) ≤ (nm : Int) := by omega
    have wn : IntKind.i64.wrap ((nm : Int) + 1) = (nm : Int) + 1 := IntWalk.i64_in _ ⟨by omega, by omega⟩
    obtain ⟨st1, hst1⟩ : ∃ s, markS st = s := ⟨_, rfl⟩
    rw [hst1] at hbt hCh hNow
    have HBT := Hd.mk hbt
    have HCH := Hd.mk hCh
    clear hbt hCh hNow
    go_wp2_with fail
    refine (y_mark HM7.out hN hE hst1).mono ?_
    rintro e w8 ⟨rfl, hm, hs⟩
    have FB_9 := Hd.mk (FB_7.out.step hs)
    have Fm_9 := Hd.mk (Fm_7.out.step hs)
    have Fb0_9 := Hd.mk (Fb0_7.out.step hs)
    have Fc0_9 := Hd.mk (FNc06.out.step hs)
    have HM9 := Hd.mk hm
    clear FB_7 Fm_7 Fb0_7 FNc06 HM7
    clear hs hm
    clear hN hE hst1
    go_wp2_with fail
    refine (x_changes HM9.out HCH.out).mono ?_
    rintro e w10 ⟨a10, c10, p10, rfl, hm, hf, hs⟩
    have FNc110 := Hd.mk hf
    clear hf
    have FB_11 := Hd.mk (FB_9.out.step hs)
    have Fm_11 := Hd.mk (Fm_9.out.step hs)
    have Fb0_11 := Hd.mk (Fb0_9.out.step hs)
    have Fc0_11 := Hd.mk (Fc0_9.out.step hs)
    have HM11 := Hd.mk hm
    clear FB_9 Fm_9 Fb0_9 Fc0_9 HM9
    clear hs hm
    go_wp2_with fail
    refine (do_any HM11.out HBT.out.1.2 Fm_11.out true ((nm : Int) + 1)).mono ?_
    rintro e w12 ⟨rfl, hm, hs⟩
    have FB_13 := Hd.mk (FB_11.out.step hs)
    have Fm_13 := Hd.mk (Fm_11.out.step hs)
    have Fb0_13 := Hd.mk (Fb0_11.out.step hs)
    have Fc0_13 := Hd.mk (Fc0_11.out.step hs)
    have Fc1_13 := Hd.mk (FNc110.out.step hs)
    have HM13 := Hd.mk hm
    clear FB_11 Fm_11 Fb0_11 Fc0_11 FNc110 HM11
    clear hs hm
    have HB2 := Hd.mk (bott_doV st1 ms HBT.out)
    rw [show (((nm + 1 : Nat) : Int)) = (nm : Int) + 1 from rfl] at HB2
    generalize doV true ((nm : Int) + 1) st1 ms = st2 at *
    clear Fm_13
    go_wp2_with fail
    go_loopw [69] (fun i W => ∃ k : Nat, k ≤ 63 ∧ i = .int .i64 k ∧ ∃ st', Hd (Bott (nm + 1) (st.marks ++ [st.now]) st') ∧ Hd (st'.marks.length ≤ 64 - k) ∧ Hd (MemAt W p10 M st') ∧ Hd (Step p10 w12 p10 W)) (fun i _ => 64 - (intOf i).toNat)
    case atStart => exact ⟨0, by omega, rfl, st2, HB2, ⟨HM13.out.ok.many⟩, ⟨HM13.out⟩, ⟨Step.refl _ _⟩⟩
    case round =>
      obtain ⟨k, hk, rfl, st3, HB3, HLE, HMR, HSR⟩ := hrel
      obtain ⟨nk, hnk⟩ : ∃ m, st3.marks.length = m := ⟨_, rfl⟩
      have HNK := Hd.mk hnk
      have HK := Hd.mk hk
      clear hnk
      have i63 : (k : Int) < 64 := by omega
      clear hk
      by_cases hgt : nm + 1 < nk
      · obtain ⟨hb1, hb2, hb3⟩ := bott_back HB3.out (by rw [HNK.out]; exact hgt)
        have j1 : ¬ (nk : Int) ≤ (nm : Int) + 1 := by omega
        obtain ⟨st4, hst4⟩ : ∃ s, backS st3 = s := ⟨_, rfl⟩
        rw [hst4] at hb1 hb2
        have HB4 := Hd.mk hb1
        have HLE4 : Hd (st4.marks.length ≤ 64 - (k + 1) ∧ k + 1 ≤ 63) := ⟨by have h1 := HLE.out; have h2 := HK.out; have h3 := HNK.out; have h4 := HB4.out.2.2; omega⟩
        have HC := y_back HMR.out rfl hb3 hst4
        have HXM := x_marks HMR.out
        rw [HNK.out] at HXM
        generalize popN st3 = pn at HC
        clear hb1 hb2 hb3 hst4 HLE hgt
        go_wp2_with fail
        refine HXM.mono ?_
        rintro e wq ⟨rfl, rfl⟩
        clear HXM
        go_wp2_with fail
        refine HC.mono ?_
        rintro e w5 ⟨rfl, hm, hs⟩
        have HM5 := Hd.mk hm
        have HS5 := Hd.mk (HSR.out.trans hs)
        clear hm hs HC
        go_wp2_with fail
        go_roundw
        case rel => exact ⟨k + 1, HLE4.out.2, by go_num, st4, HB4, ⟨HLE4.out.1⟩, HM5, HS5⟩
        case measure => have := HLE4.out.2; simp [intOf]; omega
      · have hmk := bott_end HB3.out (by rw [HNK.out]; omega)
        have j1 : (nk : Int) ≤ (nm : Int) + 1 := by omega
        obtain ⟨hbS, hbE, hbN, hbC⟩ := back_at HB3.out.1 HSH.out hmk
        obtain ⟨L1, hL1⟩ : ∃ L, st3.now.flatten = L := ⟨_, rfl⟩
        have HL1 : Hd (L1.length = 9) := ⟨by rw [← hL1]; exact flat9 HB3.out.1⟩
        rw [HL0.out, hL1] at hbN hbC
        have HL1E := Hd.mk hL1
        have HBK := Hd.mk (show backS st3 = st ∧ popE st3 = 0 ∧ popN st3 = (cntD L0 L1 : Nat) ∧ (changesV st3).length = cntD L0 L1 from ⟨hbS, hbE, hbN, hbC⟩)
        have HXM := x_marks HMR.out
        rw [HNK.out] at HXM
        clear hmk hbS hbE hbN hbC hL1 HLE hgt
        go_wp2_with fail
        refine HXM.mono ?_
        rintro e wq ⟨rfl, rfl⟩
        clear HXM
        have FZB13 := Hd.mk (FB_13.out.step HSR.out)
        have FZb013 := Hd.mk (Fb0_13.out.step HSR.out)
        have FZc013 := Hd.mk (Fc0_13.out.step HSR.out)
        have FZc113 := Hd.mk (Fc1_13.out.step HSR.out)
        clear HSR FB_13 Fb0_13 Fc0_13 Fc1_13 HM13
        go_wp2_with fail
        refine (y_all HMR.out HL1E.out HL1.out).mono ?_
        rintro e w14 ⟨g14, c14, p14, rfl, hm, hf, hs⟩
        have FNb114 := Hd.mk hf
        clear hf
        have FB_15 := Hd.mk (FZB13.out.step hs)
        have Fb0_15 := Hd.mk (FZb013.out.step hs)
        have Fc0_15 := Hd.mk (FZc013.out.step hs)
        have Fc1_15 := Hd.mk (FZc113.out.step hs)
        have HM15 := Hd.mk hm
        clear FZB13 FZb013 FZc013 FZc113 HMR
        clear hs hm
        go_wp2_with fail
        go_loopw [15, 87] (fun q i W => ∃ k : Nat, k ≤ 9 ∧ i = .int .i64 k ∧ q = .int .i64 (cntD (L0.take k) (L1.take k) : Nat) ∧ Hd (Below w14.heap.size w14 W)) (fun _ i _ => 9 - (intOf i).toNat)
        case atStart => exact ⟨0, by omega, rfl, by simp [cntD], ⟨Below.refl _ _⟩⟩
        case round =>
          obtain ⟨k, hk, rfl, rfl, HBW⟩ := hrel
          have HK := Hd.mk hk
          by_cases hlt : k < 9
          · have hk0 : k < L0.length := by rw [HL9.out]; exact hlt
            have hk1 : k < L1.length := by rw [HL1.out]; exact hlt
            have hc0 := AppI.cell9 HL9.out (OwnE.below Fb0_15.out.now HBW.out) k hk0
            have hc1 := AppI.cell9 HL1.out (OwnE.below FNb114.out.now HBW.out) k hk1
            have hct := cntD_take hk0 hk1
            have hcl := cntD_le (L0.take (k + 1)) (L1.take (k + 1))
            have hcl2 : (L0.take (k + 1)).length ≤ 9 := by simp; omega
            obtain ⟨x, hx⟩ : ∃ x, L0[k] = x := ⟨_, rfl⟩
            obtain ⟨y, hy⟩ : ∃ y, L1[k] = y := ⟨_, rfl⟩
            obtain ⟨q, hq⟩ : ∃ q, cntD (L0.take k) (L1.take k) = q := ⟨_, rfl⟩
            rw [hx, hy, hq] at hct
            rw [hx] at hc0
            rw [hy] at hc1
            rw [hq]
            have HCT := Hd.mk hct
            have q0 : q ≤ 10 := by omega
            have wq : IntKind.i64.wrap ((q : Int) + 1) = (q : Int) + 1 := IntWalk.i64_in _ ⟨by omega, by omega⟩
            have k0 : (0 : Int) ≤ (k : Int) := by omega
            have k9 : (k : Int) < 9 := by omega
            have k9b : ¬ (9 : Int) ≤ (k : Int) := by omega
            have HLT := Hd.mk hlt
            clear hk0 hk1 hx hy hq hct hcl hcl2
            by_cases he : y = x
            · have hd : decide (y = x) = true := decide_eq_true he
              have HX : Hd (cntD (L0.take (k + 1)) (L1.take (k + 1)) = q) := ⟨by rw [HCT.out, if_pos he.symm]; rfl⟩
              subst he
              go_wp2_with fail
              go_quiet (fail)
              go_wp2_with fail
              go_roundw
              case rel => exact ⟨k + 1, by have := HLT.out; omega, by go_num, by rw [HX.out], ⟨below_drewN HBW.out _⟩⟩
              case measure => have := HLT.out; simp [intOf]; omega
            · have hd : decide (y = x) = false := decide_eq_false he
              have hd2 : (y != x) = true := by simp [he]
              have HX : Hd (cntD (L0.take (k + 1)) (L1.take (k + 1)) = q + 1) := ⟨by rw [HCT.out, if_neg (fun e => he e.symm)]⟩
              clear HCT
              go_wp2_with fail
              go_quiet (fail)
              go_wp2_with fail
              go_roundw
              case rel => exact ⟨k + 1, by have := HLT.out; omega, by go_num, by rw [HX.out]; go_num, ⟨below_drewN HBW.out _⟩⟩
              case measure => have := HLT.out; simp [intOf]; omega
          · obtain rfl : k = 9 := by omega
            rw [show L0.take 9 = L0 from List.take_of_length_le (by rw [HL9.out]; exact Nat.le_refl _), show L1.take 9 = L1 from List.take_of_length_le (by rw [HL1.out]; exact Nat.le_refl _)]
            obtain ⟨hm, hs⟩ := HM15.out.below HBW.out
            have HCC : Hd (cntD L0 L1 ≤ 9) := ⟨by have := cntD_le L0 L1; have := HL9.out; omega⟩
            clear hlt
            have FB_16 := Hd.mk (FB_15.out.step hs)
            have Fb0_16 := Hd.mk (Fb0_15.out.step hs)
            have Fc0_16 := Hd.mk (Fc0_15.out.step hs)
            have Fc1_16 := Hd.mk (Fc1_15.out.step hs)
            have Fb1_16 := Hd.mk (FNb114.out.step hs)
            have HM16 := Hd.mk hm
            clear FB_15 Fb0_15 Fc0_15 Fc1_15 FNb114 HM15
            clear hs hm
            obtain ⟨qq, hqq⟩ : ∃ q, cntD L0 L1 = q := ⟨_, rfl⟩
            rw [hqq] at HBK HCC ⊢
            clear hqq
            obtain ⟨C3, hC3⟩ : ∃ C, changesV st3 = C := ⟨_, rfl⟩
            rw [hC3] at HBK
            have HC3 := Hd.mk hC3
            clear hC3
            go_wp2_with fail
            refine (x_changes HM16.out HC3.out).mono ?_
            rintro e w17 ⟨a17, c17, p17, rfl, hm, hf, hs⟩
            have FNc317 := Hd.mk hf
            clear hf
            have FB_18 := Hd.mk (FB_16.out.step hs)
            have Fb0_18 := Hd.mk (Fb0_16.out.step hs)
            have Fc0_18 := Hd.mk (Fc0_16.out.step hs)
            have Fc1_18 := Hd.mk (Fc1_16.out.step hs)
            have Fb1_18 := Hd.mk (Fb1_16.out.step hs)
            have HM18 := Hd.mk hm
            clear FB_16 Fb0_16 Fc0_16 Fc1_16 Fb1_16 HM16
            clear hs hm
            rw [HBK.out.2.2.2]
            go_wp2_with fail
            refine (y_back HM18.out HBK.out.2.2.1 HBK.out.2.1 HBK.out.1).mono ?_
            rintro e w19 ⟨rfl, hm, hs⟩
            have FB_20 := Hd.mk (FB_18.out.step hs)
            have Fb0_20 := Hd.mk (Fb0_18.out.step hs)
            have Fc0_20 := Hd.mk (Fc0_18.out.step hs)
            have Fc1_20 := Hd.mk (Fc1_18.out.step hs)
            have Fb1_20 := Hd.mk (Fb1_18.out.step hs)
            have Fc3_20 := Hd.mk (FNc317.out.step hs)
            have HM20 := Hd.mk hm
            clear FB_18 Fb0_18 Fc0_18 Fc1_18 Fb1_18 FNc317 HM18
            clear hs hm
            go_wp2_with fail
            refine (y_all HM20.out HL0.out HL9.out).mono ?_
            rintro e w21 ⟨g21, c21, p21, rfl, hm, hf, hs⟩
            have FNb221 := Hd.mk hf
            clear hf
            have FB_22 := Hd.mk (FB_20.out.step hs)
            have Fb0_22 := Hd.mk (Fb0_20.out.step hs)
            have Fc0_22 := Hd.mk (Fc0_20.out.step hs)
            have Fc1_22 := Hd.mk (Fc1_20.out.step hs)
            have Fb1_22 := Hd.mk (Fb1_20.out.step hs)
            have Fc3_22 := Hd.mk (Fc3_20.out.step hs)
            have HM22 := Hd.mk hm
            clear FB_20 Fb0_20 Fc0_20 Fc1_20 Fb1_20 Fc3_20 HM20
            clear hs hm
            go_wp2_with fail
            have hqb0 := AppI.src FNb221.out.now
            have hqb2 := AppI.src Fb0_22.out.now
            refine (equal_at28 (l := L0) (m := L0) (b := true) (decide_eq_true rfl) hqb0 hqb2).mono ?_
            rintro e w23 ⟨rfl, hB⟩
            obtain ⟨hm, hs⟩ := HM22.out.below hB
            clear hB
            have FB_24 := Hd.mk (FB_22.out.step hs)
            have Fb0_24 := Hd.mk (Fb0_22.out.step hs)
            have Fc0_24 := Hd.mk (Fc0_22.out.step hs)
            have Fc1_24 := Hd.mk (Fc1_22.out.step hs)
            have Fb1_24 := Hd.mk (Fb1_22.out.step hs)
            have Fc3_24 := Hd.mk (Fc3_22.out.step hs)
            have Fb2_24 := Hd.mk (FNb221.out.step hs)
            have HM24 := Hd.mk hm
            clear FB_22 Fb0_22 Fc0_22 Fc1_22 Fb1_22 Fc3_22 FNb221 HM22
            clear hs hm
            clear hqb0 hqb2
            go_wp2_with fail
            have HXM := x_marks HM24.out
            rw [HNM.out] at HXM
            refine HXM.mono ?_
            rintro e wq25 ⟨rfl, rfl⟩
            clear HXM
            go_wp2_with fail
            refine (x_changes HM24.out HC0.out).mono ?_
            rintro e w26 ⟨a26, c26, p26, rfl, hm, hf, hs⟩
            have FNc426 := Hd.mk hf
            clear hf
            have FB_27 := Hd.mk (FB_24.out.step hs)
            have Fb0_27 := Hd.mk (Fb0_24.out.step hs)
            have Fc0_27 := Hd.mk (Fc0_24.out.step hs)
            have Fc1_27 := Hd.mk (Fc1_24.out.step hs)
            have Fb1_27 := Hd.mk (Fb1_24.out.step hs)
            have Fc3_27 := Hd.mk (Fc3_24.out.step hs)
            have Fb2_27 := Hd.mk (Fb2_24.out.step hs)
            have HM27 := Hd.mk hm
            clear FB_24 Fb0_24 Fc0_24 Fc1_24 Fb1_24 Fc3_24 Fb2_24 HM24
            clear hs hm
            go_wp2_with fail
            refine (equalD_at (l := C0) (m := C0) (b := true) (decide_eq_true rfl) (OwnD.src FNc426.out.now) (OwnD.src Fc0_27.out.now)).mono ?_
            rintro e w28 ⟨rfl, hB⟩
            obtain ⟨hm, hs⟩ := HM27.out.below hB
            clear hB
            have FB_29 := Hd.mk (FB_27.out.step hs)
            have Fb0_29 := Hd.mk (Fb0_27.out.step hs)
            have Fc0_29 := Hd.mk (Fc0_27.out.step hs)
            have Fc1_29 := Hd.mk (Fc1_27.out.step hs)
            have Fb1_29 := Hd.mk (Fb1_27.out.step hs)
            have Fc3_29 := Hd.mk (Fc3_27.out.step hs)
            have Fb2_29 := Hd.mk (Fb2_27.out.step hs)
            have Fc4_29 := Hd.mk (FNc426.out.step hs)
            have HM29 := Hd.mk hm
            clear FB_27 Fb0_27 Fc0_27 Fc1_27 Fb1_27 Fc3_27 Fb2_27 FNc426 HM27
            clear hs hm
            go_wp2_with fail
            go_ret
            exact ⟨rfl, FB_29.out.now⟩
  · have hE : markE st = 5 := by unfold markE; rw [if_pos (by rw [HNM.out]; omega)]
    have hT : markS st = st := by unfold markS; rw [if_pos (by rw [HNM.out]; omega)]
    have i64 : (64 : Int) ≤ (nm : Int) := by omega
    have HC := y_mark HM7.out rfl hE hT
    generalize markN st = nv at HC
    clear hE hT h64
    go_wp2_with fail
    refine (HC).mono ?_
    rintro e w8 ⟨rfl, hm, hs⟩
    have FB_9 := Hd.mk (FB_7.out.step hs)
    have Fm_9 := Hd.mk (Fm_7.out.step hs)
    have Fb0_9 := Hd.mk (Fb0_7.out.step hs)
    have Fc0_9 := Hd.mk (FNc06.out.step hs)
    have HM9 := Hd.mk hm
    clear FB_7 Fm_7 Fb0_7 FNc06 HM7
    clear hs hm
    clear HC
    go_wp2_with fail
    go_ret
    exact ⟨rfl, FB_9.out.now⟩
end Go.Proofs.Ytnhkadknibinfaa
