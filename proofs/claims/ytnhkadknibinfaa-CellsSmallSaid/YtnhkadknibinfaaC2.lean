/- Made, and 'do'. -/
import Derived.Test.YtnhkadknibinfaaPL2
import Derived.Deep.DeepCutAuto
namespace Go.Proofs.Ytnhkadknibinfaa
open Go.RowKit
set_option linter.unusedVariables false


theorem made_any (w : World) : Calls Try.prog 11 #[] w fun e w' => ∃ M pr', e = .returned (.tuple #[.pointer (some ⟨M, 0, none⟩), .bool true]) ∧ MemAt w' pr' M ⟨[[0, 0], [0, 0, 0], [], [0, 0, 0, 0]], []⟩ ∧ (∀ k, k < w.heap.size → pr' k) ∧ Below w.heap.size w w' := by
  go_enter Try.func11, Try.ntmps11
  go_wp2_with fail
  obtain ⟨wl, hW⟩ : ∃ W, (w.alloc (.cells #[.int .i64 2, .int .i64 3, .int .i64 0, .int .i64 4] 3)) = W := ⟨_, rfl⟩
  have hX : Below w.heap.size w wl := by rw [← hW]; exact (Below.refl _ _).alloc (Nat.le_refl _) _
  have hS : SrcI wl (.slice (some ⟨w.heap.size, 0, none⟩) 4 4) [2, 3, 0, 4] := by
    rw [← hW]
    exact srcLitI44 w [2, 3, 0, 4] (by decide)
  rw [hW]
  clear hW
  refine (x_new (a := [[0, 0], [0, 0, 0], [], [0, 0, 0, 0]]) hS (by decide) (by decide)).mono ?_
  rintro e w1 ⟨M, p0, rfl, hm, hp, hB⟩
  have HM0 := Hd.mk hm
  have HP := Hd.mk (fun k (hk : k < w.heap.size) => hp k (Nat.lt_of_lt_of_le hk hX.size))
  have HB := Hd.mk (hX.trans (hB.mono hX.size))
  clear hm hp hB hX hS
  go_wp2_with fail
  refine bodyPost_ret (results_tmp2 Try.results11 _ _ _) rfl ?_
  exact ⟨M, p0, rfl, HM0.out, HP.out, HB.out⟩

theorem ldV_zero (a : List (List Int)) : True := trivial
set_option maxRecDepth 100000 in
set_option maxHeartbeats 2000000 in
theorem do_any {w : World} {pr : Nat → Prop} {M : Nat} {st : St} (h : MemAt w pr M st) (hs : shape st.now = S9) {v : Value} {cs : List Sm} (hl : Held pr w (fun W => SrcS W v cs)) (marks : Bool) (floor : Int) :
    Calls Try.prog 12 #[.pointer (some ⟨M, 0, none⟩), v, .bool marks, .int .i64 floor] w fun e w' => e = .returned (.bool true) ∧ MemAt w' pr M (doV marks floor st cs) ∧ Step pr w pr w' := by
  obtain ⟨a, c, rfl, hc1, hc2⟩ := hl.now.shape
  have HM := Hd.mk h
  have HL := Hd.mk hl
  have HSH : Hd (ShOk S9 st) := ⟨⟨h.ok, hs⟩⟩
  clear h hl hs
  by_cases h60 : cs.length ≤ 60
  · have HV : Hd (doV marks floor st cs = doK marks floor st cs cs.length) := ⟨by
      unfold doV doK
      rw [List.take_of_length_le h60, List.take_of_length_le (Nat.le_refl _)]⟩
    rw [HV.out]
    clear HV

    have hnl : cs.length ≤ cs.length := by omega
    have HNL := Hd.mk hnl
    clear hnl
    go_enter Try.func12, Try.ntmps12
    go_wp2_with fail
    try rw [show (max 60 0 : Int) = 60 from rfl]
    go_loopw [23] (fun i W => ∃ k : Nat, k ≤ cs.length ∧ i = .int .i64 k ∧ Hd (MemAt W pr M (doK marks floor st cs k)) ∧ Hd (Step pr w pr W)) (fun i _ => cs.length - (intOf i).toNat)
    case atStart => exact ⟨0, by omega, rfl, HM, ⟨Step.refl _ _⟩⟩
    case round =>
      obtain ⟨k, hk, rfl, HR, HST⟩ := hrel
      have HK := Hd.mk hk
      by_cases hlt : k < cs.length
      · have hkl : k < cs.length := Nat.lt_of_lt_of_le hlt HNL.out
        have HSC := Hd.mk (doK_succ marks floor st cs k hkl)
        have HSK := Hd.mk (doK_sh (marks := marks) (floor := floor) st cs k HSH.out)
        have HLW := Hd.mk (HL.out.step HST.out)
        obtain ⟨b, off, rfl, hb, ⟨hx0, hx1, hx2⟩, q0, q1, q2⟩ := HLW.out.now.at k hkl
        obtain ⟨x0, hx0e⟩ : ∃ x, cs[k].1 = x := ⟨_, rfl⟩
        obtain ⟨x1, hx1e⟩ : ∃ x, cs[k].2.1 = x := ⟨_, rfl⟩
        obtain ⟨x2, hx2e⟩ : ∃ x, cs[k].2.2 = x := ⟨_, rfl⟩
        obtain ⟨S, hS⟩ : ∃ S, doK marks floor st cs k = S := ⟨_, rfl⟩
        have HD : Hd (doK marks floor st cs (k + 1) = doS marks floor S (x0, x1, x2)) := ⟨by rw [HSC.out, hS, ← hx0e, ← hx1e, ← hx2e]⟩
        rw [hS] at HR HSK
        rw [hx0e] at q0 hx0
        rw [hx1e] at q1 hx1
        rw [hx2e] at q2 hx2
        clear hx0e hx1e hx2e hS HSC
        obtain ⟨k8, hk8⟩ : ∃ d, x0 % 8 = d := ⟨_, rfl⟩
        obtain ⟨c9, hc9⟩ : ∃ d, x1 % 9 = d := ⟨_, rfl⟩
        obtain ⟨v4, hv4⟩ : ∃ d, x2 % 4 = d := ⟨_, rfl⟩
        have r1 : Int.tmod (x0 : Int) 8 = (k8 : Int) := by rw [Int.tmod_eq_emod_of_nonneg (by omega)]; omega
        have r2 : (x0 : Int) % 8 = (k8 : Int) := by omega
        have r3 : Int.tmod (x1 : Int) 9 = (c9 : Int) := by rw [Int.tmod_eq_emod_of_nonneg (by omega)]; omega
        have r4 : (x1 : Int) % 9 = (c9 : Int) := by omega
        have r5 : Int.tmod (x2 : Int) 4 = (v4 : Int) := by rw [Int.tmod_eq_emod_of_nonneg (by omega)]; omega
        have r6 : (x2 : Int) % 4 = (v4 : Int) := by omega
        have r7 : k8 < 8 := by omega
        have r8 : c9 < 9 := by omega
        have r9 : v4 < 4 := by omega
        have w0 : IntKind.u8.wrap (k8 : Int) = (k8 : Int) := by unfold IntKind.wrap; simp [IntKind.bits]; omega
        have w1 : IntKind.i64.wrap (x1 : Int) = (x1 : Int) := IntWalk.i64_in _ ⟨by omega, by omega⟩
        have w2 : IntKind.i64.wrap (c9 : Int) = (c9 : Int) := IntWalk.i64_in _ ⟨by omega, by omega⟩
        have w3 : IntKind.u8.wrap (v4 : Int) = (v4 : Int) := by unfold IntKind.wrap; simp [IntKind.bits]; omega
        have w4 : IntKind.i64.wrap (v4 : Int) = (v4 : Int) := IntWalk.i64_in _ ⟨by omega, by omega⟩
        have HDX : Hd (doS marks floor S (x0, x1, x2) = if k8 < 5 ∨ marks = false then storeS S (owV c9) (ixV c9) (v4 : Int) else if k8 = 5 then markS S else if (S.marks.length : Int) ≤ floor then markS S else if k8 = 6 then backS S else keepS S) := ⟨by unfold doS; simp only [hk8, hc9, hv4]⟩
        clear hk8 hc9 hv4 HSH
        have i3 : (0 : Int) ≤ (k : Int) := by omega
        have i4 : (k : Int) < (cs.length : Int) := by omega
        have i5 : (k : Int) < (cs.length : Int) := by omega
        have HLT := Hd.mk hlt
        have HPW : Hd (Step pr wr pr (wr.alloc (.cells #[.int .u8 x0, .int .u8 x1, .int .u8 x2] 68)) ∧ MemAt (wr.alloc (.cells #[.int .u8 x0, .int .u8 x1, .int .u8 x2] 68)) pr M S) := ⟨by
          have hB := (Below.refl wr.heap.size wr).alloc (Nat.le_refl _) (.cells #[.int .u8 x0, .int .u8 x1, .int .u8 x2] 68)
          exact ⟨(HR.out.below hB).2, (HR.out.below hB).1⟩⟩
        have hbx := heap_alloc_new wr (.cells #[.int .u8 x0, .int .u8 x1, .int .u8 x2] 68)
        have e0 := cells_cell hbx 0
        have e1 := cells_cell hbx 1
        have e2 := cells_cell hbx 2
        simp only [List.getElem?_toArray, List.getElem?_cons_zero, List.getElem?_cons_succ] at e0 e1 e2
        clear hbx hkl hlt
        cases marks with
        | false =>
          by_cases h5 : k8 < 5
          · have t5 : (k8 : Int) < 5 := by omega
            have hcc : c9 < 2 ∨ (2 ≤ c9 ∧ c9 < 5) ∨ 5 ≤ c9 := by omega
            rcases hcc with hcc | hcc | hcc
            · have ho : owV c9 = 1 := by unfold owV; split <;> (try split) <;> omega
              have hi : ixV c9 = (c9 : Int) := by unfold ixV; split <;> (try split) <;> omega
              have hE : ldE S.now 1 (c9 : Int) = 0 := by have hq := ld_nine HSK.out.2 c9 r8; rw [ho, hi] at hq; exact hq
              have hT : storeS S 1 (c9 : Int) (v4 : Int) = doK false floor st cs (k + 1) := by rw [HD.out, HDX.out, if_pos (.inl h5), ho, hi]
              have HC := y_store HPW.out.2 (r := ldV S.now 1 (c9 : Int)) rfl hE hT
              have c0 : ¬ (5 : Int) ≤ (c9 : Int) := by omega
              have c1 : ¬ (2 : Int) ≤ (c9 : Int) := by omega
              generalize ldV S.now 1 (c9 : Int) = rv at HC
              clear hE hT ho hi HD HDX HSK
              go_wp2_with fail
              refine HC.mono ?_
              rintro e w5 ⟨rfl, hm, hst⟩
              have HM5 := Hd.mk hm
              have HS5 := Hd.mk (HST.out.trans (HPW.out.1.trans hst))
              clear hm hst HC
              go_wp2_with fail
              go_roundw
              case rel => exact ⟨k + 1, by have := HLT.out; omega, by go_num, ⟨HM5.out⟩, ⟨HS5.out⟩⟩
              case measure => have := HLT.out; simp [intOf]; omega
            · have ho : owV c9 = 2 := by unfold owV; split <;> (try split) <;> omega
              have hi : ixV c9 = ((c9 : Int) - 2) := by unfold ixV; split <;> (try split) <;> omega
              have hE : ldE S.now 2 ((c9 : Int) - 2) = 0 := by have hq := ld_nine HSK.out.2 c9 r8; rw [ho, hi] at hq; exact hq
              have hT : storeS S 2 ((c9 : Int) - 2) (v4 : Int) = doK false floor st cs (k + 1) := by rw [HD.out, HDX.out, if_pos (.inl h5), ho, hi]
              have HC := y_store HPW.out.2 (r := ldV S.now 2 ((c9 : Int) - 2)) rfl hE hT
              have c0 : ¬ (5 : Int) ≤ (c9 : Int) := by omega
              have c1 : (2 : Int) ≤ (c9 : Int) := by omega
              have c2 : IntKind.i64.wrap ((c9 : Int) - 2) = (c9 : Int) - 2 := IntWalk.i64_in _ ⟨by omega, by omega⟩
              generalize ldV S.now 2 ((c9 : Int) - 2) = rv at HC
              clear hE hT ho hi HD HDX HSK
              go_wp2_with fail
              refine HC.mono ?_
              rintro e w5 ⟨rfl, hm, hst⟩
              have HM5 := Hd.mk hm
              have HS5 := Hd.mk (HST.out.trans (HPW.out.1.trans hst))
              clear hm hst HC
              go_wp2_with fail
              go_roundw
              case rel => exact ⟨k + 1, by have := HLT.out; omega, by go_num, ⟨HM5.out⟩, ⟨HS5.out⟩⟩
              case measure => have := HLT.out; simp [intOf]; omega
            · have ho : owV c9 = 4 := by unfold owV; split <;> (try split) <;> omega
              have hi : ixV c9 = ((c9 : Int) - 5) := by unfold ixV; split <;> (try split) <;> omega
              have hE : ldE S.now 4 ((c9 : Int) - 5) = 0 := by have hq := ld_nine HSK.out.2 c9 r8; rw [ho, hi] at hq; exact hq
              have hT : storeS S 4 ((c9 : Int) - 5) (v4 : Int) = doK false floor st cs (k + 1) := by rw [HD.out, HDX.out, if_pos (.inl h5), ho, hi]
              have HC := y_store HPW.out.2 (r := ldV S.now 4 ((c9 : Int) - 5)) rfl hE hT
              have c0 : (5 : Int) ≤ (c9 : Int) := by omega
              have c2 : IntKind.i64.wrap ((c9 : Int) - 5) = (c9 : Int) - 5 := IntWalk.i64_in _ ⟨by omega, by omega⟩
              generalize ldV S.now 4 ((c9 : Int) - 5) = rv at HC
              clear hE hT ho hi HD HDX HSK
              go_wp2_with fail
              refine HC.mono ?_
              rintro e w5 ⟨rfl, hm, hst⟩
              have HM5 := Hd.mk hm
              have HS5 := Hd.mk (HST.out.trans (HPW.out.1.trans hst))
              clear hm hst HC
              go_wp2_with fail
              go_roundw
              case rel => exact ⟨k + 1, by have := HLT.out; omega, by go_num, ⟨HM5.out⟩, ⟨HS5.out⟩⟩
              case measure => have := HLT.out; simp [intOf]; omega
          · have t5 : ¬ (k8 : Int) < 5 := by omega
            have hcc : c9 < 2 ∨ (2 ≤ c9 ∧ c9 < 5) ∨ 5 ≤ c9 := by omega
            rcases hcc with hcc | hcc | hcc
            · have ho : owV c9 = 1 := by unfold owV; split <;> (try split) <;> omega
              have hi : ixV c9 = (c9 : Int) := by unfold ixV; split <;> (try split) <;> omega
              have hE : ldE S.now 1 (c9 : Int) = 0 := by have hq := ld_nine HSK.out.2 c9 r8; rw [ho, hi] at hq; exact hq
              have hT : storeS S 1 (c9 : Int) (v4 : Int) = doK false floor st cs (k + 1) := by rw [HD.out, HDX.out, if_pos (.inr rfl), ho, hi]
              have HC := y_store HPW.out.2 (r := ldV S.now 1 (c9 : Int)) rfl hE hT
              have c0 : ¬ (5 : Int) ≤ (c9 : Int) := by omega
              have c1 : ¬ (2 : Int) ≤ (c9 : Int) := by omega
              generalize ldV S.now 1 (c9 : Int) = rv at HC
              clear hE hT ho hi HD HDX HSK
              go_wp2_with fail
              refine HC.mono ?_
              rintro e w5 ⟨rfl, hm, hst⟩
              have HM5 := Hd.mk hm
              have HS5 := Hd.mk (HST.out.trans (HPW.out.1.trans hst))
              clear hm hst HC
              go_wp2_with fail
              go_roundw
              case rel => exact ⟨k + 1, by have := HLT.out; omega, by go_num, ⟨HM5.out⟩, ⟨HS5.out⟩⟩
              case measure => have := HLT.out; simp [intOf]; omega
            · have ho : owV c9 = 2 := by unfold owV; split <;> (try split) <;> omega
              have hi : ixV c9 = ((c9 : Int) - 2) := by unfold ixV; split <;> (try split) <;> omega
              have hE : ldE S.now 2 ((c9 : Int) - 2) = 0 := by have hq := ld_nine HSK.out.2 c9 r8; rw [ho, hi] at hq; exact hq
              have hT : storeS S 2 ((c9 : Int) - 2) (v4 : Int) = doK false floor st cs (k + 1) := by rw [HD.out, HDX.out, if_pos (.inr rfl), ho, hi]
              have HC := y_store HPW.out.2 (r := ldV S.now 2 ((c9 : Int) - 2)) rfl hE hT
              have c0 : ¬ (5 : Int) ≤ (c9 : Int) := by omega
              have c1 : (2 : Int) ≤ (c9 : Int) := by omega
              have c2 : IntKind.i64.wrap ((c9 : Int) - 2) = (c9 : Int) - 2 := IntWalk.i64_in _ ⟨by omega, by omega⟩
              generalize ldV S.now 2 ((c9 : Int) - 2) = rv at HC
              clear hE hT ho hi HD HDX HSK
              go_wp2_with fail
              refine HC.mono ?_
              rintro e w5 ⟨rfl, hm, hst⟩
              have HM5 := Hd.mk hm
              have HS5 := Hd.mk (HST.out.trans (HPW.out.1.trans hst))
              clear hm hst HC
              go_wp2_with fail
              go_roundw
              case rel => exact ⟨k + 1, by have := HLT.out; omega, by go_num, ⟨HM5.out⟩, ⟨HS5.out⟩⟩
              case measure => have := HLT.out; simp [intOf]; omega
            · have ho : owV c9 = 4 := by unfold owV; split <;> (try split) <;> omega
              have hi : ixV c9 = ((c9 : Int) - 5) := by unfold ixV; split <;> (try split) <;> omega
              have hE : ldE S.now 4 ((c9 : Int) - 5) = 0 := by have hq := ld_nine HSK.out.2 c9 r8; rw [ho, hi] at hq; exact hq
              have hT : storeS S 4 ((c9 : Int) - 5) (v4 : Int) = doK false floor st cs (k + 1) := by rw [HD.out, HDX.out, if_pos (.inr rfl), ho, hi]
              have HC := y_store HPW.out.2 (r := ldV S.now 4 ((c9 : Int) - 5)) rfl hE hT
              have c0 : (5 : Int) ≤ (c9 : Int) := by omega
              have c2 : IntKind.i64.wrap ((c9 : Int) - 5) = (c9 : Int) - 5 := IntWalk.i64_in _ ⟨by omega, by omega⟩
              generalize ldV S.now 4 ((c9 : Int) - 5) = rv at HC
              clear hE hT ho hi HD HDX HSK
              go_wp2_with fail
              refine HC.mono ?_
              rintro e w5 ⟨rfl, hm, hst⟩
              have HM5 := Hd.mk hm
              have HS5 := Hd.mk (HST.out.trans (HPW.out.1.trans hst))
              clear hm hst HC
              go_wp2_with fail
              go_roundw
              case rel => exact ⟨k + 1, by have := HLT.out; omega, by go_num, ⟨HM5.out⟩, ⟨HS5.out⟩⟩
              case measure => have := HLT.out; simp [intOf]; omega
        | true =>
          by_cases h5 : k8 < 5
          · have t5 : (k8 : Int) < 5 := by omega
            have hcc : c9 < 2 ∨ (2 ≤ c9 ∧ c9 < 5) ∨ 5 ≤ c9 := by omega
            rcases hcc with hcc | hcc | hcc
            · have ho : owV c9 = 1 := by unfold owV; split <;> (try split) <;> omega
              have hi : ixV c9 = (c9 : Int) := by unfold ixV; split <;> (try split) <;> omega
              have hE : ldE S.now 1 (c9 : Int) = 0 := by have hq := ld_nine HSK.out.2 c9 r8; rw [ho, hi] at hq; exact hq
              have hT : storeS S 1 (c9 : Int) (v4 : Int) = doK true floor st cs (k + 1) := by rw [HD.out, HDX.out, if_pos (.inl h5), ho, hi]
              have HC := y_store HPW.out.2 (r := ldV S.now 1 (c9 : Int)) rfl hE hT
              have c0 : ¬ (5 : Int) ≤ (c9 : Int) := by omega
              have c1 : ¬ (2 : Int) ≤ (c9 : Int) := by omega
              generalize ldV S.now 1 (c9 : Int) = rv at HC
              clear hE hT ho hi HD HDX HSK
              go_wp2_with fail
              refine HC.mono ?_
              rintro e w5 ⟨rfl, hm, hst⟩
              have HM5 := Hd.mk hm
              have HS5 := Hd.mk (HST.out.trans (HPW.out.1.trans hst))
              clear hm hst HC
              go_wp2_with fail
              go_roundw
              case rel => exact ⟨k + 1, by have := HLT.out; omega, by go_num, ⟨HM5.out⟩, ⟨HS5.out⟩⟩
              case measure => have := HLT.out; simp [intOf]; omega
            · have ho : owV c9 = 2 := by unfold owV; split <;> (try split) <;> omega
              have hi : ixV c9 = ((c9 : Int) - 2) := by unfold ixV; split <;> (try split) <;> omega
              have hE : ldE S.now 2 ((c9 : Int) - 2) = 0 := by have hq := ld_nine HSK.out.2 c9 r8; rw [ho, hi] at hq; exact hq
              have hT : storeS S 2 ((c9 : Int) - 2) (v4 : Int) = doK true floor st cs (k + 1) := by rw [HD.out, HDX.out, if_pos (.inl h5), ho, hi]
              have HC := y_store HPW.out.2 (r := ldV S.now 2 ((c9 : Int) - 2)) rfl hE hT
              have c0 : ¬ (5 : Int) ≤ (c9 : Int) := by omega
              have c1 : (2 : Int) ≤ (c9 : Int) := by omega
              have c2 : IntKind.i64.wrap ((c9 : Int) - 2) = (c9 : Int) - 2 := IntWalk.i64_in _ ⟨by omega, by omega⟩
              generalize ldV S.now 2 ((c9 : Int) - 2) = rv at HC
              clear hE hT ho hi HD HDX HSK
              go_wp2_with fail
              refine HC.mono ?_
              rintro e w5 ⟨rfl, hm, hst⟩
              have HM5 := Hd.mk hm
              have HS5 := Hd.mk (HST.out.trans (HPW.out.1.trans hst))
              clear hm hst HC
              go_wp2_with fail
              go_roundw
              case rel => exact ⟨k + 1, by have := HLT.out; omega, by go_num, ⟨HM5.out⟩, ⟨HS5.out⟩⟩
              case measure => have := HLT.out; simp [intOf]; omega
            · have ho : owV c9 = 4 := by unfold owV; split <;> (try split) <;> omega
              have hi : ixV c9 = ((c9 : Int) - 5) := by unfold ixV; split <;> (try split) <;> omega
              have hE : ldE S.now 4 ((c9 : Int) - 5) = 0 := by have hq := ld_nine HSK.out.2 c9 r8; rw [ho, hi] at hq; exact hq
              have hT : storeS S 4 ((c9 : Int) - 5) (v4 : Int) = doK true floor st cs (k + 1) := by rw [HD.out, HDX.out, if_pos (.inl h5), ho, hi]
              have HC := y_store HPW.out.2 (r := ldV S.now 4 ((c9 : Int) - 5)) rfl hE hT
              have c0 : (5 : Int) ≤ (c9 : Int) := by omega
              have c2 : IntKind.i64.wrap ((c9 : Int) - 5) = (c9 : Int) - 5 := IntWalk.i64_in _ ⟨by omega, by omega⟩
              generalize ldV S.now 4 ((c9 : Int) - 5) = rv at HC
              clear hE hT ho hi HD HDX HSK
              go_wp2_with fail
              refine HC.mono ?_
              rintro e w5 ⟨rfl, hm, hst⟩
              have HM5 := Hd.mk hm
              have HS5 := Hd.mk (HST.out.trans (HPW.out.1.trans hst))
              clear hm hst HC
              go_wp2_with fail
              go_roundw
              case rel => exact ⟨k + 1, by have := HLT.out; omega, by go_num, ⟨HM5.out⟩, ⟨HS5.out⟩⟩
              case measure => have := HLT.out; simp [intOf]; omega
          · have t5 : ¬ (k8 : Int) < 5 := by omega
            have hno : ¬ (k8 < 5 ∨ true = false) := fun h => h.elim h5 (fun e => by cases e)
            by_cases h6 : k8 = 5
            · have hT : markS S = doK true floor st cs (k + 1) := by rw [HD.out, HDX.out, if_neg hno, if_pos h6]
              have e5 : ((k8 : Int) == 5) = true := by simp; omega
              have e5b : (k8 : Int) = 5 := by omega
              have HC := x_mark HPW.out.2
              rw [hT] at HC
              generalize markN S = nv at HC
              generalize markE S = ev at HC
              clear HD HDX HSK hT hno h6
              go_wp2_with fail
              refine HC.mono ?_
              rintro e w5 ⟨rfl, hm, hst⟩
              have HM5 := Hd.mk hm
              have HS5 := Hd.mk (HST.out.trans (HPW.out.1.trans hst))
              clear hm hst HC
              go_wp2_with fail
              go_roundw
              case rel => exact ⟨k + 1, by have := HLT.out; omega, by go_num, ⟨HM5.out⟩, ⟨HS5.out⟩⟩
              case measure => have := HLT.out; simp [intOf]; omega
            · have e5 : ((k8 : Int) == 5) = false := by simp; omega
              have e5b : ¬ (k8 : Int) = 5 := by omega
              by_cases hf : (S.marks.length : Int) ≤ floor
              · have hT : markS S = doK true floor st cs (k + 1) := by rw [HD.out, HDX.out, if_neg hno, if_neg h6, if_pos hf]
                have HC := x_mark HPW.out.2
                rw [hT] at HC
                have HG := x_marks HPW.out.2
                generalize S.marks.length = lm at hf HG
                generalize markN S = nv at HC
                generalize markE S = ev at HC
                clear HD HDX HSK hT hno
                go_wp2_with fail
                refine HG.mono ?_
                rintro e w4 ⟨rfl, rfl⟩
                clear HG
                go_wp2_with fail
                refine HC.mono ?_
                rintro e w5 ⟨rfl, hm, hst⟩
                have HM5 := Hd.mk hm
                have HS5 := Hd.mk (HST.out.trans (HPW.out.1.trans hst))
                clear hm hst HC
                go_wp2_with fail
                go_roundw
                case rel => exact ⟨k + 1, by have := HLT.out; omega, by go_num, ⟨HM5.out⟩, ⟨HS5.out⟩⟩
                case measure => have := HLT.out; simp [intOf]; omega
              · by_cases h7 : k8 = 6
                · have hT : backS S = doK true floor st cs (k + 1) := by rw [HD.out, HDX.out, if_neg hno, if_neg h6, if_neg hf, if_pos h7]
                  have e6 : ((k8 : Int) == 6) = true := by simp; omega
                  have e6b : (k8 : Int) = 6 := by omega
                  clear h7
                  have HC := x_back HPW.out.2
                  rw [hT] at HC
                  have HG := x_marks HPW.out.2
                  generalize S.marks.length = lm at hf HG
                  generalize popN S = nv at HC
                  generalize popE S = ev at HC
                  clear HD HDX HSK hT hno
                  go_wp2_with fail
                  refine HG.mono ?_
                  rintro e w4 ⟨rfl, rfl⟩
                  clear HG
                  go_wp2_with fail
                  refine HC.mono ?_
                  rintro e w5 ⟨rfl, hm, hst⟩
                  have HM5 := Hd.mk hm
                  have HS5 := Hd.mk (HST.out.trans (HPW.out.1.trans hst))
                  clear hm hst HC
                  go_wp2_with fail
                  go_roundw
                  case rel => exact ⟨k + 1, by have := HLT.out; omega, by go_num, ⟨HM5.out⟩, ⟨HS5.out⟩⟩
                  case measure => have := HLT.out; simp [intOf]; omega
                · have hT : keepS S = doK true floor st cs (k + 1) := by rw [HD.out, HDX.out, if_neg hno, if_neg h6, if_neg hf, if_neg h7]
                  have e6 : ((k8 : Int) == 6) = false := by simp; omega
                  have e6b : ¬ (k8 : Int) = 6 := by omega
                  clear h7
                  have HC := x_keep HPW.out.2
                  rw [hT] at HC
                  have HG := x_marks HPW.out.2
                  generalize S.marks.length = lm at hf HG
                  generalize popN S = nv at HC
                  generalize popE S = ev at HC
                  clear HD HDX HSK hT hno
                  go_wp2_with fail
                  refine HG.mono ?_
                  rintro e w4 ⟨rfl, rfl⟩
                  clear HG
                  go_wp2_with fail
                  refine HC.mono ?_
                  rintro e w5 ⟨rfl, hm, hst⟩
                  have HM5 := Hd.mk hm
                  have HS5 := Hd.mk (HST.out.trans (HPW.out.1.trans hst))
                  clear hm hst HC
                  go_wp2_with fail
                  go_roundw
                  case rel => exact ⟨k + 1, by have := HLT.out; omega, by go_num, ⟨HM5.out⟩, ⟨HS5.out⟩⟩
                  case measure => have := HLT.out; simp [intOf]; omega
      · obtain rfl : k = cs.length := by omega
        go_wp2_with fail
        go_ret
        exact ⟨rfl, HR.out, HST.out⟩
  · have HV : Hd (doV marks floor st cs = doK marks floor st cs 60) := ⟨by
      unfold doV doK
      rfl⟩
    rw [HV.out]
    clear HV
    have h60b : 60 < cs.length := by omega
    have i1 : (60 : Int) ≤ (c : Int) := by omega
    have i2 : (60 : Int) ≤ (cs.length : Int) := by omega
    have hnl : 60 ≤ cs.length := by omega
    have HNL := Hd.mk hnl
    clear hnl
    go_enter Try.func12, Try.ntmps12
    go_wp2_with fail
    try rw [show (max 60 0 : Int) = 60 from rfl]
    go_loopw [23] (fun i W => ∃ k : Nat, k ≤ 60 ∧ i = .int .i64 k ∧ Hd (MemAt W pr M (doK marks floor st cs k)) ∧ Hd (Step pr w pr W)) (fun i _ => 60 - (intOf i).toNat)
    case atStart => exact ⟨0, by omega, rfl, HM, ⟨Step.refl _ _⟩⟩
    case round =>
      obtain ⟨k, hk, rfl, HR, HST⟩ := hrel
      have HK := Hd.mk hk
      by_cases hlt : k < 60
      · have hkl : k < cs.length := Nat.lt_of_lt_of_le hlt HNL.out
        have HSC := Hd.mk (doK_succ marks floor st cs k hkl)
        have HSK := Hd.mk (doK_sh (marks := marks) (floor := floor) st cs k HSH.out)
        have HLW := Hd.mk (HL.out.step HST.out)
        obtain ⟨b, off, rfl, hb, ⟨hx0, hx1, hx2⟩, q0, q1, q2⟩ := HLW.out.now.at k hkl
        obtain ⟨x0, hx0e⟩ : ∃ x, cs[k].1 = x := ⟨_, rfl⟩
        obtain ⟨x1, hx1e⟩ : ∃ x, cs[k].2.1 = x := ⟨_, rfl⟩
        obtain ⟨x2, hx2e⟩ : ∃ x, cs[k].2.2 = x := ⟨_, rfl⟩
        obtain ⟨S, hS⟩ : ∃ S, doK marks floor st cs k = S := ⟨_, rfl⟩
        have HD : Hd (doK marks floor st cs (k + 1) = doS marks floor S (x0, x1, x2)) := ⟨by rw [HSC.out, hS, ← hx0e, ← hx1e, ← hx2e]⟩
        rw [hS] at HR HSK
        rw [hx0e] at q0 hx0
        rw [hx1e] at q1 hx1
        rw [hx2e] at q2 hx2
        clear hx0e hx1e hx2e hS HSC
        obtain ⟨k8, hk8⟩ : ∃ d, x0 % 8 = d := ⟨_, rfl⟩
        obtain ⟨c9, hc9⟩ : ∃ d, x1 % 9 = d := ⟨_, rfl⟩
        obtain ⟨v4, hv4⟩ : ∃ d, x2 % 4 = d := ⟨_, rfl⟩
        have r1 : Int.tmod (x0 : Int) 8 = (k8 : Int) := by rw [Int.tmod_eq_emod_of_nonneg (by omega)]; omega
        have r2 : (x0 : Int) % 8 = (k8 : Int) := by omega
        have r3 : Int.tmod (x1 : Int) 9 = (c9 : Int) := by rw [Int.tmod_eq_emod_of_nonneg (by omega)]; omega
        have r4 : (x1 : Int) % 9 = (c9 : Int) := by omega
        have r5 : Int.tmod (x2 : Int) 4 = (v4 : Int) := by rw [Int.tmod_eq_emod_of_nonneg (by omega)]; omega
        have r6 : (x2 : Int) % 4 = (v4 : Int) := by omega
        have r7 : k8 < 8 := by omega
        have r8 : c9 < 9 := by omega
        have r9 : v4 < 4 := by omega
        have w0 : IntKind.u8.wrap (k8 : Int) = (k8 : Int) := by unfold IntKind.wrap; simp [IntKind.bits]; omega
        have w1 : IntKind.i64.wrap (x1 : Int) = (x1 : Int) := IntWalk.i64_in _ ⟨by omega, by omega⟩
        have w2 : IntKind.i64.wrap (c9 : Int) = (c9 : Int) := IntWalk.i64_in _ ⟨by omega, by omega⟩
        have w3 : IntKind.u8.wrap (v4 : Int) = (v4 : Int) := by unfold IntKind.wrap; simp [IntKind.bits]; omega
        have w4 : IntKind.i64.wrap (v4 : Int) = (v4 : Int) := IntWalk.i64_in _ ⟨by omega, by omega⟩
        have HDX : Hd (doS marks floor S (x0, x1, x2) = if k8 < 5 ∨ marks = false then storeS S (owV c9) (ixV c9) (v4 : Int) else if k8 = 5 then markS S else if (S.marks.length : Int) ≤ floor then markS S else if k8 = 6 then backS S else keepS S) := ⟨by unfold doS; simp only [hk8, hc9, hv4]⟩
        clear hk8 hc9 hv4 HSH
        have i3 : (0 : Int) ≤ (k : Int) := by omega
        have i4 : (k : Int) < 60 := by omega
        have i5 : (k : Int) < (cs.length : Int) := by omega
        have HLT := Hd.mk hlt
        have HPW : Hd (Step pr wr pr (wr.alloc (.cells #[.int .u8 x0, .int .u8 x1, .int .u8 x2] 68)) ∧ MemAt (wr.alloc (.cells #[.int .u8 x0, .int .u8 x1, .int .u8 x2] 68)) pr M S) := ⟨by
          have hB := (Below.refl wr.heap.size wr).alloc (Nat.le_refl _) (.cells #[.int .u8 x0, .int .u8 x1, .int .u8 x2] 68)
          exact ⟨(HR.out.below hB).2, (HR.out.below hB).1⟩⟩
        have hbx := heap_alloc_new wr (.cells #[.int .u8 x0, .int .u8 x1, .int .u8 x2] 68)
        have e0 := cells_cell hbx 0
        have e1 := cells_cell hbx 1
        have e2 := cells_cell hbx 2
        simp only [List.getElem?_toArray, List.getElem?_cons_zero, List.getElem?_cons_succ] at e0 e1 e2
        clear hbx hkl hlt
        cases marks with
        | false =>
          by_cases h5 : k8 < 5
          · have t5 : (k8 : Int) < 5 := by omega
            have hcc : c9 < 2 ∨ (2 ≤ c9 ∧ c9 < 5) ∨ 5 ≤ c9 := by omega
            rcases hcc with hcc | hcc | hcc
            · have ho : owV c9 = 1 := by unfold owV; split <;> (try split) <;> omega
              have hi : ixV c9 = (c9 : Int) := by unfold ixV; split <;> (try split) <;> omega
              have hE : ldE S.now 1 (c9 : Int) = 0 := by have hq := ld_nine HSK.out.2 c9 r8; rw [ho, hi] at hq; exact hq
              have hT : storeS S 1 (c9 : Int) (v4 : Int) = doK false floor st cs (k + 1) := by rw [HD.out, HDX.out, if_pos (.inl h5), ho, hi]
              have HC := y_store HPW.out.2 (r := ldV S.now 1 (c9 : Int)) rfl hE hT
              have c0 : ¬ (5 : Int) ≤ (c9 : Int) := by omega
              have c1 : ¬ (2 : Int) ≤ (c9 : Int) := by omega
              generalize ldV S.now 1 (c9 : Int) = rv at HC
              clear hE hT ho hi HD HDX HSK
              go_wp2_with fail
              refine HC.mono ?_
              rintro e w5 ⟨rfl, hm, hst⟩
              have HM5 := Hd.mk hm
              have HS5 := Hd.mk (HST.out.trans (HPW.out.1.trans hst))
              clear hm hst HC
              go_wp2_with fail
              go_roundw
              case rel => exact ⟨k + 1, by have := HLT.out; omega, by go_num, ⟨HM5.out⟩, ⟨HS5.out⟩⟩
              case measure => have := HLT.out; simp [intOf]; omega
            · have ho : owV c9 = 2 := by unfold owV; split <;> (try split) <;> omega
              have hi : ixV c9 = ((c9 : Int) - 2) := by unfold ixV; split <;> (try split) <;> omega
              have hE : ldE S.now 2 ((c9 : Int) - 2) = 0 := by have hq := ld_nine HSK.out.2 c9 r8; rw [ho, hi] at hq; exact hq
              have hT : storeS S 2 ((c9 : Int) - 2) (v4 : Int) = doK false floor st cs (k + 1) := by rw [HD.out, HDX.out, if_pos (.inl h5), ho, hi]
              have HC := y_store HPW.out.2 (r := ldV S.now 2 ((c9 : Int) - 2)) rfl hE hT
              have c0 : ¬ (5 : Int) ≤ (c9 : Int) := by omega
              have c1 : (2 : Int) ≤ (c9 : Int) := by omega
              have c2 : IntKind.i64.wrap ((c9 : Int) - 2) = (c9 : Int) - 2 := IntWalk.i64_in _ ⟨by omega, by omega⟩
              generalize ldV S.now 2 ((c9 : Int) - 2) = rv at HC
              clear hE hT ho hi HD HDX HSK
              go_wp2_with fail
              refine HC.mono ?_
              rintro e w5 ⟨rfl, hm, hst⟩
              have HM5 := Hd.mk hm
              have HS5 := Hd.mk (HST.out.trans (HPW.out.1.trans hst))
              clear hm hst HC
              go_wp2_with fail
              go_roundw
              case rel => exact ⟨k + 1, by have := HLT.out; omega, by go_num, ⟨HM5.out⟩, ⟨HS5.out⟩⟩
              case measure => have := HLT.out; simp [intOf]; omega
            · have ho : owV c9 = 4 := by unfold owV; split <;> (try split) <;> omega
              have hi : ixV c9 = ((c9 : Int) - 5) := by unfold ixV; split <;> (try split) <;> omega
              have hE : ldE S.now 4 ((c9 : Int) - 5) = 0 := by have hq := ld_nine HSK.out.2 c9 r8; rw [ho, hi] at hq; exact hq
              have hT : storeS S 4 ((c9 : Int) - 5) (v4 : Int) = doK false floor st cs (k + 1) := by rw [HD.out, HDX.out, if_pos (.inl h5), ho, hi]
              have HC := y_store HPW.out.2 (r := ldV S.now 4 ((c9 : Int) - 5)) rfl hE hT
              have c0 : (5 : Int) ≤ (c9 : Int) := by omega
              have c2 : IntKind.i64.wrap ((c9 : Int) - 5) = (c9 : Int) - 5 := IntWalk.i64_in _ ⟨by omega, by omega⟩
              generalize ldV S.now 4 ((c9 : Int) - 5) = rv at HC
              clear hE hT ho hi HD HDX HSK
              go_wp2_with fail
              refine HC.mono ?_
              rintro e w5 ⟨rfl, hm, hst⟩
              have HM5 := Hd.mk hm
              have HS5 := Hd.mk (HST.out.trans (HPW.out.1.trans hst))
              clear hm hst HC
              go_wp2_with fail
              go_roundw
              case rel => exact ⟨k + 1, by have := HLT.out; omega, by go_num, ⟨HM5.out⟩, ⟨HS5.out⟩⟩
              case measure => have := HLT.out; simp [intOf]; omega
          · have t5 : ¬ (k8 : Int) < 5 := by omega
            have hcc : c9 < 2 ∨ (2 ≤ c9 ∧ c9 < 5) ∨ 5 ≤ c9 := by omega
            rcases hcc with hcc | hcc | hcc
            · have ho : owV c9 = 1 := by unfold owV; split <;> (try split) <;> omega
              have hi : ixV c9 = (c9 : Int) := by unfold ixV; split <;> (try split) <;> omega
              have hE : ldE S.now 1 (c9 : Int) = 0 := by have hq := ld_nine HSK.out.2 c9 r8; rw [ho, hi] at hq; exact hq
              have hT : storeS S 1 (c9 : Int) (v4 : Int) = doK false floor st cs (k + 1) := by rw [HD.out, HDX.out, if_pos (.inr rfl), ho, hi]
              have HC := y_store HPW.out.2 (r := ldV S.now 1 (c9 : Int)) rfl hE hT
              have c0 : ¬ (5 : Int) ≤ (c9 : Int) := by omega
              have c1 : ¬ (2 : Int) ≤ (c9 : Int) := by omega
              generalize ldV S.now 1 (c9 : Int) = rv at HC
              clear hE hT ho hi HD HDX HSK
              go_wp2_with fail
              refine HC.mono ?_
              rintro e w5 ⟨rfl, hm, hst⟩
              have HM5 := Hd.mk hm
              have HS5 := Hd.mk (HST.out.trans (HPW.out.1.trans hst))
              clear hm hst HC
              go_wp2_with fail
              go_roundw
              case rel => exact ⟨k + 1, by have := HLT.out; omega, by go_num, ⟨HM5.out⟩, ⟨HS5.out⟩⟩
              case measure => have := HLT.out; simp [intOf]; omega
            · have ho : owV c9 = 2 := by unfold owV; split <;> (try split) <;> omega
              have hi : ixV c9 = ((c9 : Int) - 2) := by unfold ixV; split <;> (try split) <;> omega
              have hE : ldE S.now 2 ((c9 : Int) - 2) = 0 := by have hq := ld_nine HSK.out.2 c9 r8; rw [ho, hi] at hq; exact hq
              have hT : storeS S 2 ((c9 : Int) - 2) (v4 : Int) = doK false floor st cs (k + 1) := by rw [HD.out, HDX.out, if_pos (.inr rfl), ho, hi]
              have HC := y_store HPW.out.2 (r := ldV S.now 2 ((c9 : Int) - 2)) rfl hE hT
              have c0 : ¬ (5 : Int) ≤ (c9 : Int) := by omega
              have c1 : (2 : Int) ≤ (c9 : Int) := by omega
              have c2 : IntKind.i64.wrap ((c9 : Int) - 2) = (c9 : Int) - 2 := IntWalk.i64_in _ ⟨by omega, by omega⟩
              generalize ldV S.now 2 ((c9 : Int) - 2) = rv at HC
              clear hE hT ho hi HD HDX HSK
              go_wp2_with fail
              refine HC.mono ?_
              rintro e w5 ⟨rfl, hm, hst⟩
              have HM5 := Hd.mk hm
              have HS5 := Hd.mk (HST.out.trans (HPW.out.1.trans hst))
              clear hm hst HC
              go_wp2_with fail
              go_roundw
              case rel => exact ⟨k + 1, by have := HLT.out; omega, by go_num, ⟨HM5.out⟩, ⟨HS5.out⟩⟩
              case measure => have := HLT.out; simp [intOf]; omega
            · have ho : owV c9 = 4 := by unfold owV; split <;> (try split) <;> omega
              have hi : ixV c9 = ((c9 : Int) - 5) := by unfold ixV; split <;> (try split) <;> omega
              have hE : ldE S.now 4 ((c9 : Int) - 5) = 0 := by have hq := ld_nine HSK.out.2 c9 r8; rw [ho, hi] at hq; exact hq
              have hT : storeS S 4 ((c9 : Int) - 5) (v4 : Int) = doK false floor st cs (k + 1) := by rw [HD.out, HDX.out, if_pos (.inr rfl), ho, hi]
              have HC := y_store HPW.out.2 (r := ldV S.now 4 ((c9 : Int) - 5)) rfl hE hT
              have c0 : (5 : Int) ≤ (c9 : Int) := by omega
              have c2 : IntKind.i64.wrap ((c9 : Int) - 5) = (c9 : Int) - 5 := IntWalk.i64_in _ ⟨by omega, by omega⟩
              generalize ldV S.now 4 ((c9 : Int) - 5) = rv at HC
              clear hE hT ho hi HD HDX HSK
              go_wp2_with fail
              refine HC.mono ?_
              rintro e w5 ⟨rfl, hm, hst⟩
              have HM5 := Hd.mk hm
              have HS5 := Hd.mk (HST.out.trans (HPW.out.1.trans hst))
              clear hm hst HC
              go_wp2_with fail
              go_roundw
              case rel => exact ⟨k + 1, by have := HLT.out; omega, by go_num, ⟨HM5.out⟩, ⟨HS5.out⟩⟩
              case measure => have := HLT.out; simp [intOf]; omega
        | true =>
          by_cases h5 : k8 < 5
          · have t5 : (k8 : Int) < 5 := by omega
            have hcc : c9 < 2 ∨ (2 ≤ c9 ∧ c9 < 5) ∨ 5 ≤ c9 := by omega
            rcases hcc with hcc | hcc | hcc
            · have ho : owV c9 = 1 := by unfold owV; split <;> (try split) <;> omega
              have hi : ixV c9 = (c9 : Int) := by unfold ixV; split <;> (try split) <;> omega
              have hE : ldE S.now 1 (c9 : Int) = 0 := by have hq := ld_nine HSK.out.2 c9 r8; rw [ho, hi] at hq; exact hq
              have hT : storeS S 1 (c9 : Int) (v4 : Int) = doK true floor st cs (k + 1) := by rw [HD.out, HDX.out, if_pos (.inl h5), ho, hi]
              have HC := y_store HPW.out.2 (r := ldV S.now 1 (c9 : Int)) rfl hE hT
              have c0 : ¬ (5 : Int) ≤ (c9 : Int) := by omega
              have c1 : ¬ (2 : Int) ≤ (c9 : Int) := by omega
              generalize ldV S.now 1 (c9 : Int) = rv at HC
              clear hE hT ho hi HD HDX HSK
              go_wp2_with fail
              refine HC.mono ?_
              rintro e w5 ⟨rfl, hm, hst⟩
              have HM5 := Hd.mk hm
              have HS5 := Hd.mk (HST.out.trans (HPW.out.1.trans hst))
              clear hm hst HC
              go_wp2_with fail
              go_roundw
              case rel => exact ⟨k + 1, by have := HLT.out; omega, by go_num, ⟨HM5.out⟩, ⟨HS5.out⟩⟩
              case measure => have := HLT.out; simp [intOf]; omega
            · have ho : owV c9 = 2 := by unfold owV; split <;> (try split) <;> omega
              have hi : ixV c9 = ((c9 : Int) - 2) := by unfold ixV; split <;> (try split) <;> omega
              have hE : ldE S.now 2 ((c9 : Int) - 2) = 0 := by have hq := ld_nine HSK.out.2 c9 r8; rw [ho, hi] at hq; exact hq
              have hT : storeS S 2 ((c9 : Int) - 2) (v4 : Int) = doK true floor st cs (k + 1) := by rw [HD.out, HDX.out, if_pos (.inl h5), ho, hi]
              have HC := y_store HPW.out.2 (r := ldV S.now 2 ((c9 : Int) - 2)) rfl hE hT
              have c0 : ¬ (5 : Int) ≤ (c9 : Int) := by omega
              have c1 : (2 : Int) ≤ (c9 : Int) := by omega
              have c2 : IntKind.i64.wrap ((c9 : Int) - 2) = (c9 : Int) - 2 := IntWalk.i64_in _ ⟨by omega, by omega⟩
              generalize ldV S.now 2 ((c9 : Int) - 2) = rv at HC
              clear hE hT ho hi HD HDX HSK
              go_wp2_with fail
              refine HC.mono ?_
              rintro e w5 ⟨rfl, hm, hst⟩
              have HM5 := Hd.mk hm
              have HS5 := Hd.mk (HST.out.trans (HPW.out.1.trans hst))
              clear hm hst HC
              go_wp2_with fail
              go_roundw
              case rel => exact ⟨k + 1, by have := HLT.out; omega, by go_num, ⟨HM5.out⟩, ⟨HS5.out⟩⟩
              case measure => have := HLT.out; simp [intOf]; omega
            · have ho : owV c9 = 4 := by unfold owV; split <;> (try split) <;> omega
              have hi : ixV c9 = ((c9 : Int) - 5) := by unfold ixV; split <;> (try split) <;> omega
              have hE : ldE S.now 4 ((c9 : Int) - 5) = 0 := by have hq := ld_nine HSK.out.2 c9 r8; rw [ho, hi] at hq; exact hq
              have hT : storeS S 4 ((c9 : Int) - 5) (v4 : Int) = doK true floor st cs (k + 1) := by rw [HD.out, HDX.out, if_pos (.inl h5), ho, hi]
              have HC := y_store HPW.out.2 (r := ldV S.now 4 ((c9 : Int) - 5)) rfl hE hT
              have c0 : (5 : Int) ≤ (c9 : Int) := by omega
              have c2 : IntKind.i64.wrap ((c9 : Int) - 5) = (c9 : Int) - 5 := IntWalk.i64_in _ ⟨by omega, by omega⟩
              generalize ldV S.now 4 ((c9 : Int) - 5) = rv at HC
              clear hE hT ho hi HD HDX HSK
              go_wp2_with fail
              refine HC.mono ?_
              rintro e w5 ⟨rfl, hm, hst⟩
              have HM5 := Hd.mk hm
              have HS5 := Hd.mk (HST.out.trans (HPW.out.1.trans hst))
              clear hm hst HC
              go_wp2_with fail
              go_roundw
              case rel => exact ⟨k + 1, by have := HLT.out; omega, by go_num, ⟨HM5.out⟩, ⟨HS5.out⟩⟩
              case measure => have := HLT.out; simp [intOf]; omega
          · have t5 : ¬ (k8 : Int) < 5 := by omega
            have hno : ¬ (k8 < 5 ∨ true = false) := fun h => h.elim h5 (fun e => by cases e)
            by_cases h6 : k8 = 5
            · have hT : markS S = doK true floor st cs (k + 1) := by rw [HD.out, HDX.out, if_neg hno, if_pos h6]
              have e5 : ((k8 : Int) == 5) = true := by simp; omega
              have e5b : (k8 : Int) = 5 := by omega
              have HC := x_mark HPW.out.2
              rw [hT] at HC
              generalize markN S = nv at HC
              generalize markE S = ev at HC
              clear HD HDX HSK hT hno h6
              go_wp2_with fail
              refine HC.mono ?_
              rintro e w5 ⟨rfl, hm, hst⟩
              have HM5 := Hd.mk hm
              have HS5 := Hd.mk (HST.out.trans (HPW.out.1.trans hst))
              clear hm hst HC
              go_wp2_with fail
              go_roundw
              case rel => exact ⟨k + 1, by have := HLT.out; omega, by go_num, ⟨HM5.out⟩, ⟨HS5.out⟩⟩
              case measure => have := HLT.out; simp [intOf]; omega
            · have e5 : ((k8 : Int) == 5) = false := by simp; omega
              have e5b : ¬ (k8 : Int) = 5 := by omega
              by_cases hf : (S.marks.length : Int) ≤ floor
              · have hT : markS S = doK true floor st cs (k + 1) := by rw [HD.out, HDX.out, if_neg hno, if_neg h6, if_pos hf]
                have HC := x_mark HPW.out.2
                rw [hT] at HC
                have HG := x_marks HPW.out.2
                generalize S.marks.length = lm at hf HG
                generalize markN S = nv at HC
                generalize markE S = ev at HC
                clear HD HDX HSK hT hno
                go_wp2_with fail
                refine HG.mono ?_
                rintro e w4 ⟨rfl, rfl⟩
                clear HG
                go_wp2_with fail
                refine HC.mono ?_
                rintro e w5 ⟨rfl, hm, hst⟩
                have HM5 := Hd.mk hm
                have HS5 := Hd.mk (HST.out.trans (HPW.out.1.trans hst))
                clear hm hst HC
                go_wp2_with fail
                go_roundw
                case rel => exact ⟨k + 1, by have := HLT.out; omega, by go_num, ⟨HM5.out⟩, ⟨HS5.out⟩⟩
                case measure => have := HLT.out; simp [intOf]; omega
              · by_cases h7 : k8 = 6
                · have hT : backS S = doK true floor st cs (k + 1) := by rw [HD.out, HDX.out, if_neg hno, if_neg h6, if_neg hf, if_pos h7]
                  have e6 : ((k8 : Int) == 6) = true := by simp; omega
                  have e6b : (k8 : Int) = 6 := by omega
                  clear h7
                  have HC := x_back HPW.out.2
                  rw [hT] at HC
                  have HG := x_marks HPW.out.2
                  generalize S.marks.length = lm at hf HG
                  generalize popN S = nv at HC
                  generalize popE S = ev at HC
                  clear HD HDX HSK hT hno
                  go_wp2_with fail
                  refine HG.mono ?_
                  rintro e w4 ⟨rfl, rfl⟩
                  clear HG
                  go_wp2_with fail
                  refine HC.mono ?_
                  rintro e w5 ⟨rfl, hm, hst⟩
                  have HM5 := Hd.mk hm
                  have HS5 := Hd.mk (HST.out.trans (HPW.out.1.trans hst))
                  clear hm hst HC
                  go_wp2_with fail
                  go_roundw
                  case rel => exact ⟨k + 1, by have := HLT.out; omega, by go_num, ⟨HM5.out⟩, ⟨HS5.out⟩⟩
                  case measure => have := HLT.out; simp [intOf]; omega
                · have hT : keepS S = doK true floor st cs (k + 1) := by rw [HD.out, HDX.out, if_neg hno, if_neg h6, if_neg hf, if_neg h7]
                  have e6 : ((k8 : Int) == 6) = false := by simp; omega
                  have e6b : ¬ (k8 : Int) = 6 := by omega
                  clear h7
                  have HC := x_keep HPW.out.2
                  rw [hT] at HC
                  have HG := x_marks HPW.out.2
                  generalize S.marks.length = lm at hf HG
                  generalize popN S = nv at HC
                  generalize popE S = ev at HC
                  clear HD HDX HSK hT hno
                  go_wp2_with fail
                  refine HG.mono ?_
                  rintro e w4 ⟨rfl, rfl⟩
                  clear HG
                  go_wp2_with fail
                  refine HC.mono ?_
                  rintro e w5 ⟨rfl, hm, hst⟩
                  have HM5 := Hd.mk hm
                  have HS5 := Hd.mk (HST.out.trans (HPW.out.1.trans hst))
                  clear hm hst HC
                  go_wp2_with fail
                  go_roundw
                  case rel => exact ⟨k + 1, by have := HLT.out; omega, by go_num, ⟨HM5.out⟩, ⟨HS5.out⟩⟩
                  case measure => have := HLT.out; simp [intOf]; omega
      · obtain rfl : k = 60 := by omega
        go_wp2_with fail
        go_ret
        exact ⟨rfl, HR.out, HST.out⟩


end Go.Proofs.Ytnhkadknibinfaa
