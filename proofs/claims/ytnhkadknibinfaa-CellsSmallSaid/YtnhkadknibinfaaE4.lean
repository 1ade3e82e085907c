/- Two memories beside each other; the law CellsCopies: its walk. -/
import Derived.Test.YtnhkadknibinfaaE3
import Derived.Deep.DeepCutAuto
import Derived.Lib.MinMax
namespace Go.Proofs.Ytnhkadknibinfaa
open Go.RowKit
set_option linter.unusedVariables false


/-- The blocks of a memory. -/
def Foot (y : Lay) (M : Nat) (st : St) (k : Nat) : Prop :=
  k = M ∨ (∃ d, y.ca = some d ∧ d.block = k) ∨ (∃ d, y.ka = some d ∧ d.block = k) ∨ (∃ i, ∃ hi : i < st.now.length, 0 < st.now[i].length ∧ y.ra i = some ⟨k, 0, none⟩) ∨ (∃ j, j < st.marks.length ∧ y.mb j = k)
theorem MemL.foot {y : Lay} {w : World} {pr : Nat → Prop} {M : Nat} {st : St} (h : MemL y w pr M st) : ∀ k, Foot y M st k → ¬ pr k ∧ k < w.heap.size := by
  rintro k (rfl | ⟨d, hd, rfl⟩ | ⟨d, hd, rfl⟩ | ⟨i, hi, h0, hr⟩ | ⟨j, hj, rfl⟩)
  · exact ⟨h.pM, lt_of_heap h.bM⟩
  · exact ⟨h.rows.ownP d hd, OwnE.block h.rows.own (by rw [hd]; rfl)⟩
  · exact ⟨h.marks.ownP d hd, OwnE.block h.marks.own (by rw [hd]; rfl)⟩
  · obtain ⟨g, cur, q1, q2, q3, _⟩ := h.rows.row i hi h0
    rw [hr] at q1; cases q1
    exact ⟨q2, lt_of_heap q3⟩
  · obtain ⟨hp, L, hL, _⟩ := h.marks.maps j hj
    exact ⟨hp, hL.lt⟩
/-- A memory stands where its blocks stand, beside whatever is none of them. -/
theorem MemL.frame {y : Lay} {w w' : World} {pr pr' : Nat → Prop} {M : Nat} {st : St} (h : MemL y w pr M st) (hk : ∀ k, Foot y M st k → w'.heap[k]? = w.heap[k]?) (hp : ∀ k, pr' k → k < w'.heap.size) (hf : ∀ k, Foot y M st k → ¬ pr' k) : MemL y w' pr' M st := by
  refine ⟨h.ok, hp, (hk M (.inl rfl)).trans h.bM, hf M (.inl rfl), ⟨?_, fun d hd => hf _ (.inr (.inl ⟨d, hd, rfl⟩)), ?_, h.rows.apart, h.rows.caps⟩, ⟨?_, fun d hd => hf _ (.inr (.inr (.inl ⟨d, hd, rfl⟩))), ?_, h.marks.apart⟩⟩
  · refine h.rows.own.same fun g cur fr hg hv => hk g (.inr (.inl ?_))
    cases hc : y.ca with
    | none => rw [hc] at hv; cases hv
    | some d => rw [hc] at hv; simp [Value.ownBlock] at hv; exact ⟨d, rfl, hv⟩
  · intro i hi h0
    obtain ⟨g, cur, q1, q2, q3, q4⟩ := h.rows.row i hi h0
    have hF : Foot y M st g := .inr (.inr (.inr (.inl ⟨i, hi, h0, q1⟩)))
    exact ⟨g, cur, q1, hf g hF, (hk g hF).trans q3, q4⟩
  · refine h.marks.own.same fun g cur fr hg hv => hk g (.inr (.inr (.inl ?_)))
    cases hc : y.ka with
    | none => rw [hc] at hv; cases hv
    | some d => rw [hc] at hv; simp [Value.ownBlock] at hv; exact ⟨d, rfl, hv⟩
  · intro j hj
    obtain ⟨hp', L, hL, hd⟩ := h.marks.maps j hj
    have hF : Foot y M st (y.mb j) := .inr (.inr (.inr (.inr ⟨j, hj, rfl⟩)))
    exact ⟨hf _ hF, L, hL.same (hk _ hF), hd⟩
def noPr : Nat → Prop := fun _ => False
theorem MemL.held {y : Lay} {w : World} {pr pr0 : Nat → Prop} {M : Nat} {st : St} (h : MemL y w pr0 M st) (hF : ∀ k, Foot y M st k → pr k) : Held pr w (fun W => MemL y W noPr M st) :=
  fun W hW => h.frame (fun k hk => hW.block k (hF k hk)) (fun k hk => hk.elim) (fun k _ hk => hk)
theorem MemL.max {y : Lay} {w : World} {pr : Nat → Prop} {M : Nat} {st : St} (h : MemL y w pr M st) : MemL y w (fun k => k < w.heap.size ∧ ¬ Foot y M st k) M st :=
  h.frame (fun _ _ => rfl) (fun k hk => hk.1) (fun k hk hp => hp.2 hk)
def Within (pr F : Nat → Prop) : Prop := ∀ k, F k → pr k
theorem Within.step {pr pr' F : Nat → Prop} {w w' : World} (h : Within pr F) (s : Step pr w pr' w') : Within pr' F := fun k hk => s.more k (h k hk)

section
variable {w : World} {pr : Nat → Prop} {C M : Nat} {sc st : St} {y : Lay}
/-- The other memory told, beside the one that is carried. -/
theorem z_all (hc : MemAt w pr C sc) (h : MemL y w noPr M st) {l : List Int} (hl : st.now.flatten = l) (h9 : l.length = 9) : Calls Try.prog 13 #[.pointer (some ⟨M, 0, none⟩)] w fun e w' =>
    ∃ g c pr', e = .returned (.slice (some ⟨g, 0, none⟩) 9 c) ∧ MemAt w' pr' C sc ∧ Held pr' w' (fun W => AppI 2 W w.heap.size (.slice (some ⟨g, 0, none⟩) 9 c) l) ∧ Step pr w pr' w' := by
  subst hl
  refine (all_any h).mono ?_
  rintro e w' ⟨v, rfl, ho, hB⟩
  obtain ⟨a, c, rfl⟩ := ho.src.shape
  have hf := Held.own (w := w) (pr := pr) ho (Nat.le_refl _)
  obtain ⟨g, rfl, _, _⟩ := own_at hf (by omega)
  rw [h9] at hf ⊢
  exact ⟨g, c, grow pr w w', rfl, hc.protect hB, hf, Step.grow hc.prs hB⟩
theorem z_changes (hc : MemAt w pr C sc) (h : MemL y w noPr M st) {l : List Ch} (hl : changesV st = l) : Calls Try.prog 15 #[.pointer (some ⟨M, 0, none⟩)] w fun e w' =>
    ∃ a c pr', e = .returned (.slice a l.length c) ∧ MemAt w' pr' C sc ∧ Held pr' w' (fun W => OwnD W w.heap.size 39 (.slice a l.length c) l) ∧ Step pr w pr' w' := by
  subst hl
  refine (changes_any h).mono ?_
  rintro e w' ⟨v, rfl, ho, hB⟩
  obtain ⟨a, c, rfl⟩ := ho.src.shape
  exact ⟨a, c, grow pr w w', rfl, hc.protect hB, Held.ownD ho (Nat.le_refl _), Step.grow hc.prs hB⟩
end

set_option maxRecDepth 100000 in
set_option maxHeartbeats 4000000 in
theorem copies_law {w : World} {lv mv : Value} {ls ms : List Sm} (hl : SrcS w lv ls) (hm2 : SrcS w mv ms) :
    Calls Try.prog 9 #[lv, mv] w fun e w' => e = .returned (.bool true) ∧ Below w.heap.size w w' := by
  have FM := Hd.mk hm2
  clear hm2
  have FL := Hd.mk hl
  clear hl
  go_enter Try.func9, Try.ntmps9
  go_wp2_with fail
  refine (awake_any _).mono ?_
  rintro e w1 ⟨rfl, hB0⟩
  have HB0 := Hd.mk hB0
  clear hB0
  go_wp2_with fail
  refine (made_any _).mono ?_
  rintro e w2 ⟨M, p0, rfl, hm, hp, hB1⟩
  have HM0 := Hd.mk hm
  have FB0 := Hd.mk (Held.below (HB0.out.trans (hB1.mono HB0.out.size)) (fun k hk => hp k (Nat.lt_of_lt_of_le hk HB0.out.size)))
  have FL0 := Hd.mk (FB0.out.imp fun W hW => SrcS.below FL.out hW)
  have HP0 : Hd (∀ k, k < w.heap.size → p0 k) := ⟨fun k hk => hp k (Nat.lt_of_lt_of_le hk HB0.out.size)⟩
  clear hm hp hB1 HB0 FL
  go_wp2_with fail
  refine (do_any HM0.out rfl FL0.out true 0).mono ?_
  rintro e w1 ⟨rfl, hm, hs⟩
  have FB_2 := Hd.mk (FB0.out.step hs)
  have Fl_2 := Hd.mk (FL0.out.step hs)
  have HM2 := Hd.mk hm
  clear FB0 FL0 HM0
  clear hs hm
  clear Fl_2
  have HSH := Hd.mk (doV_sh (marks := true) (floor := 0) _ ls (show ShOk S9 ⟨[[0, 0], [0, 0, 0], [], [0, 0, 0, 0]], []⟩ from ⟨⟨by decide, by decide, by simp, by decide⟩, rfl⟩))
  generalize doV true 0 ⟨[[0, 0], [0, 0, 0], [], [0, 0, 0, 0]], []⟩ ls = st at *
  go_wp2_with fail
  obtain ⟨L0, hL0⟩ : ∃ L, st.now.flatten = L := ⟨_, rfl⟩
  have HL9 : Hd (L0.length = 9) := ⟨by rw [← hL0]; exact flat9 HSH.out⟩
  obtain ⟨nm, hnm⟩ : ∃ m, st.marks.length = m := ⟨_, rfl⟩
  obtain ⟨C0, hC0⟩ : ∃ C, changesV st = C := ⟨_, rfl⟩
  have HC0 := Hd.mk hC0
  have HL0 := Hd.mk hL0
  have HNM := Hd.mk hnm
  clear hL0 hC0 hnm
  obtain ⟨y, hy⟩ := HM2.out
  have hft := hy.foot
  refine (copy_any hy).mono ?_
  rintro e wc ⟨C, rfl, hmc, hBc⟩
  have HMC := Hd.mk hmc
  have FBc := Hd.mk (Held.below (w := wc) (pr := fun k => k < w1.heap.size) (w0 := w) ((FB_2.out.now).trans (hBc.mono (FB_2.out.now.size))) (fun k hk => Nat.lt_of_lt_of_le hk (FB_2.out.now.size)))
  have FMc := Hd.mk (MemL.held (pr := fun k => k < w1.heap.size) (Ext.mem hBc hy) (fun k hk => (hft k hk).2))
  have FWc : Hd (Within (fun k => k < w1.heap.size) (Foot y M st)) := ⟨fun k hk => (hft k hk).2⟩
  have HFT : Hd (∀ k, k < w.heap.size → ¬ Foot y M st k) := ⟨fun k hk hF => (hft k hF).1 (HP0.out k hk)⟩
  have FRc := Hd.mk (FBc.out.imp fun W hW => SrcS.below FM.out hW)
  clear hy hft hmc hBc HP0
  clear HM2 FB_2
  go_wp2_with fail
  refine (y_all HMC.out HL0.out HL9.out).mono ?_
  rintro e w3 ⟨g3, c3, p3, rfl, hm, hf, hs⟩
  have FNr13 := Hd.mk hf
  clear hf
  have FB_4 := Hd.mk (FBc.out.step hs)
  have FM_4 := Hd.mk (FMc.out.step hs)
  have FW_4 := Hd.mk (FWc.out.step hs)
  have FR_4 := Hd.mk (FRc.out.step hs)
  have HM4 := Hd.mk hm
  clear FBc FMc FWc FRc HMC
  clear hs hm
  go_wp2_with fail
  refine (z_all HM4.out FM_4.out.now HL0.out HL9.out).mono ?_
  rintro e w5 ⟨g5, c5, p5, rfl, hm, hf, hs⟩
  have FNr25 := Hd.mk hf
  clear hf
  have FB_6 := Hd.mk (FB_4.out.step hs)
  have FM_6 := Hd.mk (FM_4.out.step hs)
  have FW_6 := Hd.mk (FW_4.out.step hs)
  have FR_6 := Hd.mk (FR_4.out.step hs)
  have Fr1_6 := Hd.mk (FNr13.out.step hs)
  have HM6 := Hd.mk hm
  clear FB_4 FM_4 FW_4 FR_4 FNr13 HM4
  clear hs hm
  go_wp2_with fail
  have hqa := AppI.src Fr1_6.out.now
  have hqb := AppI.src FNr25.out.now
  refine (equal_at28 (l := L0) (m := L0) (b := true) (decide_eq_true rfl) hqa hqb).mono ?_
  rintro e w7 ⟨rfl, hB⟩
  obtain ⟨hm, hs⟩ := HM6.out.below hB
  clear hB
  have FB_8 := Hd.mk (FB_6.out.step hs)
  have FM_8 := Hd.mk (FM_6.out.step hs)
  have FW_8 := Hd.mk (FW_6.out.step hs)
  have FR_8 := Hd.mk (FR_6.out.step hs)
  have Fr1_8 := Hd.mk (Fr1_6.out.step hs)
  have Fr2_8 := Hd.mk (FNr25.out.step hs)
  have HM8 := Hd.mk hm
  clear FB_6 FM_6 FW_6 FR_6 Fr1_6 FNr25 HM6
  clear hs hm
  clear hqa hqb
  clear Fr1_8 Fr2_8
  go_wp2_with fail
  have HXM := x_marks HM8.out
  rw [HNM.out] at HXM
  refine HXM.mono ?_
  rintro e wq9 ⟨rfl, rfl⟩
  clear HXM
  go_wp2_with fail
  have HXM := marks_any FM_8.out.now
  rw [HNM.out] at HXM
  refine HXM.mono ?_
  rintro e wq10 ⟨rfl, rfl⟩
  clear HXM
  go_wp2_with fail
  refine (x_changes HM8.out HC0.out).mono ?_
  rintro e w11 ⟨a11, c11, p11, rfl, hm, hf, hs⟩
  have FNd111 := Hd.mk hf
  clear hf
  have FB_12 := Hd.mk (FB_8.out.step hs)
  have FM_12 := Hd.mk (FM_8.out.step hs)
  have FW_12 := Hd.mk (FW_8.out.step hs)
  have FR_12 := Hd.mk (FR_8.out.step hs)
  have HM12 := Hd.mk hm
  clear FB_8 FM_8 FW_8 FR_8 HM8
  clear hs hm
  go_wp2_with fail
  refine (z_changes HM12.out FM_12.out.now HC0.out).mono ?_
  rintro e w13 ⟨a13, c13, p13, rfl, hm, hf, hs⟩
  have FNd213 := Hd.mk hf
  clear hf
  have FB_14 := Hd.mk (FB_12.out.step hs)
  have FM_14 := Hd.mk (FM_12.out.step hs)
  have FW_14 := Hd.mk (FW_12.out.step hs)
  have FR_14 := Hd.mk (FR_12.out.step hs)
  have Fd1_14 := Hd.mk (FNd111.out.step hs)
  have HM14 := Hd.mk hm
  clear FB_12 FM_12 FW_12 FR_12 FNd111 HM12
  clear hs hm
  go_wp2_with fail
  refine (equalD_at (l := C0) (m := C0) (b := true) (decide_eq_true rfl) (OwnD.src Fd1_14.out.now) (OwnD.src FNd213.out.now)).mono ?_
  rintro e w15 ⟨rfl, hB⟩
  obtain ⟨hm, hs⟩ := HM14.out.below hB
  clear hB
  have FB_16 := Hd.mk (FB_14.out.step hs)
  have FM_16 := Hd.mk (FM_14.out.step hs)
  have FW_16 := Hd.mk (FW_14.out.step hs)
  have FR_16 := Hd.mk (FR_14.out.step hs)
  have Fd1_16 := Hd.mk (Fd1_14.out.step hs)
  have Fd2_16 := Hd.mk (FNd213.out.step hs)
  have HM16 := Hd.mk hm
  clear FB_14 FM_14 FW_14 FR_14 Fd1_14 FNd213 HM14
  clear hs hm
  clear Fd1_16 Fd2_16
  go_wp2_with fail
  refine (z_all HM16.out FM_16.out.now HL0.out HL9.out).mono ?_
  rintro e w17 ⟨g17, c17, p17, rfl, hm, hf, hs⟩
  have FNwas17 := Hd.mk hf
  clear hf
  have FB_18 := Hd.mk (FB_16.out.step hs)
  have FM_18 := Hd.mk (FM_16.out.step hs)
  have FW_18 := Hd.mk (FW_16.out.step hs)
  have FR_18 := Hd.mk (FR_16.out.step hs)
  have HM18 := Hd.mk hm
  clear FB_16 FM_16 FW_16 FR_16 HM16
  clear hs hm
  go_wp2_with fail
  have HXM := marks_any FM_18.out.now
  rw [HNM.out] at HXM
  refine HXM.mono ?_
  rintro e wq19 ⟨rfl, rfl⟩
  clear HXM
  go_wp2_with fail
  refine (z_changes HM18.out FM_18.out.now HC0.out).mono ?_
  rintro e w20 ⟨a20, c20, p20, rfl, hm, hf, hs⟩
  have FNchg20 := Hd.mk hf
  clear hf
  have FB_21 := Hd.mk (FB_18.out.step hs)
  have FM_21 := Hd.mk (FM_18.out.step hs)
  have FW_21 := Hd.mk (FW_18.out.step hs)
  have FR_21 := Hd.mk (FR_18.out.step hs)
  have Fwas_21 := Hd.mk (FNwas17.out.step hs)
  have HM21 := Hd.mk hm
  clear FB_18 FM_18 FW_18 FR_18 FNwas17 HM18
  clear hs hm
  go_wp2_with fail
  refine (do_any HM21.out HSH.out.2 FR_21.out true 0).mono ?_
  rintro e w22 ⟨rfl, hm, hs⟩
  have FB_23 := Hd.mk (FB_21.out.step hs)
  have FM_23 := Hd.mk (FM_21.out.step hs)
  have FW_23 := Hd.mk (FW_21.out.step hs)
  have FR_23 := Hd.mk (FR_21.out.step hs)
  have Fwas_23 := Hd.mk (Fwas_21.out.step hs)
  have Fchg_23 := Hd.mk (FNchg20.out.step hs)
  have HM23 := Hd.mk hm
  clear FB_21 FM_21 FW_21 FR_21 Fwas_21 FNchg20 HM21
  clear hs hm
  have HS2 := Hd.mk (doV_sh (marks := true) (floor := 0) st ms HSH.out)
  obtain ⟨st2, hst2⟩ : ∃ s, doV true 0 st ms = s := ⟨_, rfl⟩
  rw [hst2] at HS2 HM23
  have HE2 := Hd.mk hst2
  clear hst2
  go_wp2_with fail
  refine (z_all HM23.out FM_23.out.now HL0.out HL9.out).mono ?_
  rintro e w24 ⟨g24, c24, p24, rfl, hm, hf, hs⟩
  have FNr324 := Hd.mk hf
  clear hf
  have FB_25 := Hd.mk (FB_23.out.step hs)
  have FM_25 := Hd.mk (FM_23.out.step hs)
  have FW_25 := Hd.mk (FW_23.out.step hs)
  have FR_25 := Hd.mk (FR_23.out.step hs)
  have Fwas_25 := Hd.mk (Fwas_23.out.step hs)
  have Fchg_25 := Hd.mk (Fchg_23.out.step hs)
  have HM25 := Hd.mk hm
  clear FB_23 FM_23 FW_23 FR_23 Fwas_23 Fchg_23 HM23
  clear hs hm
  go_wp2_with fail
  have hqa := AppI.src FNr324.out.now
  have hqb := AppI.src Fwas_25.out.now
  refine (equal_at28 (l := L0) (m := L0) (b := true) (decide_eq_true rfl) hqa hqb).mono ?_
  rintro e w26 ⟨rfl, hB⟩
  obtain ⟨hm, hs⟩ := HM25.out.below hB
  clear hB
  have FB_27 := Hd.mk (FB_25.out.step hs)
  have FM_27 := Hd.mk (FM_25.out.step hs)
  have FW_27 := Hd.mk (FW_25.out.step hs)
  have FR_27 := Hd.mk (FR_25.out.step hs)
  have Fwas_27 := Hd.mk (Fwas_25.out.step hs)
  have Fchg_27 := Hd.mk (Fchg_25.out.step hs)
  have Fr3_27 := Hd.mk (FNr324.out.step hs)
  have HM27 := Hd.mk hm
  clear FB_25 FM_25 FW_25 FR_25 Fwas_25 Fchg_25 FNr324 HM25
  clear hs hm
  clear hqa hqb
  clear Fr3_27 Fwas_27
  go_wp2_with fail
  have HXM := marks_any FM_27.out.now
  rw [HNM.out] at HXM
  refine HXM.mono ?_
  rintro e wq28 ⟨rfl, rfl⟩
  clear HXM
  go_wp2_with fail
  refine (z_changes HM27.out FM_27.out.now HC0.out).mono ?_
  rintro e w29 ⟨a29, c29, p29, rfl, hm, hf, hs⟩
  have FNd329 := Hd.mk hf
  clear hf
  have FB_30 := Hd.mk (FB_27.out.step hs)
  have FM_30 := Hd.mk (FM_27.out.step hs)
  have FW_30 := Hd.mk (FW_27.out.step hs)
  have FR_30 := Hd.mk (FR_27.out.step hs)
  have Fchg_30 := Hd.mk (Fchg_27.out.step hs)
  have HM30 := Hd.mk hm
  clear FB_27 FM_27 FW_27 FR_27 Fchg_27 HM27
  clear hs hm
  go_wp2_with fail
  refine (equalD_at (l := C0) (m := C0) (b := true) (decide_eq_true rfl) (OwnD.src FNd329.out.now) (OwnD.src Fchg_30.out.now)).mono ?_
  rintro e w31 ⟨rfl, hB⟩
  obtain ⟨hm, hs⟩ := HM30.out.below hB
  clear hB
  have FB_32 := Hd.mk (FB_30.out.step hs)
  have FM_32 := Hd.mk (FM_30.out.step hs)
  have FW_32 := Hd.mk (FW_30.out.step hs)
  have FR_32 := Hd.mk (FR_30.out.step hs)
  have Fchg_32 := Hd.mk (Fchg_30.out.step hs)
  have Fd3_32 := Hd.mk (FNd329.out.step hs)
  have HM32 := Hd.mk hm
  clear FB_30 FM_30 FW_30 FR_30 Fchg_30 FNd329 HM30
  clear hs hm
  clear Fd3_32 Fchg_32
  go_wp2_with fail
  obtain ⟨yc, hyc⟩ := HM32.out
  have hfc := hyc.foot
  have hmm := (FM_32.out.now)
  have hW := FW_32.out
  have HMM : Hd (MemAt w31 (fun k => k < w31.heap.size ∧ ¬ Foot y M st k) M st) := ⟨⟨y, hmm.max⟩⟩
  have FCc := Hd.mk (MemL.held (pr := fun k => k < w31.heap.size ∧ ¬ Foot y M st k) hyc (fun k hk => ⟨(hfc k hk).2, fun hF => (hfc k hk).1 (hW k hF)⟩))
  have FB2 := Hd.mk (Held.below (w := w31) (w0 := w) (pr := fun k => k < w31.heap.size ∧ ¬ Foot y M st k) FB_32.out.now (fun k hk => ⟨Nat.lt_of_lt_of_le hk FB_32.out.now.size, HFT.out k hk⟩))
  have FR2 : Hd (Held (fun k => k < w31.heap.size ∧ ¬ Foot y M st k) w31 (fun W => SrcS W mv ms)) := ⟨FB2.out.imp fun W hW => by
    exact SrcS.below FM.out hW⟩
  clear hyc hfc hmm hW
  clear HM32 FB_32 FM_32 FW_32 FR_32
  refine (do_any HMM.out HSH.out.2 FR2.out true 0).mono ?_
  rintro e w33 ⟨rfl, hm, hs⟩
  have FB_34 := Hd.mk (FB2.out.step hs)
  have FM_34 := Hd.mk (FCc.out.step hs)
  have FR_34 := Hd.mk (FR2.out.step hs)
  have HM34 := Hd.mk hm
  clear FB2 FCc FR2 HMM
  clear hs hm
  rw [HE2.out] at HM34
  obtain ⟨L2, hL2⟩ : ∃ L, st2.now.flatten = L := ⟨_, rfl⟩
  have HL29 : Hd (L2.length = 9) := ⟨by rw [← hL2]; exact flat9 HS2.out⟩
  obtain ⟨nm2, hnm2⟩ : ∃ m, st2.marks.length = m := ⟨_, rfl⟩
  obtain ⟨C2, hC2⟩ : ∃ C, changesV st2 = C := ⟨_, rfl⟩
  have HC2 := Hd.mk hC2
  have HL2 := Hd.mk hL2
  have HNM2 := Hd.mk hnm2
  clear hL2 hC2 hnm2
  go_wp2_with fail
  refine (z_all HM34.out FM_34.out.now HL2.out HL29.out).mono ?_
  rintro e w35 ⟨g35, c35, p35, rfl, hm, hf, hs⟩
  have FNq135 := Hd.mk hf
  clear hf
  have FB_36 := Hd.mk (FB_34.out.step hs)
  have FM_36 := Hd.mk (FM_34.out.step hs)
  have FR_36 := Hd.mk (FR_34.out.step hs)
  have HM36 := Hd.mk hm
  clear FB_34 FM_34 FR_34 HM34
  clear hs hm
  go_wp2_with fail
  refine (y_all HM36.out HL2.out HL29.out).mono ?_
  rintro e w37 ⟨g37, c37, p37, rfl, hm, hf, hs⟩
  have FNq237 := Hd.mk hf
  clear hf
  have FB_38 := Hd.mk (FB_36.out.step hs)
  have FM_38 := Hd.mk (FM_36.out.step hs)
  have FR_38 := Hd.mk (FR_36.out.step hs)
  have Fq1_38 := Hd.mk (FNq135.out.step hs)
  have HM38 := Hd.mk hm
  clear FB_36 FM_36 FR_36 FNq135 HM36
  clear hs hm
  go_wp2_with fail
  have hqa := AppI.src Fq1_38.out.now
  have hqb := AppI.src FNq237.out.now
  refine (equal_at28 (l := L2) (m := L2) (b := true) (decide_eq_true rfl) hqa hqb).mono ?_
  rintro e w39 ⟨rfl, hB⟩
  obtain ⟨hm, hs⟩ := HM38.out.below hB
  clear hB
  have FB_40 := Hd.mk (FB_38.out.step hs)
  have FM_40 := Hd.mk (FM_38.out.step hs)
  have FR_40 := Hd.mk (FR_38.out.step hs)
  have Fq1_40 := Hd.mk (Fq1_38.out.step hs)
  have Fq2_40 := Hd.mk (FNq237.out.step hs)
  have HM40 := Hd.mk hm
  clear FB_38 FM_38 FR_38 Fq1_38 FNq237 HM38
  clear hs hm
  clear hqa hqb
  go_wp2_with fail
  have HXM := marks_any FM_40.out.now
  rw [HNM2.out] at HXM
  refine HXM.mono ?_
  rintro e wq41 ⟨rfl, rfl⟩
  clear HXM
  go_wp2_with fail
  have HXM := x_marks HM40.out
  rw [HNM2.out] at HXM
  refine HXM.mono ?_
  rintro e wq42 ⟨rfl, rfl⟩
  clear HXM
  go_wp2_with fail
  refine (z_changes HM40.out FM_40.out.now HC2.out).mono ?_
  rintro e w43 ⟨a43, c43, p43, rfl, hm, hf, hs⟩
  have FNe143 := Hd.mk hf
  clear hf
  have FB_44 := Hd.mk (FB_40.out.step hs)
  have FM_44 := Hd.mk (FM_40.out.step hs)
  have FR_44 := Hd.mk (FR_40.out.step hs)
  have Fq1_44 := Hd.mk (Fq1_40.out.step hs)
  have Fq2_44 := Hd.mk (Fq2_40.out.step hs)
  have HM44 := Hd.mk hm
  clear FB_40 FM_40 FR_40 Fq1_40 Fq2_40 HM40
  clear hs hm
  go_wp2_with fail
  refine (x_changes HM44.out HC2.out).mono ?_
  rintro e w45 ⟨a45, c45, p45, rfl, hm, hf, hs⟩
  have FNe245 := Hd.mk hf
  clear hf
  have FB_46 := Hd.mk (FB_44.out.step hs)
  have FM_46 := Hd.mk (FM_44.out.step hs)
  have FR_46 := Hd.mk (FR_44.out.step hs)
  have Fq1_46 := Hd.mk (Fq1_44.out.step hs)
  have Fq2_46 := Hd.mk (Fq2_44.out.step hs)
  have Fe1_46 := Hd.mk (FNe143.out.step hs)
  have HM46 := Hd.mk hm
  clear FB_44 FM_44 FR_44 Fq1_44 Fq2_44 FNe143 HM44
  clear hs hm
  go_wp2_with fail
  refine (equalD_at (l := C2) (m := C2) (b := true) (decide_eq_true rfl) (OwnD.src Fe1_46.out.now) (OwnD.src FNe245.out.now)).mono ?_
  rintro e w47 ⟨rfl, hB⟩
  obtain ⟨hm, hs⟩ := HM46.out.below hB
  clear hB
  have FB_48 := Hd.mk (FB_46.out.step hs)
  have FM_48 := Hd.mk (FM_46.out.step hs)
  have FR_48 := Hd.mk (FR_46.out.step hs)
  have Fq1_48 := Hd.mk (Fq1_46.out.step hs)
  have Fq2_48 := Hd.mk (Fq2_46.out.step hs)
  have Fe1_48 := Hd.mk (Fe1_46.out.step hs)
  have Fe2_48 := Hd.mk (FNe245.out.step hs)
  have HM48 := Hd.mk hm
  clear FB_46 FM_46 FR_46 Fq1_46 Fq2_46 Fe1_46 FNe245 HM46
  clear hs hm
  go_wp2_with fail
  go_ret
  exact ⟨rfl, FB_48.out.now⟩
end Go.Proofs.Ytnhkadknibinfaa
