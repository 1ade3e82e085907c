/- The reference: Root, Derive. -/
import Derived.Test.YtinagiofolmhbaaR6
import Derived.Test.YtinagiofolmhbaaR2
namespace Go.Proofs.Ytinagiofolmhbaa
open Go.RowKit
set_option linter.unusedVariables false
set_option linter.unusedSimpArgs false


set_option maxRecDepth 100000 in
set_option maxHeartbeats 2000000 in
theorem refroot_any {st : St} {v : Value} {w : World} (h : RefT w v st) {nx : Int} (hnx : st.next = nx) (hfew : st.made.length < 1000) (port tw : Int) (r : BitVec 8) :
    Calls Try.prog 50 #[.agg #[.int .i64 nx, v], .int .i64 port, .int .i64 tw, .int .i64 (n8 r)] w fun e w' => ∃ v', e = .returned (.tuple #[.agg #[.int .i64 (rootS st port tw r).next, v'], .int .i64 (rootN st port tw r), .int .i64 (rootE st port tw r)]) ∧ RefP w.heap.size v st w' v' (rootS st port tw r) ∧ Below w.heap.size w w' := by
  have HFEW := Hd.mk hfew
  have HOKR := Hd.mk (h.ok.root port tw r)
  clear hfew
  obtain ⟨a, c, rfl⟩ := h.rows.shape
  have HL := Hd.mk h
  obtain ⟨n, hn⟩ : ∃ n, st.made.length = n := ⟨_, rfl⟩
  have HN := Hd.mk hn
  have HNX := Hd.mk hnx
  have HN2 : Hd (n ≤ 1000) := ⟨by rw [← hn]; exact h.few⟩
  rw [hn]
  clear h hnx hn
  obtain ⟨W0, hW0⟩ : ∃ W, ((w.alloc (.cells #[.int .i64 nx, .slice a n c] 88)).alloc (.cells #[.int .i64 0, .slice none 0 0] 88)) = W := ⟨_, rfl⟩
  have hs1 : (w.alloc (.cells #[.int .i64 nx, .slice a n c] 88)).heap.size = w.heap.size + 1 := by simp
  have hB0 : Below w.heap.size w W0 := by rw [← hW0]; exact ((Below.refl _ _).alloc (Nat.le_refl _) _).alloc (by rw [hs1]; omega) _
  have hx0 : W0.heap[w.heap.size]? = some (.cells #[.int .i64 nx, .slice a n c] 88 (0, 0)) := by rw [← hW0]; exact (Below.heap_alloc _ _ _ (lt_heap (heap_alloc_new w _))).trans (heap_alloc_new w _)
  have hr0 : W0.heap[w.heap.size + 1]? = some (.cells #[.int .i64 0, .slice none 0 0] 88 (0, 0)) := by rw [← hW0, ← hs1]; exact heap_alloc_new _ _
  have HB0 := Hd.mk hB0
  have HLT0 : Hd (w.heap.size + 2 ≤ W0.heap.size) := ⟨by have := lt_heap hr0; omega⟩
  have HX0 := Hd.mk hx0
  have HR0 := Hd.mk hr0
  have HW0 := Hd.mk hW0
  clear hW0 hs1 hB0 hx0 hr0
  go_enter Try.func50, Try.ntmps50
  go_upto_region 1 with fail
  rw [HW0.out]
  clear HW0
  have t0 := (cells_cell HX0.out 0).trans (show _ = some (.int .i64 nx) from rfl)
  have t1 := (cells_cell HX0.out 1).trans (show _ = some (.slice a n c) from rfl)
  by_cases hbad : port < 0 ∨ 4294967295 < port ∨ tw < 0 ∨ 16 < tw
  · have HBAD : Hd (port < 0 ∨ 4294967295 < port ∨ badH tw = true) := ⟨by unfold badH; simp only [decide_eq_true_eq]; omega⟩
    have hw : rootW port tw r = 2 := by unfold rootW; rw [if_pos HBAD.out]
    have HE : Hd (rootE st port tw r = 2) := ⟨by unfold rootE; rw [hw]; rfl⟩
    have HNN : Hd (rootN st port tw r = 0) := ⟨by unfold rootN; rw [hw]; rfl⟩
    have HS : Hd (rootS st port tw r = st) := ⟨by unfold rootS; rw [hw]; rfl⟩
    clear hw
    clear HBAD
    have hcases : port < 0 ∨ (¬ port < 0 ∧ 4294967295 < port) ∨ (¬ port < 0 ∧ ¬ 4294967295 < port ∧ tw < 0) ∨ (¬ port < 0 ∧ ¬ 4294967295 < port ∧ ¬ tw < 0 ∧ 16 < tw) := by omega
    clear hbad
    rcases hcases with hbad | hbad | hbad | hbad
    · have d1 : decide (port < 0) = true := by simp; omega
      clear hbad
      have hr := HR0.out
      have q0 := cells_cell hr 0
      have f0 := cells_free hr 0
      have q1 := cells_cell hr 1
      have f1 := cells_free hr 1
      simp only [List.getElem?_toArray, List.getElem?_cons_zero, List.getElem?_cons_succ] at q0 q1
      clear hr
      go_wp2_with fail
      refine bodyPost_ret (results_cell_row3 Try.results50 _ _ (w.heap.size + 1) 88 #[.int .i64 nx, .slice a n c] (0, 0) _ rfl (set2 HR0.out _ _) Try.underlying88 rfl size88) rfl ?_
      exact ⟨_, by rw [HE.out, HNN.out, HS.out, HNX.out]; rfl, .inl ⟨rfl, HS.out⟩, below2 HB0.out (by omega) _ _⟩
    · have d1 : decide (port < 0) = false := by simp; omega
      have d2 : decide (4294967295 < port) = true := by simp; omega
      clear hbad
      have hr := HR0.out
      have q0 := cells_cell hr 0
      have f0 := cells_free hr 0
      have q1 := cells_cell hr 1
      have f1 := cells_free hr 1
      simp only [List.getElem?_toArray, List.getElem?_cons_zero, List.getElem?_cons_succ] at q0 q1
      clear hr
      go_wp2_with fail
      refine bodyPost_ret (results_cell_row3 Try.results50 _ _ (w.heap.size + 1) 88 #[.int .i64 nx, .slice a n c] (0, 0) _ rfl (set2 HR0.out _ _) Try.underlying88 rfl size88) rfl ?_
      exact ⟨_, by rw [HE.out, HNN.out, HS.out, HNX.out]; rfl, .inl ⟨rfl, HS.out⟩, below2 HB0.out (by omega) _ _⟩
    · have d1 : decide (port < 0) = false := by simp; omega
      have d2 : decide (4294967295 < port) = false := by simp; omega
      have d3 : decide (tw < 0) = true := by simp; omega
      clear hbad
      have hr := HR0.out
      have q0 := cells_cell hr 0
      have f0 := cells_free hr 0
      have q1 := cells_cell hr 1
      have f1 := cells_free hr 1
      simp only [List.getElem?_toArray, List.getElem?_cons_zero, List.getElem?_cons_succ] at q0 q1
      clear hr
      go_wp2_with fail
      refine bodyPost_ret (results_cell_row3 Try.results50 _ _ (w.heap.size + 1) 88 #[.int .i64 nx, .slice a n c] (0, 0) _ rfl (set2 HR0.out _ _) Try.underlying88 rfl size88) rfl ?_
      exact ⟨_, by rw [HE.out, HNN.out, HS.out, HNX.out]; rfl, .inl ⟨rfl, HS.out⟩, below2 HB0.out (by omega) _ _⟩
    · have d1 : decide (port < 0) = false := by simp; omega
      have d2 : decide (4294967295 < port) = false := by simp; omega
      have d3 : decide (tw < 0) = false := by simp; omega
      have d4 : decide (16 < tw) = true := by simp; omega
      clear hbad
      have hr := HR0.out
      have q0 := cells_cell hr 0
      have f0 := cells_free hr 0
      have q1 := cells_cell hr 1
      have f1 := cells_free hr 1
      simp only [List.getElem?_toArray, List.getElem?_cons_zero, List.getElem?_cons_succ] at q0 q1
      clear hr
      go_wp2_with fail
      refine bodyPost_ret (results_cell_row3 Try.results50 _ _ (w.heap.size + 1) 88 #[.int .i64 nx, .slice a n c] (0, 0) _ rfl (set2 HR0.out _ _) Try.underlying88 rfl size88) rfl ?_
      exact ⟨_, by rw [HE.out, HNN.out, HS.out, HNX.out]; rfl, .inl ⟨rfl, HS.out⟩, below2 HB0.out (by omega) _ _⟩
  · have HBH : Hd (badH tw = false) := ⟨by unfold badH; simp; omega⟩
    have d1 : decide (port < 0) = false := by simp; omega
    have d2 : decide (4294967295 < port) = false := by simp; omega
    have d3 : decide (tw < 0) = false := by simp; omega
    have d4 : decide (16 < tw) = false := by simp; omega
    have HNB : Hd (¬ (port < 0 ∨ 4294967295 < port ∨ badH tw = true)) := ⟨by rw [HBH.out]; simp only [Bool.false_eq_true, or_false]; omega⟩
    clear hbad
    go_wp2_with fail
    refine (refright_any r _).mono ?_
    rintro e w1 ⟨rfl, hB⟩
    have HX1 := Hd.mk ((hB.block w.heap.size (lt_heap HX0.out)).trans HX0.out)
    have HR1 := Hd.mk ((hB.block (w.heap.size + 1) (lt_heap HR0.out)).trans HR0.out)
    have HB1 := Hd.mk (HB0.out.trans (hB.mono HB0.out.size))
    clear HX0 HR0
    obtain ⟨bm, hbm⟩ : ∃ b, badM r = b := ⟨_, rfl⟩
    have HBM := Hd.mk hbm
    rw [hbm]
    clear hB hbm t0 t1 d1 d2 d3 d4
    have t0 := (cells_cell HX1.out 0).trans (show _ = some (.int .i64 nx) from rfl)
    have t1 := (cells_cell HX1.out 1).trans (show _ = some (.slice a n c) from rfl)
    cases bm
    · have hw : rootW port tw r = 0 := by unfold rootW; rw [if_neg HNB.out, HBM.out]; rfl
      have HE : Hd (rootE st port tw r = addE st tw) := ⟨by unfold rootE; rw [if_pos hw]⟩
      have HNN : Hd (rootN st port tw r = addN st tw) := ⟨by unfold rootN; rw [if_pos hw]⟩
      have HS : Hd (rootS st port tw r = addS st ⟨0, 0, port, tw, r⟩) := ⟨by unfold rootS; rw [if_pos hw]⟩
      have HC2 := Hd.mk (refadd_any (HL.out.below HB1.out) HNX.out (par := 0) (port := port) (hol := tw) (r := r) (by rw [← HS.out]; exact HOKR.out) HFEW.out)
      rw [HN.out] at HC2
      clear hw
      go_wp2_with fail
      refine HC2.out.mono ?_
      rintro e w9 ⟨v2, rfl, hp, hB⟩
      have hl9 := HL.out.below HB1.out
      rw [HN.out] at hl9
      have hrt := hp.ref hl9 hB
      obtain ⟨a2, c2, hv2⟩ := hrt.rows.shape
      have HP := Hd.mk hp
      have HB9 := Hd.mk (HB1.out.trans (hB.mono HB1.out.size))
      have HR9 := Hd.mk ((hB.block (w.heap.size + 1) (lt_heap HR1.out)).trans HR1.out)
      have HSZ : Hd (w.heap.size + 2 ≤ w1.heap.size ∧ w1.heap.size ≤ w9.heap.size) := ⟨by have := lt_heap HR1.out; omega, hB.size⟩
      subst hv2
      generalize (addS st ⟨0, 0, port, tw, r⟩).made.length = m at HP hrt ⊢
      clear hp hB hrt hl9 t0 t1 HC2
      have hr := HR9.out
      have q0 := cells_cell hr 0
      have f0 := cells_free hr 0
      have q1 := cells_cell hr 1
      have f1 := cells_free hr 1
      simp only [List.getElem?_toArray, List.getElem?_cons_zero, List.getElem?_cons_succ] at q0 q1
      clear hr
      go_wp2_with fail
      refine bodyPost_ret (results_cell_row3 Try.results50 _ _ (w.heap.size + 1) 88 #[.int .i64 (addS st ⟨0, 0, port, tw, r⟩).next, .slice a2 m c2] (0, 0) _ rfl (set2 HR9.out _ _) Try.underlying88 rfl size88) rfl ?_
      refine ⟨_, by rw [HE.out, HNN.out, HS.out]; rfl, ?_, below2 HB9.out (by omega) _ _⟩
      rw [HS.out]
      have hz := HSZ.out
      refine RefP.lift HP.out ?_ ?_ (fun k hk _ => ?_)
      · omega
      · simp [World.setCell]
      exact other2 (by omega) _ _
    · have hw : rootW port tw r = 220 := by unfold rootW; rw [if_neg HNB.out, HBM.out]; rfl
      have HE : Hd (rootE st port tw r = 220) := ⟨by unfold rootE; rw [hw]; rfl⟩
      have HNN : Hd (rootN st port tw r = 0) := ⟨by unfold rootN; rw [hw]; rfl⟩
      have HS : Hd (rootS st port tw r = st) := ⟨by unfold rootS; rw [hw]; rfl⟩
      clear hw
      have hr := HR1.out
      have q0 := cells_cell hr 0
      have f0 := cells_free hr 0
      have q1 := cells_cell hr 1
      have f1 := cells_free hr 1
      simp only [List.getElem?_toArray, List.getElem?_cons_zero, List.getElem?_cons_succ] at q0 q1
      clear hr
      go_wp2_with fail
      refine bodyPost_ret (results_cell_row3 Try.results50 _ _ (w.heap.size + 1) 88 #[.int .i64 nx, .slice a n c] (0, 0) _ rfl (set2 HR1.out _ _) Try.underlying88 rfl size88) rfl ?_
      exact ⟨_, by rw [HE.out, HNN.out, HS.out, HNX.out]; rfl, .inl ⟨rfl, HS.out⟩, below2 HB1.out (by omega) _ _⟩

set_option maxRecDepth 100000 in
set_option maxHeartbeats 2000000 in
theorem refder_any {st : St} {v : Value} {w : World} (h : RefT w v st) {nx : Int} (hnx : st.next = nx) (hfew : st.made.length < 1000) (s tw : Int) (r : BitVec 8) :
    Calls Try.prog 51 #[.agg #[.int .i64 nx, v], .int .i64 s, .int .i64 tw, .int .i64 (n8 r)] w fun e w' => ∃ v', e = .returned (.tuple #[.agg #[.int .i64 (derS st s tw r).next, v'], .int .i64 (derN st s tw r), .int .i64 (derE st s tw r)]) ∧ RefP w.heap.size v st w' v' (derS st s tw r) ∧ Below w.heap.size w w' := by
  have HFEW := Hd.mk hfew
  have HOKR := Hd.mk (h.ok.der s tw r)
  clear hfew
  obtain ⟨a, c, rfl⟩ := h.rows.shape
  have HL := Hd.mk h
  obtain ⟨n, hn⟩ : ∃ n, st.made.length = n := ⟨_, rfl⟩
  have HN := Hd.mk hn
  have HNX := Hd.mk hnx
  have HN2 : Hd (n ≤ 1000) := ⟨by rw [← hn]; exact h.few⟩
  rw [hn]
  clear h hnx hn
  obtain ⟨W0, hW0⟩ : ∃ W, ((w.alloc (.cells #[.int .i64 nx, .slice a n c] 88)).alloc (.cells #[.int .i64 0, .slice none 0 0] 88)) = W := ⟨_, rfl⟩
  have hs1 : (w.alloc (.cells #[.int .i64 nx, .slice a n c] 88)).heap.size = w.heap.size + 1 := by simp
  have hB0 : Below w.heap.size w W0 := by rw [← hW0]; exact ((Below.refl _ _).alloc (Nat.le_refl _) _).alloc (by rw [hs1]; omega) _
  have hx0 : W0.heap[w.heap.size]? = some (.cells #[.int .i64 nx, .slice a n c] 88 (0, 0)) := by rw [← hW0]; exact (Below.heap_alloc _ _ _ (lt_heap (heap_alloc_new w _))).trans (heap_alloc_new w _)
  have hr0 : W0.heap[w.heap.size + 1]? = some (.cells #[.int .i64 0, .slice none 0 0] 88 (0, 0)) := by rw [← hW0, ← hs1]; exact heap_alloc_new _ _
  have HB0 := Hd.mk hB0
  have HLT0 : Hd (w.heap.size + 2 ≤ W0.heap.size) := ⟨by have := lt_heap hr0; omega⟩
  have HX0 := Hd.mk hx0
  have HR0 := Hd.mk hr0
  have HW0 := Hd.mk hW0
  clear hW0 hs1 hB0 hx0 hr0
  obtain ⟨ge, hge⟩ : ∃ e, getE st s = e := ⟨_, rfl⟩
  obtain ⟨⟨g0, g1, g2, g3, g4⟩, hgv⟩ : ∃ e, getV st s = e := ⟨_, rfl⟩
  have HC_ := Hd.mk (refget_at (s := s) (HL.out.below HB0.out) HNX.out hgv hge)
  rw [HN.out] at HC_
  have HGE := Hd.mk hge
  have HGV := Hd.mk hgv
  have HG6 : Hd (ge = 0 ∨ ge = 6) := ⟨by rw [← hge]; unfold getE; split <;> simp⟩
  clear hgv hge
  go_enter Try.func51, Try.ntmps51
  go_upto_region 1 with fail
  rw [HW0.out]
  clear HW0
  have t0 := (cells_cell HX0.out 0).trans (show _ = some (.int .i64 nx) from rfl)
  have t1 := (cells_cell HX0.out 1).trans (show _ = some (.slice a n c) from rfl)
  go_wp2_with fail
  refine HC_.out.mono ?_
  rintro e w1 ⟨rfl, hB⟩
  have HX1 := Hd.mk ((hB.block w.heap.size (lt_heap HX0.out)).trans HX0.out)
  have HR1 := Hd.mk ((hB.block (w.heap.size + 1) (lt_heap HR0.out)).trans HR0.out)
  have HB1 := Hd.mk (HB0.out.trans (hB.mono HB0.out.size))
  clear HX0 HR0
  clear hB HC_ t0 t1
  go_upto_region 2 with fail
  obtain ⟨W2, hW2⟩ : ∃ W, (w1.alloc (.cells #[.int .i64 g0, .int .i64 g1, .int .i64 g2, .int .i64 g3, .int .i64 (n8 g4), .bool false] 104)) = W := ⟨_, rfl⟩
  have hb2 : W2.heap[w1.heap.size]? = some (.cells #[.int .i64 g0, .int .i64 g1, .int .i64 g2, .int .i64 g3, .int .i64 (n8 g4), .bool false] 104 (0, 0)) := by rw [← hW2]; exact heap_alloc_new _ _
  have hB : Below w1.heap.size w1 W2 := by rw [← hW2]; exact (Below.refl _ _).alloc (Nat.le_refl _) _
  rw [hW2]
  obtain ⟨X, hX⟩ : ∃ X, w1.heap.size = X := ⟨_, rfl⟩
  have HX2 := Hd.mk ((hB.block w.heap.size (lt_heap HX1.out)).trans HX1.out)
  have HR2 := Hd.mk ((hB.block (w.heap.size + 1) (lt_heap HR1.out)).trans HR1.out)
  have HB2 := Hd.mk (HB1.out.trans (hB.mono HB1.out.size))
  clear HX1 HR1
  rw [hX] at hb2 ⊢
  have p4 := (cells_cell hb2 4).trans (show _ = some (Value.int .i64 (n8 g4)) from rfl)
  have HXX := Hd.mk hb2
  clear hW2 hb2 hB hX
  have t0 := (cells_cell HX2.out 0).trans (show _ = some (.int .i64 nx) from rfl)
  have t1 := (cells_cell HX2.out 1).trans (show _ = some (.slice a n c) from rfl)
  by_cases he : ge = 0
  · subst he
    by_cases hbad : tw < 0 ∨ 16 < tw
    · have HBH : Hd (badH tw = true) := ⟨by unfold badH; simp only [decide_eq_true_eq]; exact hbad⟩
      have hw : derW st s tw r = 2 := by unfold derW; rw [HGE.out, HBH.out]; rfl
      have HE : Hd (derE st s tw r = 2) := ⟨by unfold derE; rw [hw]; exact if_neg (by decide)⟩
      have HNN : Hd (derN st s tw r = 0) := ⟨by unfold derN; rw [hw]; exact if_neg (by decide)⟩
      have HS : Hd (derS st s tw r = st) := ⟨by unfold derS; rw [hw]; exact if_neg (by decide)⟩
      clear hw
      by_cases hlo : tw < 0
      · have d1 : decide (tw < 0) = true := by simp; omega
        clear hbad hlo p4
        have hr := HR2.out
        have q0 := cells_cell hr 0
        have f0 := cells_free hr 0
        have q1 := cells_cell hr 1
        have f1 := cells_free hr 1
        simp only [List.getElem?_toArray, List.getElem?_cons_zero, List.getElem?_cons_succ] at q0 q1
        clear hr
        go_wp2_with fail
        refine bodyPost_ret (results_cell_row3 Try.results51 _ _ (w.heap.size + 1) 88 #[.int .i64 nx, .slice a n c] (0, 0) _ rfl (set2 HR2.out _ _) Try.underlying88 rfl size88) rfl ?_
        exact ⟨_, by rw [HE.out, HNN.out, HS.out, HNX.out]; rfl, .inl ⟨rfl, HS.out⟩, below2 HB2.out (by omega) _ _⟩
      · have d1 : decide (tw < 0) = false := by simp; omega
        have d2 : decide (16 < tw) = true := by simp; omega
        clear hbad hlo p4
        have hr := HR2.out
        have q0 := cells_cell hr 0
        have f0 := cells_free hr 0
        have q1 := cells_cell hr 1
        have f1 := cells_free hr 1
        simp only [List.getElem?_toArray, List.getElem?_cons_zero, List.getElem?_cons_succ] at q0 q1
        clear hr
        go_wp2_with fail
        refine bodyPost_ret (results_cell_row3 Try.results51 _ _ (w.heap.size + 1) 88 #[.int .i64 nx, .slice a n c] (0, 0) _ rfl (set2 HR2.out _ _) Try.underlying88 rfl size88) rfl ?_
        exact ⟨_, by rw [HE.out, HNN.out, HS.out, HNX.out]; rfl, .inl ⟨rfl, HS.out⟩, below2 HB2.out (by omega) _ _⟩
    · have HBH : Hd (badH tw = false) := ⟨by unfold badH; simp only [decide_eq_false_iff_not]; exact hbad⟩
      have d1 : decide (tw < 0) = false := by simp; omega
      have d2 : decide (16 < tw) = false := by simp; omega
      obtain ⟨he, hhe⟩ : ∃ e, handE g4 r = e := ⟨_, rfl⟩
      have HHE := Hd.mk hhe
      have HW : Hd (derW st s tw r = he) := ⟨by unfold derW; rw [HGE.out, HBH.out, HGV.out, hhe]; simp⟩
      clear hbad hhe
      go_wp2_with fail
      refine (refhand_any g4 r _).mono ?_
      rintro e w3 ⟨rfl, hB⟩
      rw [HHE.out]
      have HX3 := Hd.mk ((hB.block w.heap.size (lt_heap HX2.out)).trans HX2.out)
      have HR3 := Hd.mk ((hB.block (w.heap.size + 1) (lt_heap HR2.out)).trans HR2.out)
      have HB3 := Hd.mk (HB2.out.trans (hB.mono HB2.out.size))
      clear HX2 HR2
      have HX3h := Hd.mk ((hB.block X (lt_heap HXX.out)).trans HXX.out)
      clear hB t0 t1 p4 d1 d2
      have t0 := (cells_cell HX3.out 0).trans (show _ = some (.int .i64 nx) from rfl)
      have t1 := (cells_cell HX3.out 1).trans (show _ = some (.slice a n c) from rfl)
      by_cases hz : he = 0
      · subst hz
        have hw : derW st s tw r = 0 := HW.out
        have HE : Hd (derE st s tw r = addE st tw) := ⟨by unfold derE; rw [if_pos hw]⟩
        have HNN : Hd (derN st s tw r = addN st tw) := ⟨by unfold derN; rw [if_pos hw]⟩
        have HS : Hd (derS st s tw r = addS st ⟨0, s, g2, tw, r⟩) := ⟨by unfold derS; rw [if_pos hw, HGV.out]⟩
        have HC2 := Hd.mk (refadd_any (HL.out.below HB3.out) HNX.out (par := s) (port := g2) (hol := tw) (r := r) (by rw [← HS.out]; exact HOKR.out) HFEW.out)
        rw [HN.out] at HC2
        have p2 := (cells_cell HX3h.out 2).trans (show _ = some (Value.int .i64 g2) from rfl)
        clear hw
        go_wp2_with fail
        refine HC2.out.mono ?_
        rintro e w9 ⟨v2, rfl, hp, hB⟩
        have hl9 := HL.out.below HB3.out
        rw [HN.out] at hl9
        have hrt := hp.ref hl9 hB
        obtain ⟨a2, c2, hv2⟩ := hrt.rows.shape
        have HP := Hd.mk hp
        have HB9 := Hd.mk (HB3.out.trans (hB.mono HB3.out.size))
        have HR9 := Hd.mk ((hB.block (w.heap.size + 1) (lt_heap HR3.out)).trans HR3.out)
        have HSZ : Hd (w.heap.size + 2 ≤ w3.heap.size ∧ w3.heap.size ≤ w9.heap.size) := ⟨by have := lt_heap HR3.out; omega, hB.size⟩
        subst hv2
        generalize (addS st ⟨0, s, g2, tw, r⟩).made.length = m at HP hrt ⊢
        clear hp hB hrt hl9 t0 t1 HC2 p2
        have hr := HR9.out
        have q0 := cells_cell hr 0
        have f0 := cells_free hr 0
        have q1 := cells_cell hr 1
        have f1 := cells_free hr 1
        simp only [List.getElem?_toArray, List.getElem?_cons_zero, List.getElem?_cons_succ] at q0 q1
        clear hr
        go_wp2_with fail
        refine bodyPost_ret (results_cell_row3 Try.results51 _ _ (w.heap.size + 1) 88 #[.int .i64 (addS st ⟨0, s, g2, tw, r⟩).next, .slice a2 m c2] (0, 0) _ rfl (set2 HR9.out _ _) Try.underlying88 rfl size88) rfl ?_
        refine ⟨_, by rw [HE.out, HNN.out, HS.out]; rfl, ?_, below2 HB9.out (by omega) _ _⟩
        rw [HS.out]
        have hz := HSZ.out
        refine RefP.lift HP.out ?_ ?_ (fun k hk _ => ?_)
        · omega
        · simp [World.setCell]
        exact other2 (by omega) _ _
      · have d1 : decide (he = 0) = false := decide_eq_false hz
        have d2 : (he == 0) = false := by simpa using hz
        have HZ := Hd.mk hz
        have hw : derW st s tw r = he := by exact HW.out
        have HE : Hd (derE st s tw r = he) := ⟨by unfold derE; rw [hw]; exact if_neg (by exact HZ.out)⟩
        have HNN : Hd (derN st s tw r = 0) := ⟨by unfold derN; rw [hw]; exact if_neg (by exact HZ.out)⟩
        have HS : Hd (derS st s tw r = st) := ⟨by unfold derS; rw [hw]; exact if_neg (by exact HZ.out)⟩
        clear hw
        clear hz
        have hr := HR3.out
        have q0 := cells_cell hr 0
        have f0 := cells_free hr 0
        have q1 := cells_cell hr 1
        have f1 := cells_free hr 1
        simp only [List.getElem?_toArray, List.getElem?_cons_zero, List.getElem?_cons_succ] at q0 q1
        clear hr
        go_wp2_with fail
        refine bodyPost_ret (results_cell_row3 Try.results51 _ _ (w.heap.size + 1) 88 #[.int .i64 nx, .slice a n c] (0, 0) _ rfl (set2 HR3.out _ _) Try.underlying88 rfl size88) rfl ?_
        exact ⟨_, by rw [HE.out, HNN.out, HS.out, HNX.out]; rfl, .inl ⟨rfl, HS.out⟩, below2 HB3.out (by omega) _ _⟩
  · have d1 : decide (ge = 0) = false := decide_eq_false he
    have d2 : (ge == 0) = false := by simpa using he
    obtain rfl : ge = 6 := by rcases HG6.out with h | h; exact absurd h he; exact h
    have hw : derW st s tw r = 6 := by unfold derW; rw [HGE.out]; rfl
    have HE : Hd (derE st s tw r = 6) := ⟨by unfold derE; rw [hw]; exact if_neg (by decide)⟩
    have HNN : Hd (derN st s tw r = 0) := ⟨by unfold derN; rw [hw]; exact if_neg (by decide)⟩
    have HS : Hd (derS st s tw r = st) := ⟨by unfold derS; rw [hw]; exact if_neg (by decide)⟩
    clear hw
    clear he d1 d2 p4
    have hr := HR2.out
    have q0 := cells_cell hr 0
    have f0 := cells_free hr 0
    have q1 := cells_cell hr 1
    have f1 := cells_free hr 1
    simp only [List.getElem?_toArray, List.getElem?_cons_zero, List.getElem?_cons_succ] at q0 q1
    clear hr
    go_wp2_with fail
    refine bodyPost_ret (results_cell_row3 Try.results51 _ _ (w.heap.size + 1) 88 #[.int .i64 nx, .slice a n c] (0, 0) _ rfl (set2 HR2.out _ _) Try.underlying88 rfl size88) rfl ?_
    exact ⟨_, by rw [HE.out, HNN.out, HS.out, HNX.out]; rfl, .inl ⟨rfl, HS.out⟩, below2 HB2.out (by omega) _ _⟩

end Go.Proofs.Ytinagiofolmhbaa
