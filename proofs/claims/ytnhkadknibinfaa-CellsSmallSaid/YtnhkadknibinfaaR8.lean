/- The reference's Pop. -/
import Derived.Test.YtnhkadknibinfaaR7
namespace Go.Proofs.Ytnhkadknibinfaa
open Go.RowKit
set_option linter.unusedVariables false
set_option linter.unusedSimpArgs false

theorem OwnD.slice {w : World} {base e : Nat} {v : Value} {cs : List Ch} (h : OwnD w base e v cs) : ∃ a c, v = .slice a cs.length c := h.src.shape
/-- Marks without the last one, in a row of their own. -/
theorem pop_run {pr : Nat → Prop} {w W4 : World} {a2 : Option Addr} {nm cc2 m : Nat} {ms : List (List (List Int))} (h : PMarks pr w (.slice a2 nm cc2) ms) (hm : m ≤ ms.length) (hl : ms.length ≤ 64) (hB : Below w.heap.size w W4) :
    ∃ a n c w6, (Builtin.append_ #[84, 84] 84 #[.slice (some ⟨W4.heap.size, 0, none⟩) 0 0, .slice a2 m cc2]).run Try.prog (W4.alloc (.cells #[] 60)) = .ok (.slice a n c) w6 ∧ (∃ vs : List Value, vs.length = m ∧ (∀ k (hk : k < (ms.take m).length) (hv : k < vs.length), PRows pr w vs[k] (ms.take m)[k]) ∧ OwnE id w6 W4.heap.size 60 (.slice a n c) vs) ∧
      Below W4.heap.size W4 w6 := by
  obtain ⟨vs, h1, h2, h3, h4⟩ := PMarks.src (show PMarks pr w (.slice a2 m cc2) (ms.take m) from PList.take h m hm)
  have hml : (ms.take m).length = m := by simp; omega
  have hmade := OwnE.made (id : Value → Value) W4 W4.heap.size 60 (Nat.le_refl _)
  have hBa : Below W4.heap.size W4 (W4.alloc (.cells #[] 60)) := (Below.refl _ _).alloc (Nat.le_refl _) _
  obtain ⟨v6, w6, hr, ho, hg⟩ := app84 hmade (by simp) (SrcE.below h2 (hB.alloc hB.size _)) h4 (by simp; omega)
  obtain ⟨a, n, c, rfl⟩ := own_shape ho
  exact ⟨a, n, c, w6, hr, ⟨vs, by omega, h3, by simpa using ho⟩, OwnE.grown hmade hBa (by simp) hg⟩

set_option maxRecDepth 100000 in
set_option maxHeartbeats 2000000 in
theorem rpop_any {pr : Nat → Prop} {w : World} {v1 v2 : Value} {st : St} (h : RefAt pr w v1 v2 st) (hok : StOk st) (back : Bool) :
    Calls Try.prog 40 #[.agg #[v1, v2], .bool back] w fun e w' => ∃ v1' v2', e = .returned (.tuple #[.agg #[v1', v2'], .int .i64 (popN st), .int .i64 (popE st)]) ∧ RefAt (grow pr w w') w' v1' v2' (if back then backS st else keepS st) ∧ Below w.heap.size w w' := by
  obtain ⟨a1, cc1, h1, _⟩ := h.now.shape
  obtain ⟨a2, cc2, h2, _⟩ := h.marks.shape
  obtain ⟨N, hN⟩ : ∃ n, st.now.length = n := ⟨_, rfl⟩
  obtain ⟨nm, hnm⟩ : ∃ n, st.marks.length = n := ⟨_, rfl⟩
  rw [hN] at h1
  rw [hnm] at h2
  subst h1 h2
  obtain ⟨hb0, hb1, hB1, hs1⟩ := two_boxes w (.slice a1 N cc1) (.slice a2 nm cc2)
  obtain ⟨w1, hw1⟩ : ∃ W, (w.alloc (.cells #[.slice a1 N cc1, .slice a2 nm cc2] 86)).alloc (.cells #[.slice none 0 0, .slice none 0 0] 86) = W := ⟨_, rfl⟩
  rw [hw1] at hb0 hb1 hB1 hs1
  obtain ⟨G, hG⟩ : ∃ g, w.heap.size = g := ⟨_, rfl⟩
  rw [hG] at hb0 hb1 hs1
  have b0 := cells_cell hb0 0
  have b1 := cells_cell hb0 1
  have c0 := cells_cell hb1 0
  have c1 := cells_cell hb1 1
  have g0 := cells_free hb1 0
  have g1 := cells_free hb1 1
  simp only [List.getElem?_toArray, List.getElem?_cons_zero, List.getElem?_cons_succ] at b0 b1 c0 c1
  have HR := Hd.mk h
  have HB1 := Hd.mk hB1
  have HX0 := Hd.mk hb0
  have HX1 := Hd.mk hb1
  have HS1 : Hd (w1.heap.size = G + 2 ∧ w.heap.size = G) := ⟨hs1, hG⟩
  have HOK := Hd.mk hok
  have HN := Hd.mk hN
  have HNM := Hd.mk hnm
  rcases nm with _ | m
  · have hnil : st.marks = [] := List.length_eq_zero_iff.1 hnm
    have e1 : popN st = 0 := by unfold popN; rw [if_pos hnil]
    have e2 : popE st = 213 := by unfold popE; rw [if_pos hnil]
    have e3 : (if back then backS st else keepS st) = st := by unfold backS keepS; rw [if_pos hnil, if_pos hnil]; cases back <;> rfl
    rw [e1, e2, e3]
    have HF := Hd.mk (set2c_box (.slice a1 N cc1) (.slice a2 0 cc2) hb1)
    clear h hok hb0 hb1 hB1 hs1 hN hnm e1 e2 e3 hnil
    go_enter Try.func40, Try.ntmps40
    go_wp2_with fail
    refine bodyPost_ret (results_cell_row3 Try.results40 _ _ (G + 1) 86 _ (0, 0) _ rfl HF.out Try.underlying86 rfl (by kernel_rfl)) rfl ?_
    have hBf : Below w.heap.size w ((w1.setCell ⟨G + 1, 0, none⟩ (.slice a1 N cc1)).setCell ⟨G + 1, 1, none⟩ (.slice a2 0 cc2)) := (HB1.out.setCell (by have := HS1.out; show w.heap.size ≤ G + 1; omega) _).setCell (by have := HS1.out; show w.heap.size ≤ G + 1; omega) _
    exact ⟨.slice a1 N cc1, .slice a2 0 cc2, rfl, HR.out.grown hBf, hBf⟩
  · have hne : st.marks ≠ [] := fun e => by rw [e] at hnm; cases hnm
    obtain ⟨q, hq⟩ : ∃ q, (changesV st).length = q := ⟨_, rfl⟩
    have e1 : popN st = (q : Int) := by unfold popN; rw [if_neg hne, hq]
    have e2 : popE st = 0 := by unfold popE; rw [if_neg hne]
    have hml : m < st.marks.length := by omega
    have hbase : baseV st = st.marks[m] := by
      unfold baseV
      rw [List.getLast?_eq_getElem?, hnm, Nat.add_sub_cancel, List.getElem?_eq_getElem hml]; rfl
    have hdl : st.marks.dropLast = st.marks.take m := by rw [List.dropLast_eq_take, hnm, Nat.add_sub_cancel]
    have e3 : (if back then backS st else keepS st) = ⟨if back then baseV st else st.now, st.marks.take m⟩ := by unfold backS keepS; rw [if_neg hne, if_neg hne, hdl]; cases back <;> rfl
    rw [e1, e2, e3]
    have HCH := rchanges_any (h.below hB1) hok
    have HQ := Hd.mk hq
    have HBS := Hd.mk (base_shape hok)
    have HBA := Hd.mk (And.intro hml (show ∀ h : m < st.marks.length, st.marks[m] = baseV st from fun _ => hbase.symm))
    have m64 : m ≤ 63 := by have := hok.many; omega
    have t1 : decide (((m + 1 : Nat) : Int) = 0) = false := by simp; omega
    have t2 : ((((m + 1 : Nat) : Int)) == 0) = false := by simp; omega
    have t3 : IntKind.i64.wrap (m : Int) = (m : Int) := IntWalk.i64_in _ ⟨by omega, by omega⟩
    have t4 : (0 : Int) ≤ (m : Int) := by omega
    have t5 : (m : Int) < (m : Int) + 1 := by omega
    have t6 : (m : Int) ≤ (m : Int) + 1 := by omega
    have hcm := (h.marks.shape)
    have HCC : Hd (m + 1 ≤ cc2 ∧ cc2 ≤ 9223372036854775807) := ⟨by
      obtain ⟨a', c', e, q1, q2⟩ := h.marks.shape
      simp only [Value.slice.injEq] at e
      obtain ⟨_, _, rfl⟩ := e
      exact ⟨by omega, q2⟩⟩
    have t7 : (m : Int) ≤ (cc2 : Int) := by have := HCC.out; omega
    clear h hok hb0 hb1 hB1 hs1 hN hnm e1 e2 e3 hne hq hml hbase hdl hcm
    go_enter Try.func40, Try.ntmps40
    go_wp2_with fail
    clear hw1 hG
    refine HCH.mono ?_
    rintro e w2 ⟨v, rfl, hO, hB2⟩
    obtain ⟨ac, cc, rfl⟩ := hO.slice
    rw [HQ.out]
    clear hO HCH
    have hb2 := (hB2.block G (by have := HS1.out; omega)).trans HX0.out
    have hx2 := (hB2.block (G + 1) (by have := HS1.out; omega)).trans HX1.out
    have b0 := cells_cell hb2 0
    have b1 := cells_cell hb2 1
    have f0 := cells_free hb2 0
    have f1 := cells_free hb2 1
    simp only [List.getElem?_toArray, List.getElem?_cons_zero, List.getElem?_cons_succ] at b0 b1
    have HB2 := Hd.mk (HB1.out.trans (hB2.mono HB1.out.size))
    have HX2 := Hd.mk hb2
    have HY2 := Hd.mk hx2
    have HL2 : Hd (w1.heap.size ≤ w2.heap.size) := ⟨hB2.size⟩
    clear hb2 hx2 hB2
    cases back with
    | false =>
      have hB4 := HB2.out
      have lG4 := lt_of_heap HX2.out
      have lG5 := lt_of_heap HY2.out
      obtain ⟨a6, n6, c6, w6, hr6, hvs6, hB6⟩ := pop_run (m := m) HR.out.marks (by have := HNM.out; omega) (by have := HNM.out; omega) hB4
      obtain rfl : n6 = m := by
        obtain ⟨vs, q1, _, q2⟩ := hvs6
        have := own_len q2; omega
      have hb6 := (hB6.block G (lt_of_heap HX2.out)).trans HX2.out
      have hx6 := (hB6.block (G + 1) (lt_of_heap HY2.out)).trans HY2.out
      have hb7 := cells_set (o := 1) hb6 (.slice a6 n6 c6)
      have hx7 := (setCell_other (v := .slice a6 n6 c6) (W := w6) (o := 1) (show G + 1 ≠ G by omega) : (w6.setCell ⟨G, 1, none⟩ (.slice a6 n6 c6)).heap[G + 1]? = w6.heap[G + 1]?).trans hx6
      simp only [List.setIfInBounds_toArray, List.set_cons_zero, List.set_cons_succ] at hb7
      have m0 := cells_cell hb6 0
      have m1 := cells_cell hb6 1
      have mf := cells_free hb6 1
      have n0 := cells_cell hb7 0
      have n1 := cells_cell hb7 1
      have r0 := cells_cell hx7 0
      have r1 := cells_cell hx7 1
      have k0 := cells_free hx7 0
      have k1 := cells_free hx7 1
      simp only [List.getElem?_toArray, List.getElem?_cons_zero, List.getElem?_cons_succ] at m0 m1 n0 n1 r0 r1
      have HF := Hd.mk (set2c_box (.slice a1 N cc1) (.slice a6 n6 c6) hx7)
      have HV6 := Hd.mk hvs6
      have HB6 := Hd.mk hB6
      clear hB4 hvs6 hB6 hb6 hx6 hb7 hx7
      go_wp2_with (at_builtin; refine wpList_append_run rfl _ _ _ rfl rfl rfl hr6 ?_; clear hr6)
      refine bodyPost_ret (results_cell_row3 Try.results40 _ _ (G + 1) 86 _ (0, 0) _ rfl HF.out Try.underlying86 rfl (by kernel_rfl)) rfl ?_
      have hs1 := HS1.out
      have hs4 := HL2.out
      have hBf : Below w.heap.size w (((w6.setCell ⟨G, 1, none⟩ (.slice a6 n6 c6)).setCell ⟨G + 1, 0, none⟩ (.slice a1 N cc1)).setCell ⟨G + 1, 1, none⟩ (.slice a6 n6 c6)) :=
        (((HB2.out.trans (HB6.out.mono HB2.out.size)).setCell (by show w.heap.size ≤ G; omega) _).setCell (by show w.heap.size ≤ G + 1; omega) _).setCell (by show w.heap.size ≤ G + 1; omega) _
      obtain ⟨W9, hW9⟩ : ∃ W, ((w6.setCell ⟨G, 1, none⟩ (.slice a6 n6 c6)).setCell ⟨G + 1, 0, none⟩ (.slice a1 N cc1)).setCell ⟨G + 1, 1, none⟩ (.slice a6 n6 c6) = W := ⟨_, rfl⟩
      have h9 : ∀ b, b ≠ G → b ≠ G + 1 → W9.heap[b]? = w6.heap[b]? := fun b h1 h2 => by
        rw [← hW9, set2c_other _ _ h2]; exact setCell_other h1
      have h9s : W9.heap.size = w6.heap.size := by rw [← hW9, set2c_size]; simp [World.setCell]
      rw [hW9] at hBf ⊢
      refine ⟨(.slice a1 N cc1), .slice a6 n6 c6, rfl, ⟨?_, ?_⟩, hBf⟩
      · exact HR.out.now.mono (fun b hb _ => .inl hb) (fun b _ hl => hBf.block b hl) hBf.size
      · obtain ⟨vs, q1, q2, q3⟩ := HV6.out
        have hnm := HNM.out
        have q4 : OwnE id W9 w2.heap.size 60 (.slice a6 n6 c6) vs := q3.same fun g cur fr hg hv => by
          have := (World.ownsRow.lt q3 g hv).1
          exact h9 g (by omega) (by omega)
        refine PList.ofOwn q4 (by simp; omega) (fun k hk hk2 => (q2 k hk hk2).mono (fun b hb _ => .inl hb) (fun b _ hl => hBf.block b hl) hBf.size) (fun b h1 h2 => .inr ⟨by omega, h2⟩)
    | true =>
      have hml := HBA.out.1
      obtain ⟨bm, om, vm, rfl, _, _, cm, hmel⟩ := (HR.out.marks.mono (pr' := pr) (W' := w2) (fun k hk _ => hk) (fun k _ hl => HB2.out.block k hl) HB2.out.size).at m hml
      rw [HBA.out.2 hml] at hmel
      obtain ⟨sa, cs, rfl, _, _⟩ := hmel.shape
      obtain ⟨s, hs⟩ : ∃ s, baseV st = s := ⟨_, rfl⟩
      have hsh := HBS.out
      rw [hs] at hmel cm hsh
      have HSS := Hd.mk hs
      have hcells : ∀ l ∈ s, l.length ≤ 1024 := by
        intro l hl
        have h1 : l.length ∈ shape s := List.mem_map_of_mem hl
        rw [hsh] at h1
        obtain ⟨l2, h2, e⟩ := List.mem_map.1 h1
        rw [← e]; exact HOK.out.cells l2 h2
      have hrows : s.length ≤ 16 := by rw [shape_len hsh]; exact HOK.out.owners
      have HCP := copied_any hmel hrows hcells
      obtain ⟨ns, hns⟩ : ∃ n, s.length = n := ⟨_, rfl⟩
      rw [hns] at cm HCP
      have HNS := Hd.mk hns
      clear hml hmel hsh hcells hrows hs hns
      go_wp2_with fail
      refine HCP.mono ?_
      rintro e w3 ⟨y, rfl, hrw⟩
      clear HCP
      obtain ⟨W4, hW4⟩ : ∃ W, w3.setCell ⟨G, 0, none⟩ (.slice y.ca ns y.cc) = W := ⟨_, rfl⟩
      have hb3 := (hrw.bel.block G (lt_of_heap HX2.out)).trans HX2.out
      have hx3 := (hrw.bel.block (G + 1) (lt_of_heap HY2.out)).trans HY2.out
      have hb4 := cells_set (o := 0) hb3 (.slice y.ca ns y.cc)
      have hx4 := (setCell_other (v := .slice y.ca ns y.cc) (W := w3) (o := 0) (show G + 1 ≠ G by omega) : (w3.setCell ⟨G, 0, none⟩ (.slice y.ca ns y.cc)).heap[G + 1]? = w3.heap[G + 1]?).trans hx3
      simp only [List.setIfInBounds_toArray, List.set_cons_zero, List.set_cons_succ] at hb4
      have d0 := cells_cell hb3 0
      have d1 := cells_free hb3 0
      simp only [List.getElem?_toArray, List.getElem?_cons_zero] at d0
      have h4o : ∀ b, b ≠ G → W4.heap[b]? = w3.heap[b]? := fun b hb => by rw [← hW4]; exact setCell_other hb
      have h4s : W4.heap.size = w3.heap.size := by rw [← hW4]; simp [World.setCell]
      have hB4 : Below w.heap.size w W4 := by
        rw [← hW4]
        exact (HB2.out.trans (hrw.bel.mono HB2.out.size)).setCell (by have := HS1.out; show w.heap.size ≤ G; omega) _
      rw [hW4] at hb4 hx4
      have e0 := cells_cell hb4 0
      have e1 := cells_cell hb4 1
      simp only [List.getElem?_toArray, List.getElem?_cons_zero, List.getElem?_cons_succ] at e0 e1
      have HB4 := Hd.mk hB4
      have HX4 := Hd.mk hb4
      have HY4 := Hd.mk hx4
      have HL4 : Hd (w1.heap.size ≤ W4.heap.size) := ⟨by have h1 := HL2.out; have h2 := hrw.bel.size; omega⟩
      have HRW := Hd.mk (And.intro hrw (And.intro h4o h4s))
      clear hb3 hx3 hb4 hx4 h4o h4s hB4 hrw
      have hB4 := HB4.out
      have lG4 := lt_of_heap HX4.out
      have lG5 := lt_of_heap HY4.out
      obtain ⟨a6, n6, c6, w6, hr6, hvs6, hB6⟩ := pop_run (m := m) HR.out.marks (by have := HNM.out; omega) (by have := HNM.out; omega) hB4
      obtain rfl : n6 = m := by
        obtain ⟨vs, q1, _, q2⟩ := hvs6
        have := own_len q2; omega
      have hb6 := (hB6.block G (lt_of_heap HX4.out)).trans HX4.out
      have hx6 := (hB6.block (G + 1) (lt_of_heap HY4.out)).trans HY4.out
      have hb7 := cells_set (o := 1) hb6 (.slice a6 n6 c6)
      have hx7 := (setCell_other (v := .slice a6 n6 c6) (W := w6) (o := 1) (show G + 1 ≠ G by omega) : (w6.setCell ⟨G, 1, none⟩ (.slice a6 n6 c6)).heap[G + 1]? = w6.heap[G + 1]?).trans hx6
      simp only [List.setIfInBounds_toArray, List.set_cons_zero, List.set_cons_succ] at hb7
      have m0 := cells_cell hb6 0
      have m1 := cells_cell hb6 1
      have mf := cells_free hb6 1
      have n0 := cells_cell hb7 0
      have n1 := cells_cell hb7 1
      have r0 := cells_cell hx7 0
      have r1 := cells_cell hx7 1
      have k0 := cells_free hx7 0
      have k1 := cells_free hx7 1
      simp only [List.getElem?_toArray, List.getElem?_cons_zero, List.getElem?_cons_succ] at m0 m1 n0 n1 r0 r1
      have HF := Hd.mk (set2c_box (.slice y.ca ns y.cc) (.slice a6 n6 c6) hx7)
      have HV6 := Hd.mk hvs6
      have HB6 := Hd.mk hB6
      clear hB4 hvs6 hB6 hb6 hx6 hb7 hx7
      go_wp2_with (at_builtin; refine wpList_append_run rfl _ _ _ rfl rfl rfl hr6 ?_; clear hr6)
      refine bodyPost_ret (results_cell_row3 Try.results40 _ _ (G + 1) 86 _ (0, 0) _ rfl HF.out Try.underlying86 rfl (by kernel_rfl)) rfl ?_
      have hs1 := HS1.out
      have hs4 := HL4.out
      have hBf : Below w.heap.size w (((w6.setCell ⟨G, 1, none⟩ (.slice a6 n6 c6)).setCell ⟨G + 1, 0, none⟩ (.slice y.ca ns y.cc)).setCell ⟨G + 1, 1, none⟩ (.slice a6 n6 c6)) :=
        (((HB4.out.trans (HB6.out.mono HB4.out.size)).setCell (by show w.heap.size ≤ G; omega) _).setCell (by show w.heap.size ≤ G + 1; omega) _).setCell (by show w.heap.size ≤ G + 1; omega) _
      obtain ⟨W9, hW9⟩ : ∃ W, ((w6.setCell ⟨G, 1, none⟩ (.slice a6 n6 c6)).setCell ⟨G + 1, 0, none⟩ (.slice y.ca ns y.cc)).setCell ⟨G + 1, 1, none⟩ (.slice a6 n6 c6) = W := ⟨_, rfl⟩
      have h9 : ∀ b, b ≠ G → b ≠ G + 1 → W9.heap[b]? = w6.heap[b]? := fun b h1 h2 => by
        rw [← hW9, set2c_other _ _ h2]; exact setCell_other h1
      have h9s : W9.heap.size = w6.heap.size := by rw [← hW9, set2c_size]; simp [World.setCell]
      rw [hW9] at hBf ⊢
      refine ⟨(.slice y.ca ns y.cc), .slice a6 n6 c6, rfl, ⟨?_, ?_⟩, hBf⟩
      · obtain ⟨hrw, h4o, h4s⟩ := HRW.out
        have h2s := HL2.out
        have hX3 := (hrw.bel.block G (lt_of_heap HX2.out)).trans HX2.out
        have hY3 := (hrw.bel.block (G + 1) (lt_of_heap HY2.out)).trans HY2.out
        have hk : ∀ (b : Nat) cs e fr, w3.heap[b]? = some (.cells cs e fr) → e ≠ 86 → W9.heap[b]? = w3.heap[b]? := by
          intro b cs e fr hb hne
          have n1 : b ≠ G := fun e' => by rw [e', hX3] at hb; simp at hb; exact hne hb.2.1.symm
          have n2 : b ≠ G + 1 := fun e' => by rw [e', hY3] at hb; simp at hb; exact hne hb.2.1.symm
          rw [h9 b n1 n2, HB6.out.block b (by rw [h4s]; exact lt_of_heap hb)]
          exact h4o b n1
        have hp := (hrw.rows.keep (w' := W9) (fun b cs fr hb => hk b cs 28 fr hb (by decide)) (fun b cs fr hb => hk b cs 2 fr hb (by decide))).prows (pr := grow pr w W9) (fun b h1 h2 => .inr ⟨by omega, h2⟩)
        rw [HNS.out] at hp
        show PRows _ _ _ (baseV st)
        rw [HSS.out]
        exact hp
      · obtain ⟨vs, q1, q2, q3⟩ := HV6.out
        have hnm := HNM.out
        have q4 : OwnE id W9 W4.heap.size 60 (.slice a6 n6 c6) vs := q3.same fun g cur fr hg hv => by
          have := (World.ownsRow.lt q3 g hv).1
          exact h9 g (by omega) (by omega)
        refine PList.ofOwn q4 (by simp; omega) (fun k hk hk2 => (q2 k hk hk2).mono (fun b hb _ => .inl hb) (fun b _ hl => hBf.block b hl) hBf.size) (fun b h1 h2 => .inr ⟨by omega, h2⟩)
end Go.Proofs.Ytnhkadknibinfaa
