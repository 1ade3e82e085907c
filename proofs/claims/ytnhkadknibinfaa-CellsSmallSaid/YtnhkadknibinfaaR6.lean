/- The reference's Store. -/
import Derived.Test.YtnhkadknibinfaaR5
namespace Go.Proofs.Ytnhkadknibinfaa
open Go.RowKit
set_option linter.unusedVariables false
set_option linter.unusedSimpArgs false

theorem set2c_box {W : World} {g : Nat} {x y : Value} (a b : Value) (h : W.heap[g]? = some (.cells #[x, y] 86 (0, 0))) : ((W.setCell ⟨g, 0, none⟩ a).setCell ⟨g, 1, none⟩ b).heap[g]? = some (.cells #[a, b] 86 (0, 0)) :=
  cells_set (o := 1) (cells_set (o := 0) h a) b
theorem set2c_other {W : World} {g k : Nat} (a b : Value) (h : k ≠ g) : ((W.setCell ⟨g, 0, none⟩ a).setCell ⟨g, 1, none⟩ b).heap[k]? = W.heap[k]? := (setCell_other h).trans (setCell_other h)
theorem set2c_size {W : World} {g : Nat} (a b : Value) : ((W.setCell ⟨g, 0, none⟩ a).setCell ⟨g, 1, none⟩ b).heap.size = W.heap.size := by simp [World.setCell]
theorem two_boxes (w : World) (v1 v2 : Value) : ((w.alloc (.cells #[v1, v2] 86)).alloc (.cells #[.slice none 0 0, .slice none 0 0] 86)).heap[w.heap.size]? = some (.cells #[v1, v2] 86 (0, 0)) ∧
    ((w.alloc (.cells #[v1, v2] 86)).alloc (.cells #[.slice none 0 0, .slice none 0 0] 86)).heap[w.heap.size + 1]? = some (.cells #[.slice none 0 0, .slice none 0 0] 86 (0, 0)) ∧
    Below w.heap.size w ((w.alloc (.cells #[v1, v2] 86)).alloc (.cells #[.slice none 0 0, .slice none 0 0] 86)) ∧ ((w.alloc (.cells #[v1, v2] 86)).alloc (.cells #[.slice none 0 0, .slice none 0 0] 86)).heap.size = w.heap.size + 2 := by
  have h1 := heap_alloc_new (w.alloc (.cells #[v1, v2] 86)) (.cells #[.slice none 0 0, .slice none 0 0] 86)
  rw [World.size_alloc] at h1
  exact ⟨by rw [heap_alloc_old _ _ (by simp)]; exact heap_alloc_new _ _, h1, ((Below.refl w.heap.size w).alloc (Nat.le_refl _) _).alloc (by simp) _, by simp⟩
theorem RefAt.grown {pr : Nat → Prop} {w w' : World} {v1 v2 : Value} {st : St} (h : RefAt pr w v1 v2 st) (hB : Below w.heap.size w w') : RefAt (grow pr w w') w' v1 v2 st := h.mono (fun k hk _ => .inl hk) (fun k _ hl => hB.block k hl) hB.size

set_option maxRecDepth 100000 in
set_option maxHeartbeats 1000000 in
theorem rstore_any {pr : Nat → Prop} {w : World} {v1 v2 : Value} {st : St} (h : RefAt pr w v1 v2 st) (hok : StOk st) (o i v : Int) :
    Calls Try.prog 42 #[.agg #[v1, v2], .int .i64 o, .int .i64 i, .int .i64 v] w fun e w' => ∃ v1' v2', e = .returned (.tuple #[.agg #[v1', v2'], .int .i64 (ldV st.now o i), .int .i64 (ldE st.now o i)]) ∧ RefAt (grow pr w w') w' v1' v2' (storeS st o i v) ∧ Below w.heap.size w w' := by
  obtain ⟨a1, cc1, h1, _⟩ := h.now.shape
  obtain ⟨a2, cc2, h2, _⟩ := h.marks.shape
  obtain ⟨N1, hN1⟩ : ∃ n, st.now.length = n := ⟨_, rfl⟩
  obtain ⟨N2, hN2⟩ : ∃ n, st.marks.length = n := ⟨_, rfl⟩
  rw [hN1] at h1
  rw [hN2] at h2
  subst h1 h2
  clear hN1 hN2
  obtain ⟨hb0, hb1, hB1, hs1⟩ := two_boxes w (.slice a1 N1 cc1) (.slice a2 N2 cc2)
  obtain ⟨w1, hw1⟩ : ∃ W, (w.alloc (.cells #[.slice a1 N1 cc1, .slice a2 N2 cc2] 86)).alloc (.cells #[.slice none 0 0, .slice none 0 0] 86) = W := ⟨_, rfl⟩
  rw [hw1] at hb0 hb1 hB1 hs1
  obtain ⟨G, hG⟩ : ∃ g, w.heap.size = g := ⟨_, rfl⟩
  rw [hG] at hb0 hb1 hs1
  have HL := rload_any (h.below hB1) hok.owners hok.cells o i
  have b0 := cells_cell hb0 0
  have b1 := cells_cell hb0 1
  have f0 := cells_free hb0 0
  simp only [List.getElem?_toArray, List.getElem?_cons_zero, List.getElem?_cons_succ] at b0 b1
  have HR := Hd.mk h
  have HR1 := Hd.mk (h.below hB1)
  have HB1 := Hd.mk hB1
  have HX0 := Hd.mk hb0
  have HX1 := Hd.mk hb1
  have HS1 : Hd (w1.heap.size = G + 2 ∧ w.heap.size = G) := ⟨hs1, hG⟩
  have HOK := Hd.mk hok
  by_cases hE : ldE st.now o i = 0
  · obtain ⟨x, hx, hv⟩ := ld_ok hE
    obtain ⟨r, k, hr, hk, er, ex⟩ := at2_some hx
    simp only [Prod.mk.injEq] at er
    obtain ⟨rfl, rfl⟩ := er
    rw [hE, hv] at HL ⊢
    have hT : storeS st ((r : Int) + 1) (k : Int) v = { st with now := set2 st.now ((r : Int) + 1, (k : Int)) v } := storeS_ok hE
    rw [hT]
    have HRK : Hd (∃ hr : r < st.now.length, k < st.now[r].length) := ⟨⟨hr, hk⟩⟩
    have r16 : r < 16 := by have := hok.owners; omega
    have k24 : k < 1024 := by have := hok.cells _ (List.getElem_mem hr); omega
    have wq : IntKind.i64.wrap ((r : Int) + 1 - 1) = (r : Int) := by rw [show (r : Int) + 1 - 1 = (r : Int) by omega]; exact IntWalk.i64_in _ ⟨by omega, by omega⟩
    have wq2 : IntKind.i64.wrap (r : Int) = (r : Int) := IntWalk.i64_in _ ⟨by omega, by omega⟩
    clear h hok hb0 hb1 hB1 hs1 hE hx hv hr hk ex hT
    go_enter Try.func42, Try.ntmps42
    go_wp2_with fail
    refine HL.mono ?_
    rintro e w2 ⟨rfl, hB2⟩
    have hb2 := (hB2.block G (by have := HS1.out; omega)).trans HX0.out
    have b0 := cells_cell hb2 0
    have b1 := cells_cell hb2 1
    have f0 := cells_free hb2 0
    simp only [List.getElem?_toArray, List.getElem?_cons_zero, List.getElem?_cons_succ] at b0 b1
    have HB2 := Hd.mk hB2
    have HCP := copied_any (HR1.out.now.below hB2) HOK.out.owners HOK.out.cells
    clear hb2 hB2 HL hw1 hG
    go_wp2_with fail
    refine HCP.mono ?_
    rintro e w3 ⟨y, rfl, hrw⟩
    clear HCP
    obtain ⟨hra, hka⟩ := HRK.out
    obtain ⟨C, hC, hCp, cC⟩ := hrw.rows.at r hra
    obtain ⟨g, cur, hg, hgp, hgb, hgc, hgm, hcell⟩ := hrw.rows.row r hra (by omega)
    have hb3 := ((HB2.out.trans (hrw.bel.mono HB2.out.size)).block G (by have := HS1.out; omega)).trans HX0.out
    have b0 := cells_cell hb3 0
    have b1 := cells_cell hb3 1
    have f0 := cells_free hb3 0
    simp only [List.getElem?_toArray, List.getElem?_cons_zero, List.getElem?_cons_succ] at b0 b1
    have hCG : C ≠ G := by
      intro e
      have := hrw.rows.own.ty (g := C) (by rw [hC]; rfl)
      obtain ⟨cu, q⟩ := this
      rw [e, hb3] at q; simp at q
    have hgG : g ≠ G := by intro e; rw [e, hb3] at hgb; simp at hgb
    have hgG1 : g ≠ G + 1 := by
      intro e
      have h1 := ((HB2.out.trans (hrw.bel.mono HB2.out.size)).block (G + 1) (by have := HS1.out; omega)).trans HX1.out
      rw [e, h1] at hgb; simp at hgb
    have hC4 : (w3.setCell ⟨G, 0, none⟩ (.slice y.ca st.now.length y.cc)).cell? ⟨C, r, none⟩ = some (.slice (y.ra r) st.now[r].length (y.rc r)) := by
      rw [World.cell?_setCell_far _ _ _ _ (fun e => hCG e.symm)]; exact cC
    have hb4 := cells_set (o := 0) hb3 (.slice y.ca st.now.length y.cc)
    have hgb4 : (w3.setCell ⟨G, 0, none⟩ (.slice y.ca st.now.length y.cc)).heap[g]? = some (.cells cur 2 (0, 0)) := (setCell_other hgG).trans hgb
    rw [hg] at hC4
    have HRW := Hd.mk hrw
    obtain ⟨N, hN⟩ : ∃ n, st.now.length = n := ⟨_, rfl⟩
    obtain ⟨n, hn⟩ : ∃ n, st.now[r].length = n := ⟨_, rfl⟩
    have hkn : k < n := by rw [← hn]; exact hka
    have hrN : r < N := by rw [← hN]; exact hra
    have hcr := hcell k hka
    have gc := cells_cell hgb4 k
    rw [hcr] at gc
    obtain ⟨ox, hox⟩ : ∃ x, st.now[r][k] = x := ⟨_, rfl⟩
    rw [hox] at gc
    simp only [iv] at gc
    have gf := cells_free hgb4 k
    have e4 := cells_cell hb4 0
    have e5 := cells_cell hb4 1
    obtain ⟨W4, hW4⟩ : ∃ W, w3.setCell ⟨G, 0, none⟩ (.slice y.ca st.now.length y.cc) = W := ⟨_, rfl⟩
    have h4o : ∀ b, b ≠ G → W4.heap[b]? = w3.heap[b]? := fun b hb => by rw [← hW4]; exact setCell_other hb
    have h4s : W4.heap.size = w3.heap.size := by rw [← hW4]; simp [World.setCell]
    have h4B : Below w.heap.size w W4 := by
      rw [← hW4]
      exact ((HB1.out.trans (HB2.out.mono HB1.out.size)).trans (hrw.bel.mono (Nat.le_trans HB1.out.size HB2.out.size))).setCell (by have := HS1.out; show w.heap.size ≤ G; omega) _
    have hrows4 : RowsAt y W4 (fun k => k < w2.heap.size) st.now := hrw.rows.keep (fun b cs fr hb => h4o b (fun e => by rw [e, hb3] at hb; simp at hb)) (fun b cs fr hb => h4o b (fun e => by rw [e, hb3] at hb; simp at hb))
    rw [hW4] at hC4 hb4 hgb4 gc gf e4 e5
    have hset := hrows4.set hra hka v hg hgb4 (cells_set hgb4 (iv v)) (grown_cell W4 g k (iv v)) (fun q hq => by rw [h4s]; exact Nat.lt_of_lt_of_le hq hrw.bel.size)
    have hb5 := (setCell_other (v := iv v) (W := W4) (o := k) (fun e => hgG e.symm) : (W4.setCell ⟨g, k, none⟩ (iv v)).heap[G]? = W4.heap[G]?).trans hb4
    have h41 : W4.heap[G + 1]? = some (.cells #[.slice none 0 0, .slice none 0 0] 86 (0, 0)) := by
      rw [h4o _ (by omega)]
      exact ((HB2.out.trans (hrw.bel.mono HB2.out.size)).block (G + 1) (by have := HS1.out; omega)).trans HX1.out
    have hb6 := (setCell_other (v := iv v) (W := W4) (o := k) (fun e => hgG1 e.symm) : (W4.setCell ⟨g, k, none⟩ (iv v)).heap[G + 1]? = W4.heap[G + 1]?).trans h41
    have h5B : Below w.heap.size w (W4.setCell ⟨g, k, none⟩ (iv v)) := h4B.setCell (by have := HB2.out.size; have := HS1.out; show w.heap.size ≤ g; omega) _
    simp only [List.getElem?_toArray, List.getElem?_cons_zero, List.getElem?_cons_succ, List.setIfInBounds_toArray, List.set_cons_zero] at e4 e5 hb5 hb4
    rw [hn] at hC4
    rw [hN] at e4 hb5 hb4 hW4 ⊢
    rw [hC] at e4 hb5 hb4 hW4 ⊢
    have m0 := cells_cell hb5 0
    have m1 := cells_cell hb5 1
    have r0 := cells_cell hb6 0
    have r1 := cells_cell hb6 1
    have g0 := cells_free hb6 0
    have g1 := cells_free hb6 1
    simp only [List.getElem?_toArray, List.getElem?_cons_zero, List.getElem?_cons_succ] at m0 m1 r0 r1
    have HF := Hd.mk (set2c_box (.slice (some ⟨C, 0, none⟩) N y.cc) (.slice a2 N2 cc2) hb6)
    have H5B := Hd.mk h5B
    have HSET := Hd.mk hset
    have H5X := Hd.mk hb6
    have HNN := Hd.mk hN
    have HCC := Hd.mk hC
    have HSZ : Hd (w.heap.size ≤ w2.heap.size) := ⟨by have := HB2.out.size; have := HS1.out; omega⟩
    have k0 : (0 : Int) ≤ (k : Int) := by omega
    have k1 : (k : Int) < (n : Int) := by omega
    have k2 : (0 : Int) ≤ (r : Int) := by omega
    have k3 : (r : Int) < (N : Int) := by omega
    simp only [iv] at m0 m1 r0 r1 g0 g1
    clear hox hcr hkn hrw hra hka hg hgp hgb hgc hgm hcell hb3 hCp cC hCG hgG hgG1 hb4 hgb4 hN hn hrN h4o h4s h4B hrows4 hset hb5 h41 hb6 h5B hC
    go_wp2_with fail
    refine bodyPost_ret (results_cell_row3 Try.results42 _ _ (G + 1) 86 _ (0, 0) _ rfl HF.out Try.underlying86 rfl (by kernel_rfl)) rfl ?_
    have hBf : Below w.heap.size w (((W4.setCell ⟨g, k, none⟩ (iv v)).setCell ⟨G + 1, 0, none⟩ (.slice (some ⟨C, 0, none⟩) N y.cc)).setCell ⟨G + 1, 1, none⟩ (.slice a2 N2 cc2)) := (H5B.out.setCell (by have := HS1.out; show w.heap.size ≤ G + 1; omega) _).setCell (by have := HS1.out; show w.heap.size ≤ G + 1; omega) _
    refine ⟨.slice (some ⟨C, 0, none⟩) N y.cc, .slice a2 N2 cc2, rfl, ⟨?_, ?_⟩, hBf⟩
    · have hl : (set2 st.now ((r : Int) + 1, (k : Int)) v).length = N := by rw [← HNN.out]; exact shape_len (shape_set2 _ _ _)
      have hk := HSET.out.keep (w' := ((W4.setCell ⟨g, k, none⟩ (iv v)).setCell ⟨G + 1, 0, none⟩ (.slice (some ⟨C, 0, none⟩) N y.cc)).setCell ⟨G + 1, 1, none⟩ (.slice a2 N2 cc2))
        (fun b cs fr hb => set2c_other _ _ (fun e => by rw [e, H5X.out] at hb; simp at hb)) (fun b cs fr hb => set2c_other _ _ (fun e => by rw [e, H5X.out] at hb; simp at hb))
      have hp := hk.prows (pr := grow pr w (((W4.setCell ⟨g, k, none⟩ (iv v)).setCell ⟨G + 1, 0, none⟩ (.slice (some ⟨C, 0, none⟩) N y.cc)).setCell ⟨G + 1, 1, none⟩ (.slice a2 N2 cc2))) (fun b h1 h2 => .inr ⟨by have := HSZ.out; omega, h2⟩)
      rw [hl, HCC.out] at hp
      exact hp
    · exact HR.out.marks.mono (fun k hk _ => .inl hk) (fun k _ hl => hBf.block k hl) hBf.size
  · have hT : storeS st o i v = st := storeS_bad hE
    rw [hT]
    have hV := ld_bad hE
    rw [hV] at HL ⊢
    obtain ⟨E, hEE⟩ : ∃ E, ldE st.now o i = E := ⟨_, rfl⟩
    rw [hEE] at HL hE ⊢
    have hEb : (E != 0) = true := by simpa using hE
    have hEd : decide (E = 0) = false := decide_eq_false hE
    clear h hok hb0 hb1 hB1 hs1 hT hV hEE
    go_enter Try.func42, Try.ntmps42
    go_wp2_with fail
    refine HL.mono ?_
    rintro e w2 ⟨rfl, hB2⟩
    have hb2 := (hB2.block G (by have := HS1.out; omega)).trans HX0.out
    have hb3 := (hB2.block (G + 1) (by have := HS1.out; omega)).trans HX1.out
    have b0 := cells_cell hb2 0
    have b1 := cells_cell hb2 1
    have c0 := cells_cell hb3 0
    have c1 := cells_cell hb3 1
    have g0 := cells_free hb3 0
    have g1 := cells_free hb3 1
    simp only [List.getElem?_toArray, List.getElem?_cons_zero, List.getElem?_cons_succ] at b0 b1 c0 c1
    have HF := Hd.mk (set2c_box (.slice a1 N1 cc1) (.slice a2 N2 cc2) hb3)
    have HB2 := Hd.mk (HB1.out.trans (hB2.mono HB1.out.size))
    clear hb2 hb3 hB2 HL hw1 hG
    go_wp2_with fail
    refine bodyPost_ret (results_cell_row3 Try.results42 _ _ (G + 1) 86 _ (0, 0) _ rfl HF.out Try.underlying86 rfl (by kernel_rfl)) rfl ?_
    have hBf : Below w.heap.size w ((w2.setCell ⟨G + 1, 0, none⟩ (.slice a1 N1 cc1)).setCell ⟨G + 1, 1, none⟩ (.slice a2 N2 cc2)) := (HB2.out.setCell (by have := HS1.out; show w.heap.size ≤ G + 1; omega) _).setCell (by have := HS1.out; show w.heap.size ≤ G + 1; omega) _
    exact ⟨.slice a1 N1 cc1, .slice a2 N2 cc2, rfl, HR.out.grown hBf, hBf⟩
end Go.Proofs.Ytnhkadknibinfaa
