/- The reference: add. -/
import Derived.Test.YtinagiofolmhbaaR5
namespace Go.Proofs.Ytinagiofolmhbaa
open Go.RowKit
set_option linter.unusedVariables false
set_option linter.unusedSimpArgs false


set_option maxRecDepth 100000 in
set_option maxHeartbeats 2000000 in
theorem refadd_any {st : St} {v : Value} {w : World} (h : RefT w v st) {nx : Int} (hnx : st.next = nx) {par port hol : Int} {r : BitVec 8} (hok : Ok (addS st ⟨0, par, port, hol, r⟩)) (hfew : st.made.length < 1000) :
    Calls Try.prog 64 #[.agg #[.int .i64 nx, v], .agg #[.int .i64 0, .int .i64 par, .int .i64 port, .int .i64 hol, .int .i64 (n8 r), .bool false]] w fun e w' => ∃ v', e = .returned (.tuple #[.agg #[.int .i64 (addS st ⟨0, par, port, hol, r⟩).next, v'], .int .i64 (addN st hol), .int .i64 (addE st hol)]) ∧ RefP w.heap.size v st w' v' (addS st ⟨0, par, port, hol, r⟩) ∧ Below w.heap.size w w' := by
  obtain ⟨a, c, rfl⟩ := h.rows.shape
  have HL := Hd.mk h
  have HOK := Hd.mk hok
  obtain ⟨n, hn⟩ : ∃ n, st.made.length = n := ⟨_, rfl⟩
  have HN := Hd.mk hn
  have HNX := Hd.mk hnx
  have HN2 : Hd (n < 1000) := ⟨by rw [← hn]; exact hfew⟩
  have HNB : Hd (1 ≤ nx ∧ nx ≤ 281474976710657) := ⟨by rw [← hnx]; exact ⟨h.ok.n1, h.ok.n2⟩⟩
  rw [hn]
  clear h hnx hn hok hfew
  obtain ⟨W0, hW0⟩ : ∃ W, (((w.alloc (.cells #[.int .i64 nx, .slice a n c] 88)).alloc (.cells #[.int .i64 0, .int .i64 par, .int .i64 port, .int .i64 hol, .int .i64 (n8 r), .bool false] 104)).alloc (.cells #[.int .i64 0, .slice none 0 0] 88)) = W := ⟨_, rfl⟩
  have hs1 : (w.alloc (.cells #[.int .i64 nx, .slice a n c] 88)).heap.size = w.heap.size + 1 := by simp
  have hs2 : ((w.alloc (.cells #[.int .i64 nx, .slice a n c] 88)).alloc (.cells #[.int .i64 0, .int .i64 par, .int .i64 port, .int .i64 hol, .int .i64 (n8 r), .bool false] 104)).heap.size = w.heap.size + 2 := by simp
  have hB0 : Below w.heap.size w W0 := by rw [← hW0]; exact (((Below.refl _ _).alloc (Nat.le_refl _) _).alloc (by rw [hs1]; omega) _).alloc (by rw [hs2]; omega) _
  have hx1 : (w.alloc (.cells #[.int .i64 nx, .slice a n c] 88)).heap[w.heap.size]? = some (.cells #[.int .i64 nx, .slice a n c] 88 (0, 0)) := heap_alloc_new _ _
  have hx2 := (Below.heap_alloc (w.alloc (.cells #[.int .i64 nx, .slice a n c] 88)) (.cells #[.int .i64 0, .int .i64 par, .int .i64 port, .int .i64 hol, .int .i64 (n8 r), .bool false] 104) _ (lt_heap hx1)).trans hx1
  have hh2 : ((w.alloc (.cells #[.int .i64 nx, .slice a n c] 88)).alloc (.cells #[.int .i64 0, .int .i64 par, .int .i64 port, .int .i64 hol, .int .i64 (n8 r), .bool false] 104)).heap[w.heap.size + 1]? = some (.cells #[.int .i64 0, .int .i64 par, .int .i64 port, .int .i64 hol, .int .i64 (n8 r), .bool false] 104 (0, 0)) := by rw [← hs1]; exact heap_alloc_new _ _
  have HX0 : Hd (W0.heap[w.heap.size]? = some (.cells #[.int .i64 nx, .slice a n c] 88 (0, 0))) := ⟨by rw [← hW0]; exact (Below.heap_alloc _ _ _ (lt_heap hx2)).trans hx2⟩
  have HH0 : Hd (W0.heap[w.heap.size + 1]? = some (.cells #[.int .i64 0, .int .i64 par, .int .i64 port, .int .i64 hol, .int .i64 (n8 r), .bool false] 104 (0, 0))) := ⟨by rw [← hW0]; exact (Below.heap_alloc _ _ _ (lt_heap hh2)).trans hh2⟩
  have HR0 : Hd (W0.heap[w.heap.size + 2]? = some (.cells #[.int .i64 0, .slice none 0 0] 88 (0, 0))) := ⟨by rw [← hW0, ← hs2]; exact heap_alloc_new _ _⟩
  have HB0 := Hd.mk hB0
  have HLT0 : Hd (w.heap.size + 3 ≤ W0.heap.size) := ⟨by have := lt_heap HR0.out; omega⟩
  have HW0 := Hd.mk hW0
  clear hW0 hs1 hs2 hB0 hx1 hx2 hh2
  have HC_ := Hd.mk (live_ref (nx := nx) (HL.out.rows.below HB0.out) (Nat.le_trans HL.out.few (by omega)))
  rw [HN.out] at HC_
  go_enter Try.func64, Try.ntmps64
  go_upto_region 1 with fail
  rw [HW0.out]
  clear HW0
  have t0 := (cells_cell HX0.out 0).trans (show _ = some (.int .i64 nx) from rfl)
  have t1 := (cells_cell HX0.out 1).trans (show _ = some (.slice a n c) from rfl)
  go_wp2_with fail
  refine HC_.out.mono ?_
  rintro e w1 ⟨lv, rfl, hO, hB⟩
  have hO : OwnN rL w1 W0.heap.size 104 lv (liveP st) := hO
  obtain ⟨a1, c1, rfl⟩ := hO.shape
  have HX1 := Hd.mk ((hB.block w.heap.size (lt_heap HX0.out)).trans HX0.out)
  have HH1 := Hd.mk ((hB.block (w.heap.size + 1) (lt_heap HH0.out)).trans HH0.out)
  have HR1 := Hd.mk ((hB.block (w.heap.size + 2) (lt_heap HR0.out)).trans HR0.out)
  have HB1 := Hd.mk (HB0.out.trans (hB.mono HB0.out.size))
  have HLW1 := Hd.mk hB.size
  obtain ⟨nl, hnl⟩ : ∃ n, (liveP st).length = n := ⟨_, rfl⟩
  have HNL : Hd ((liveS st).length = nl) := ⟨by rw [← liveP_len, hnl]⟩
  have hl256 : nl ≤ 256 := by rw [← HNL.out]; exact HL.out.ok.live
  rw [hnl]
  clear hO hB hnl HC_ t0 t1 HX0 HH0 HR0 HB0
  by_cases hc1 : nl = 256
  · subst hc1
    have hae : addE st hol = 5 := by unfold addE; rw [if_pos (by rw [HNL.out]; omega)]
    have HAN : Hd (addN st hol = 0) := ⟨by unfold addN; rw [hae]; rfl⟩
    have HAS : Hd (addS st ⟨0, par, port, hol, r⟩ = st) := ⟨by unfold addS; rw [hae]; rfl⟩
    have HAE := Hd.mk hae
    clear hae
    have t0 := (cells_cell HX1.out 0).trans (show _ = some (.int .i64 nx) from rfl)
    have t1 := (cells_cell HX1.out 1).trans (show _ = some (.slice a n c) from rfl)
    have hr := HR1.out
    have q0 := cells_cell hr 0
    have f0 := cells_free hr 0
    have q1 := cells_cell hr 1
    have f1 := cells_free hr 1
    simp only [List.getElem?_toArray, List.getElem?_cons_zero, List.getElem?_cons_succ] at q0 q1
    clear hr
    go_wp2_with fail
    refine bodyPost_ret (results_cell_row3 Try.results64 _ _ (w.heap.size + 2) 88 #[.int .i64 nx, .slice a n c] (0, 0) _ rfl (set2 HR1.out _ _) Try.underlying88 rfl size88) rfl ?_
    exact ⟨_, by rw [HAE.out, HAN.out, HAS.out, HNX.out]; rfl, .inl ⟨rfl, HAS.out⟩, below2 HB1.out (by omega) _ _⟩
  · have HC1 : Hd (¬ 256 ≤ (liveS st).length) := ⟨by rw [HNL.out]; omega⟩
    have d1 : ((nl : Int) == 256) = false := by simp; omega
    have d2 : decide ((nl : Int) = 256) = false := by simp; omega
    clear hc1 hl256
    by_cases hc2 : 281474976710656 < nx
    · have hc2' : 281474976710656 < st.next := by rw [HNX.out]; exact hc2
      have hae : addE st hol = 4 := by unfold addE; rw [if_neg HC1.out, if_pos hc2']
      have HAN : Hd (addN st hol = 0) := ⟨by unfold addN; rw [hae]; rfl⟩
      have HAS : Hd (addS st ⟨0, par, port, hol, r⟩ = st) := ⟨by unfold addS; rw [hae]; rfl⟩
      have HAE := Hd.mk hae
      clear hae
      have d3 : decide (281474976710656 < nx) = true := by simp; omega
      clear hc2 hc2'
      have t0 := (cells_cell HX1.out 0).trans (show _ = some (.int .i64 nx) from rfl)
      have t1 := (cells_cell HX1.out 1).trans (show _ = some (.slice a n c) from rfl)
      have hr := HR1.out
      have q0 := cells_cell hr 0
      have f0 := cells_free hr 0
      have q1 := cells_cell hr 1
      have f1 := cells_free hr 1
      simp only [List.getElem?_toArray, List.getElem?_cons_zero, List.getElem?_cons_succ] at q0 q1
      clear hr
      go_wp2_with fail
      refine bodyPost_ret (results_cell_row3 Try.results64 _ _ (w.heap.size + 2) 88 #[.int .i64 nx, .slice a n c] (0, 0) _ rfl (set2 HR1.out _ _) Try.underlying88 rfl size88) rfl ?_
      exact ⟨_, by rw [HAE.out, HAN.out, HAS.out, HNX.out]; rfl, .inl ⟨rfl, HAS.out⟩, below2 HB1.out (by omega) _ _⟩
    · have HC2' : Hd (¬ 281474976710656 < st.next) := ⟨by rw [HNX.out]; exact hc2⟩
      have d3 : decide (281474976710656 < nx) = false := by simp; omega
      have HC2 := Hd.mk (places_ref (nx := nx) hol (HL.out.rows.below HB1.out) (Nat.le_trans HL.out.few (by omega)))
      rw [HN.out] at HC2
      clear hc2
      have t0 := (cells_cell HX1.out 0).trans (show _ = some (.int .i64 nx) from rfl)
      have t1 := (cells_cell HX1.out 1).trans (show _ = some (.slice a n c) from rfl)
      have h0 := (cells_cell HH1.out 0).trans (show _ = some (Value.int .i64 0) from rfl)
      have h1 := (cells_cell HH1.out 1).trans (show _ = some (Value.int .i64 par) from rfl)
      have h2 := (cells_cell HH1.out 2).trans (show _ = some (Value.int .i64 port) from rfl)
      have h3 := (cells_cell HH1.out 3).trans (show _ = some (Value.int .i64 hol) from rfl)
      have h4 := (cells_cell HH1.out 4).trans (show _ = some (Value.int .i64 (n8 r)) from rfl)
      have h5 := (cells_cell HH1.out 5).trans (show _ = some (Value.bool false) from rfl)
      go_wp2_with fail
      refine HC2.out.mono ?_
      rintro e w2 ⟨pv, rfl, hO, hB⟩
      have hO : OwnN rL w2 w1.heap.size 104 pv (ownH st hol) := hO
      obtain ⟨a2, c2, rfl⟩ := hO.shape
      have HX2 := Hd.mk ((hB.block w.heap.size (lt_heap HX1.out)).trans HX1.out)
      have HH2 := Hd.mk ((hB.block (w.heap.size + 1) (lt_heap HH1.out)).trans HH1.out)
      have HR2 := Hd.mk ((hB.block (w.heap.size + 2) (lt_heap HR1.out)).trans HR1.out)
      have HB2 := Hd.mk (HB1.out.trans (hB.mono HB1.out.size))
      have HLW2 := Hd.mk hB.size
      obtain ⟨np, hnp⟩ : ∃ n, (ownH st hol).length = n := ⟨_, rfl⟩
      have hnp2 : (placesS st hol).length = np := by unfold placesS; rw [List.length_map, hnp]
      have hp256 : np ≤ 256 := by rw [← hnp2]; exact HL.out.ok.places hol
      rw [hnp]
      clear hO hB hnp HC2 t0 t1 h0 h1 h2 h3 h4 h5 HX1 HH1 HR1 HB1
      by_cases hc3 : np = 256
      · subst hc3
        have hc3' : 256 ≤ (placesS st hol).length := by rw [hnp2]; omega
        have hae : addE st hol = 4 := by unfold addE; rw [if_neg HC1.out, if_neg (by have := HC2'.out; omega), if_pos hc3']
        have HAN : Hd (addN st hol = 0) := ⟨by unfold addN; rw [hae]; rfl⟩
        have HAS : Hd (addS st ⟨0, par, port, hol, r⟩ = st) := ⟨by unfold addS; rw [hae]; rfl⟩
        have HAE := Hd.mk hae
        clear hae
        clear hc3' hnp2 hp256
        have t0 := (cells_cell HX2.out 0).trans (show _ = some (.int .i64 nx) from rfl)
        have t1 := (cells_cell HX2.out 1).trans (show _ = some (.slice a n c) from rfl)
        have hr := HR2.out
        have q0 := cells_cell hr 0
        have f0 := cells_free hr 0
        have q1 := cells_cell hr 1
        have f1 := cells_free hr 1
        simp only [List.getElem?_toArray, List.getElem?_cons_zero, List.getElem?_cons_succ] at q0 q1
        clear hr
        go_wp2_with fail
        refine bodyPost_ret (results_cell_row3 Try.results64 _ _ (w.heap.size + 2) 88 #[.int .i64 nx, .slice a n c] (0, 0) _ rfl (set2 HR2.out _ _) Try.underlying88 rfl size88) rfl ?_
        exact ⟨_, by rw [HAE.out, HAN.out, HAS.out, HNX.out]; rfl, .inl ⟨rfl, HAS.out⟩, below2 HB2.out (by omega) _ _⟩
      · have hc3' : ¬ 256 ≤ (placesS st hol).length := by rw [hnp2]; omega
        have d4 : ((np : Int) == 256) = false := by simp; omega
        have d5 : decide ((np : Int) = 256) = false := by simp; omega
        have hae : addE st hol = 0 := by unfold addE; rw [if_neg HC1.out, if_neg (by have := HC2'.out; omega), if_neg hc3']
        have HAN : Hd (addN st hol = nx) := ⟨by unfold addN; rw [if_pos hae, HNX.out]⟩
        have HAS : Hd (addS st ⟨0, par, port, hol, r⟩ = ⟨nx + 1, st.made ++ [(⟨nx, par, port, hol, r⟩, false)]⟩) := ⟨by unfold addS; rw [if_pos hae, HNX.out]⟩
        have HAE := Hd.mk hae
        clear hae hc3' hnp2 hp256 hc3
        have t0 := (cells_cell HX2.out 0).trans (show _ = some (.int .i64 nx) from rfl)
        have t1 := (cells_cell HX2.out 1).trans (show _ = some (.slice a n c) from rfl)
        have h0 := (cells_cell HH2.out 0).trans (show _ = some (Value.int .i64 0) from rfl)
        have h1 := (cells_cell HH2.out 1).trans (show _ = some (Value.int .i64 par) from rfl)
        have h2 := (cells_cell HH2.out 2).trans (show _ = some (Value.int .i64 port) from rfl)
        have h3 := (cells_cell HH2.out 3).trans (show _ = some (Value.int .i64 hol) from rfl)
        have h4 := (cells_cell HH2.out 4).trans (show _ = some (Value.int .i64 (n8 r)) from rfl)
        have h5 := (cells_cell HH2.out 5).trans (show _ = some (Value.bool false) from rfl)
        have hfx := cells_free HH2.out 0
        go_upto_region 6 with fail
        obtain ⟨W3, hW3⟩ : ∃ W, w2.setCell ⟨w.heap.size + 1, 0, none⟩ (.int .i64 nx) = W := ⟨_, rfl⟩
        have HX3 : Hd (W3.heap[w.heap.size]? = some (.cells #[.int .i64 nx, .slice a n c] 88 (0, 0))) := ⟨by rw [← hW3]; exact (setCell_other (by omega)).trans HX2.out⟩
        have HH3 : Hd (W3.heap[w.heap.size + 1]? = some (.cells #[.int .i64 nx, .int .i64 par, .int .i64 port, .int .i64 hol, .int .i64 (n8 r), .bool false] 104 (0, 0))) := ⟨by rw [← hW3]; exact cells_set (o := 0) HH2.out _⟩
        have HR3 : Hd (W3.heap[w.heap.size + 2]? = some (.cells #[.int .i64 0, .slice none 0 0] 88 (0, 0))) := ⟨by rw [← hW3]; exact (setCell_other (by omega)).trans HR2.out⟩
        have HB3 : Hd (Below w.heap.size w W3) := ⟨by rw [← hW3]; exact HB2.out.setCell (p := ⟨w.heap.size + 1, 0, none⟩) (by show w.heap.size ≤ w.heap.size + 1; omega) _⟩
        have HSZ3 : Hd (w.heap.size + 3 ≤ W3.heap.size) := ⟨by rw [← hW3]; have h1 := HLT0.out; have h2 := HLW1.out; have h3 := HLW2.out; simp only [World.setCell, Array.size_modify]; omega⟩
        rw [hW3]
        clear hW3 t0 t1 h0 h1 h2 h3 h4 h5 hfx HX2 HH2 HR2 HB2 d1 d2 d3 d4 d5 HC1 HC2'
        go_cut [33] (fun v33 wx => ∃ av cv, v33 = .slice av (n + 1) cv ∧ Hd (wx.heap[w.heap.size]? = some (.cells #[.int .i64 nx, .slice av (n + 1) cv] 88 (0, 0))) ∧ Hd (wx.heap[w.heap.size + 1]? = some (.cells #[.int .i64 nx, .int .i64 par, .int .i64 port, .int .i64 hol, .int .i64 (n8 r), .bool false] 104 (0, 0))) ∧ Hd (wx.heap[w.heap.size + 2]? = some (.cells #[.int .i64 0, .slice none 0 0] 88 (0, 0))) ∧ Hd (OwnN rL wx W3.heap.size 104 (.slice av (n + 1) cv) (st.made ++ [(⟨nx, par, port, hol, r⟩, false)])) ∧ Hd (Below w.heap.size w wx))
        case first =>
          obtain ⟨i_, z_, hi_, hz_, hzs_, hsz_, hby_⟩ := info104
          have HI := Hd.mk (And.intro hi_ (And.intro hz_ (And.intro hzs_ (And.intro hsz_ hby_))))
          clear hi_ hz_ hzs_ hsz_ hby_
          refine wp_region_held_drew (S := fun W => W.heap[w.heap.size + 1]? = some (.cells #[.int .i64 nx, .int .i64 par, .int .i64 port, .int .i64 hol, .int .i64 (n8 r), .bool false] 104 (0, 0))) (by kernel_rfl) HH3.out (fun hS_ => ?_)
          try dsimp only at hS_
          obtain ⟨X0, hX0⟩ : ∃ W, W3.drew = W := ⟨_, rfl⟩
          have hb0 : Below W3.heap.size W3 X0 := by rw [← hX0]; exact (Below.refl _ _).drew
          rw [hX0] at hS_ ⊢
          clear hX0
          refine takeW 1 ?_ rfl (by kernel_rfl) (by kernel_rfl) (by kernel_rfl) (fun _ _ _ h => h) (by rfl) ?_ hS_ ?_
          rotate_left
          · intro w9 hSw
            try dsimp only at hSw
            go_simp
            with_reducible rfl
          try simp only [Act.put, List.setIfInBounds_toArray, List.set_cons_zero, List.set_cons_succ]
          refine takeW 4 ?_ rfl (by kernel_rfl) (by kernel_rfl) (by kernel_rfl) (fun _ _ _ h => h) (by rfl) ?_ hS_ ?_
          rotate_left
          · intro w9 hSw
            try dsimp only at hSw
            have e0 := (cells_cell hSw 0).trans (show _ = some (Value.int .i64 nx) from rfl)
            have e1 := (cells_cell hSw 1).trans (show _ = some (Value.int .i64 par) from rfl)
            have e2 := (cells_cell hSw 2).trans (show _ = some (Value.int .i64 port) from rfl)
            have e3 := (cells_cell hSw 3).trans (show _ = some (Value.int .i64 hol) from rfl)
            have e4 := (cells_cell hSw 4).trans (show _ = some (Value.int .i64 (n8 r)) from rfl)
            have e5 := (cells_cell hSw 5).trans (show _ = some (Value.bool false) from rfl)
            go_simp
            with_reducible rfl
          try simp only [Act.put, List.setIfInBounds_toArray, List.set_cons_zero, List.set_cons_succ]
          refine wpAnyH_ready (rs := [0, 2, 5]) (by kernel_rfl) (by simp) (readyL rfl (fun K hK => ?_) (readyL rfl (fun K hK => ?_) (readyL rfl (fun K hK => ?_) AllReadyH.nil)))
          · have hbn := hb0.alloc hb0.size (.cells #[] 104)
            have hon := OwnN.made rL X0 W3.heap.size 104 hb0.size
            have hSn : (X0.alloc (.cells #[] 104)).heap[w.heap.size + 1]? = _ := (Below.heap_alloc X0 (.cells #[] 104) _ (lt_heap hS_)).trans hS_
            go_simp
            obtain ⟨X1, hY⟩ : ∃ W, (X0.alloc (.cells #[] 104)) = W := ⟨_, rfl⟩
            rw [hY] at hbn hon hSn ⊢
            obtain ⟨gr, hgr⟩ : ∃ x, X0.heap.size = x := ⟨_, rfl⟩
            rw [hgr] at hon ⊢
            refine hK.out _ _ hSn (fun _ => ?_)
            clear hK K hS_ hY
            have hS_ := hSn
            have hb1 := hbn
            have ho1 := hon
            clear hSn hbn hon hgr hb0
            try simp only [Act.put, List.setIfInBounds_toArray, List.set_cons_zero, List.set_cons_succ]
            refine wpAnyH_ready (rs := [2, 5]) (by kernel_rfl) (by simp) (readyL rfl (fun K hK => ?_) (readyL rfl (fun K hK => ?_) AllReadyH.nil))
            · have e1 := (cells_cell ((hb1.block w.heap.size (lt_heap HX3.out)).trans HX3.out) 1).trans (show _ = some (.slice a n c) from rfl)
              go_simp
              refine hK.out _ _ hS_ (fun _ => ?_)
              clear hK K e1
              try simp only [Act.put, List.setIfInBounds_toArray, List.set_cons_zero, List.set_cons_succ]
              refine wpAnyH_ready (rs := [3, 5]) (by kernel_rfl) (by simp) (readyL rfl (fun K hK => ?_) (readyL rfl (fun K hK => ?_) AllReadyH.nil))
              · obtain ⟨hi_, hz_, hzs_, hsz_, hby_⟩ := HI.out
                have hrw := HL.out.rows.below (HB3.out.trans (hb1.mono HB3.out.size))
                rw [HN.out] at hrw
                obtain ⟨vn, X3, hr, hon, hg⟩ := OwnN.append (P := Try.prog) 86 i_ z_ 48 Try.underlying86 hi_ hz_ hsz_ hby_ hzs_ (by decide) ho1 hb1.size hrw (by have := HL.out.few; simp only [maxLen, List.length_nil]; omega) (by have := HL.out.few; simp only [List.length_nil]; omega)
                rw [List.nil_append] at hon
                have hbn := ho1.grown hb1 hb1.size hg
                have hSn := (hg.block (w.heap.size + 1) (lt_heap hS_) (fun e => by cases e; have h1 := (World.ownsRow.lt ho1 (w.heap.size + 1) rfl).1; have h2 := HSZ3.out; omega)).trans hS_
                refine if_then (by rfl) ?_
                refine wp_append_run _ _ _ rfl rfl rfl hr ?_
                refine hK.out _ _ hSn (fun _ => ?_)
                clear hK K hS_ hr hg hrw hi_ hz_ hzs_ hsz_ hby_
                have hS_ := hSn
                have hb3 := hbn
                have ho3 := hon
                clear hSn hbn hon hb1 ho1
                try simp only [Act.put, List.setIfInBounds_toArray, List.set_cons_zero, List.set_cons_succ]
                refine wpAnyH_ready (rs := [5]) (by kernel_rfl) (by simp) (readyL rfl (fun K hK => ?_) AllReadyH.nil)
                · have hbn := hb3.alloc hb3.size (.cells #[.int .i64 nx, .int .i64 par, .int .i64 port, .int .i64 hol, .int .i64 (n8 r), .bool false] 104)
                  have hln := heap_alloc_new X3 (.cells #[.int .i64 nx, .int .i64 par, .int .i64 port, .int .i64 hol, .int .i64 (n8 r), .bool false] 104)
                  have hon := ho3.alloc (.cells #[.int .i64 nx, .int .i64 par, .int .i64 port, .int .i64 hol, .int .i64 (n8 r), .bool false] 104)
                  have hSn : (X3.alloc (.cells #[.int .i64 nx, .int .i64 par, .int .i64 port, .int .i64 hol, .int .i64 (n8 r), .bool false] 104)).heap[w.heap.size + 1]? = _ := (Below.heap_alloc X3 (.cells #[.int .i64 nx, .int .i64 par, .int .i64 port, .int .i64 hol, .int .i64 (n8 r), .bool false] 104) _ (lt_heap hS_)).trans hS_
                  go_simp
                  obtain ⟨X4, hY⟩ : ∃ W, (X3.alloc (.cells #[.int .i64 nx, .int .i64 par, .int .i64 port, .int .i64 hol, .int .i64 (n8 r), .bool false] 104)) = W := ⟨_, rfl⟩
                  rw [hY] at hbn hln hSn hon ⊢
                  obtain ⟨hbk, hhbk⟩ : ∃ x, X3.heap.size = x := ⟨_, rfl⟩
                  rw [hhbk] at hln ⊢
                  refine hK.out _ _ hSn (fun _ => ?_)
                  clear hK K hS_ hY hhbk
                  have hS_ := hSn
                  have hb4 := hbn
                  have hl4 := hln
                  clear hSn hbn hln hb3
                  have ho4 := hon
                  clear hon ho3
                  try simp only [Act.put, List.setIfInBounds_toArray, List.set_cons_zero, List.set_cons_succ]
                  refine wpAnyH_ready (rs := [6]) (by kernel_rfl) (by simp) (readyL rfl (fun K hK => ?_) AllReadyH.nil)
                  · obtain ⟨hi_, hz_, hzs_, hsz_, hby_⟩ := HI.out
                    obtain ⟨vn, X5, hr, hon, hg⟩ := OwnN.push (P := Try.prog) 86 i_ z_ 48 Try.underlying86 hi_ hz_ hsz_ hby_ hzs_ (by decide) ho4 hb4.size (⟨nx, par, port, hol, r⟩, false) hl4 (by have := HL.out.few; simp only [maxLen]; omega) (by have := HL.out.few; omega)
                    have hbn := ho4.grown hb4 hb4.size hg
                    have hSn := (hbn.block (w.heap.size + 1) (lt_heap HH3.out)).trans HH3.out
                    obtain ⟨av, cv, rfl⟩ := hon.shape
                    rw [List.length_append, HN.out, List.length_singleton] at hon hr
                    refine if_then (by rfl) ?_
                    refine wp_append_run _ _ _ rfl rfl rfl hr ?_
                    refine hK.out _ _ hSn (fun _ => ?_)
                    clear hK K hS_ hr hg hi_ hz_ hzs_ hsz_ hby_ hl4
                    have hS_ := hSn
                    have hb5 := hbn
                    have ho5 := hon
                    clear hSn hbn hon hb4 ho4
                    try simp only [Act.put, List.setIfInBounds_toArray, List.set_cons_zero, List.set_cons_succ]
                    refine takeW 7 ?_ rfl (by kernel_rfl) (by kernel_rfl) (by kernel_rfl) (fun _ _ _ h => h) (by rfl) ?_ hS_ ?_
                    rotate_left
                    · intro w9 hSw
                      try dsimp only at hSw
                      go_simp
                      with_reducible rfl
                    try simp only [Act.put, List.setIfInBounds_toArray, List.set_cons_zero, List.set_cons_succ]
                    refine wpAnyH_ready (rs := [8]) (by kernel_rfl) (by simp) (readyL rfl (fun K hK => ?_) AllReadyH.nil)
                    · have hxx := (hb5.block w.heap.size (lt_heap HX3.out)).trans HX3.out
                      have FX := Hd.mk (cells_set (o := 1) hxx (.slice av (n + 1) cv))
                      have FH : Hd ((X5.setCell ⟨w.heap.size, 1, none⟩ (.slice av (n + 1) cv)).heap[w.heap.size + 1]? = some (.cells #[.int .i64 nx, .int .i64 par, .int .i64 port, .int .i64 hol, .int .i64 (n8 r), .bool false] 104 (0, 0))) := ⟨(setCell_other (by omega)).trans hS_⟩
                      have FR : Hd ((X5.setCell ⟨w.heap.size, 1, none⟩ (.slice av (n + 1) cv)).heap[w.heap.size + 2]? = some (.cells #[.int .i64 0, .slice none 0 0] 88 (0, 0))) := ⟨(setCell_other (by omega)).trans ((hb5.block _ (lt_heap HR3.out)).trans HR3.out)⟩
                      have FO : Hd (OwnN rL (X5.setCell ⟨w.heap.size, 1, none⟩ (.slice av (n + 1) cv)) W3.heap.size 104 (.slice av (n + 1) cv) (st.made ++ [(⟨nx, par, port, hol, r⟩, false)])) := ⟨ho5.same fun g hg => setCell_other (by have h1 := (ho5.lt hg).1; have h2 := HSZ3.out; omega)⟩
                      have FB : Hd (Below w.heap.size w (X5.setCell ⟨w.heap.size, 1, none⟩ (.slice av (n + 1) cv))) := ⟨(HB3.out.trans (hb5.mono HB3.out.size)).setCell (p := ⟨w.heap.size, 1, none⟩) (Nat.le_refl _) _⟩
                      have q1 : X5.cell? ⟨w.heap.size, 1, none⟩ = some (.slice a n c) := cells_cell hxx 1
                      have f1 := cells_free hxx 1
                      go_simp
                      refine hK.out _ _ FH.out (fun _ => ?_)
                      clear hK K hxx q1 f1
                      try simp only [Act.put, List.setIfInBounds_toArray, List.set_cons_zero, List.set_cons_succ]
                      refine wpAnyH_done (by kernel_rfl) ?_ _
                      go_wp2_with fail
                      go_meet
                      exact ⟨_, _, rfl, FX, FH, FR, FO, FB⟩
              · have hbn := hb1.alloc hb1.size (.cells #[.int .i64 nx, .int .i64 par, .int .i64 port, .int .i64 hol, .int .i64 (n8 r), .bool false] 104)
                have hln := heap_alloc_new X1 (.cells #[.int .i64 nx, .int .i64 par, .int .i64 port, .int .i64 hol, .int .i64 (n8 r), .bool false] 104)
                have hon := ho1.alloc (.cells #[.int .i64 nx, .int .i64 par, .int .i64 port, .int .i64 hol, .int .i64 (n8 r), .bool false] 104)
                have hne_ := (World.ownsRow.lt ho1 gr rfl).2
                have hSn : (X1.alloc (.cells #[.int .i64 nx, .int .i64 par, .int .i64 port, .int .i64 hol, .int .i64 (n8 r), .bool false] 104)).heap[w.heap.size + 1]? = _ := (Below.heap_alloc X1 (.cells #[.int .i64 nx, .int .i64 par, .int .i64 port, .int .i64 hol, .int .i64 (n8 r), .bool false] 104) _ (lt_heap hS_)).trans hS_
                go_simp
                obtain ⟨X7, hY⟩ : ∃ W, (X1.alloc (.cells #[.int .i64 nx, .int .i64 par, .int .i64 port, .int .i64 hol, .int .i64 (n8 r), .bool false] 104)) = W := ⟨_, rfl⟩
                rw [hY] at hbn hln hSn hon ⊢
                obtain ⟨hbk, hhbk⟩ : ∃ x, X1.heap.size = x := ⟨_, rfl⟩
                rw [hhbk] at hln hne_ ⊢
                refine hK.out _ _ hSn (fun _ => ?_)
                clear hK K hS_ hY hhbk
                have hS_ := hSn
                have hb7 := hbn
                have hl7 := hln
                clear hSn hbn hln hb1
                have ho7 := hon
                clear hon ho1
                try simp only [Act.put, List.setIfInBounds_toArray, List.set_cons_zero, List.set_cons_succ]
                refine wpAnyH_ready (rs := [3]) (by kernel_rfl) (by simp) (readyL rfl (fun K hK => ?_) AllReadyH.nil)
                · obtain ⟨hi_, hz_, hzs_, hsz_, hby_⟩ := HI.out
                  have hrw := HL.out.rows.below (HB3.out.trans (hb7.mono HB3.out.size))
                  rw [HN.out] at hrw
                  obtain ⟨vn, X8, hr, hon, hg⟩ := OwnN.append (P := Try.prog) 86 i_ z_ 48 Try.underlying86 hi_ hz_ hsz_ hby_ hzs_ (by decide) ho7 hb7.size hrw (by have := HL.out.few; simp only [maxLen, List.length_nil]; omega) (by have := HL.out.few; simp only [List.length_nil]; omega)
                  rw [List.nil_append] at hon
                  have hbn := ho7.grown hb7 hb7.size hg
                  have hln := (hg.block hbk (lt_heap hl7) (fun e => absurd (show hbk = gr by simpa [Value.ownBlock] using e) (by omega))).trans hl7
                  have hSn := (hg.block (w.heap.size + 1) (lt_heap hS_) (fun e => by cases e; have h1 := (World.ownsRow.lt ho7 (w.heap.size + 1) rfl).1; have h2 := HSZ3.out; omega)).trans hS_
                  refine if_then (by rfl) ?_
                  refine wp_append_run _ _ _ rfl rfl rfl hr ?_
                  refine hK.out _ _ hSn (fun _ => ?_)
                  clear hK K hS_ hr hg hrw hi_ hz_ hzs_ hsz_ hby_
                  have hS_ := hSn
                  have hb8 := hbn
                  have ho8 := hon
                  clear hSn hbn hon hb7 ho7
                  have hl8 := hln
                  clear hln hl7
                  try simp only [Act.put, List.setIfInBounds_toArray, List.set_cons_zero, List.set_cons_succ]
                  refine wpAnyH_ready (rs := [6]) (by kernel_rfl) (by simp) (readyL rfl (fun K hK => ?_) AllReadyH.nil)
                  · obtain ⟨hi_, hz_, hzs_, hsz_, hby_⟩ := HI.out
                    obtain ⟨vn, X9, hr, hon, hg⟩ := OwnN.push (P := Try.prog) 86 i_ z_ 48 Try.underlying86 hi_ hz_ hsz_ hby_ hzs_ (by decide) ho8 hb8.size (⟨nx, par, port, hol, r⟩, false) hl8 (by have := HL.out.few; simp only [maxLen]; omega) (by have := HL.out.few; omega)
                    have hbn := ho8.grown hb8 hb8.size hg
                    have hSn := (hbn.block (w.heap.size + 1) (lt_heap HH3.out)).trans HH3.out
                    obtain ⟨av, cv, rfl⟩ := hon.shape
                    rw [List.length_append, HN.out, List.length_singleton] at hon hr
                    refine if_then (by rfl) ?_
                    refine wp_append_run _ _ _ rfl rfl rfl hr ?_
                    refine hK.out _ _ hSn (fun _ => ?_)
                    clear hK K hS_ hr hg hi_ hz_ hzs_ hsz_ hby_ hl8
                    have hS_ := hSn
                    have hb9 := hbn
                    have ho9 := hon
                    clear hSn hbn hon hb8 ho8
                    try simp only [Act.put, List.setIfInBounds_toArray, List.set_cons_zero, List.set_cons_succ]
                    refine takeW 7 ?_ rfl (by kernel_rfl) (by kernel_rfl) (by kernel_rfl) (fun _ _ _ h => h) (by rfl) ?_ hS_ ?_
                    rotate_left
                    · intro w9 hSw
                      try dsimp only at hSw
                      go_simp
                      with_reducible rfl
                    try simp only [Act.put, List.setIfInBounds_toArray, List.set_cons_zero, List.set_cons_succ]
                    refine wpAnyH_ready (rs := [8]) (by kernel_rfl) (by simp) (readyL rfl (fun K hK => ?_) AllReadyH.nil)
                    · have hxx := (hb9.block w.heap.size (lt_heap HX3.out)).trans HX3.out
                      have FX := Hd.mk (cells_set (o := 1) hxx (.slice av (n + 1) cv))
                      have FH : Hd ((X9.setCell ⟨w.heap.size, 1, none⟩ (.slice av (n + 1) cv)).heap[w.heap.size + 1]? = some (.cells #[.int .i64 nx, .int .i64 par, .int .i64 port, .int .i64 hol, .int .i64 (n8 r), .bool false] 104 (0, 0))) := ⟨(setCell_other (by omega)).trans hS_⟩
                      have FR : Hd ((X9.setCell ⟨w.heap.size, 1, none⟩ (.slice av (n + 1) cv)).heap[w.heap.size + 2]? = some (.cells #[.int .i64 0, .slice none 0 0] 88 (0, 0))) := ⟨(setCell_other (by omega)).trans ((hb9.block _ (lt_heap HR3.out)).trans HR3.out)⟩
                      have FO : Hd (OwnN rL (X9.setCell ⟨w.heap.size, 1, none⟩ (.slice av (n + 1) cv)) W3.heap.size 104 (.slice av (n + 1) cv) (st.made ++ [(⟨nx, par, port, hol, r⟩, false)])) := ⟨ho9.same fun g hg => setCell_other (by have h1 := (ho9.lt hg).1; have h2 := HSZ3.out; omega)⟩
                      have FB : Hd (Below w.heap.size w (X9.setCell ⟨w.heap.size, 1, none⟩ (.slice av (n + 1) cv))) := ⟨(HB3.out.trans (hb9.mono HB3.out.size)).setCell (p := ⟨w.heap.size, 1, none⟩) (Nat.le_refl _) _⟩
                      have q1 : X9.cell? ⟨w.heap.size, 1, none⟩ = some (.slice a n c) := cells_cell hxx 1
                      have f1 := cells_free hxx 1
                      go_simp
                      refine hK.out _ _ FH.out (fun _ => ?_)
                      clear hK K hxx q1 f1
                      try simp only [Act.put, List.setIfInBounds_toArray, List.set_cons_zero, List.set_cons_succ]
                      refine wpAnyH_done (by kernel_rfl) ?_ _
                      go_wp2_with fail
                      go_meet
                      exact ⟨_, _, rfl, FX, FH, FR, FO, FB⟩
            · have hbn := hb1.alloc hb1.size (.cells #[.int .i64 nx, .int .i64 par, .int .i64 port, .int .i64 hol, .int .i64 (n8 r), .bool false] 104)
              have hln := heap_alloc_new X1 (.cells #[.int .i64 nx, .int .i64 par, .int .i64 port, .int .i64 hol, .int .i64 (n8 r), .bool false] 104)
              have hon := ho1.alloc (.cells #[.int .i64 nx, .int .i64 par, .int .i64 port, .int .i64 hol, .int .i64 (n8 r), .bool false] 104)
              have hne_ := (World.ownsRow.lt ho1 gr rfl).2
              have hSn : (X1.alloc (.cells #[.int .i64 nx, .int .i64 par, .int .i64 port, .int .i64 hol, .int .i64 (n8 r), .bool false] 104)).heap[w.heap.size + 1]? = _ := (Below.heap_alloc X1 (.cells #[.int .i64 nx, .int .i64 par, .int .i64 port, .int .i64 hol, .int .i64 (n8 r), .bool false] 104) _ (lt_heap hS_)).trans hS_
              go_simp
              obtain ⟨X11, hY⟩ : ∃ W, (X1.alloc (.cells #[.int .i64 nx, .int .i64 par, .int .i64 port, .int .i64 hol, .int .i64 (n8 r), .bool false] 104)) = W := ⟨_, rfl⟩
              rw [hY] at hbn hln hSn hon ⊢
              obtain ⟨hbk, hhbk⟩ : ∃ x, X1.heap.size = x := ⟨_, rfl⟩
              rw [hhbk] at hln hne_ ⊢
              refine hK.out _ _ hSn (fun _ => ?_)
              clear hK K hS_ hY hhbk
              have hS_ := hSn
              have hb11 := hbn
              have hl11 := hln
              clear hSn hbn hln hb1
              have ho11 := hon
              clear hon ho1
              try simp only [Act.put, List.setIfInBounds_toArray, List.set_cons_zero, List.set_cons_succ]
              refine wpAnyH_ready (rs := [2]) (by kernel_rfl) (by simp) (readyL rfl (fun K hK => ?_) AllReadyH.nil)
              · have e1 := (cells_cell ((hb11.block w.heap.size (lt_heap HX3.out)).trans HX3.out) 1).trans (show _ = some (.slice a n c) from rfl)
                go_simp
                refine hK.out _ _ hS_ (fun _ => ?_)
                clear hK K e1
                try simp only [Act.put, List.setIfInBounds_toArray, List.set_cons_zero, List.set_cons_succ]
                refine wpAnyH_ready (rs := [3]) (by kernel_rfl) (by simp) (readyL rfl (fun K hK => ?_) AllReadyH.nil)
                · obtain ⟨hi_, hz_, hzs_, hsz_, hby_⟩ := HI.out
                  have hrw := HL.out.rows.below (HB3.out.trans (hb11.mono HB3.out.size))
                  rw [HN.out] at hrw
                  obtain ⟨vn, X13, hr, hon, hg⟩ := OwnN.append (P := Try.prog) 86 i_ z_ 48 Try.underlying86 hi_ hz_ hsz_ hby_ hzs_ (by decide) ho11 hb11.size hrw (by have := HL.out.few; simp only [maxLen, List.length_nil]; omega) (by have := HL.out.few; simp only [List.length_nil]; omega)
                  rw [List.nil_append] at hon
                  have hbn := ho11.grown hb11 hb11.size hg
                  have hln := (hg.block hbk (lt_heap hl11) (fun e => absurd (show hbk = gr by simpa [Value.ownBlock] using e) (by omega))).trans hl11
                  have hSn := (hg.block (w.heap.size + 1) (lt_heap hS_) (fun e => by cases e; have h1 := (World.ownsRow.lt ho11 (w.heap.size + 1) rfl).1; have h2 := HSZ3.out; omega)).trans hS_
                  refine if_then (by rfl) ?_
                  refine wp_append_run _ _ _ rfl rfl rfl hr ?_
                  refine hK.out _ _ hSn (fun _ => ?_)
                  clear hK K hS_ hr hg hrw hi_ hz_ hzs_ hsz_ hby_
                  have hS_ := hSn
                  have hb13 := hbn
                  have ho13 := hon
                  clear hSn hbn hon hb11 ho11
                  have hl13 := hln
                  clear hln hl11
                  try simp only [Act.put, List.setIfInBounds_toArray, List.set_cons_zero, List.set_cons_succ]
                  refine wpAnyH_ready (rs := [6]) (by kernel_rfl) (by simp) (readyL rfl (fun K hK => ?_) AllReadyH.nil)
                  · obtain ⟨hi_, hz_, hzs_, hsz_, hby_⟩ := HI.out
                    obtain ⟨vn, X14, hr, hon, hg⟩ := OwnN.push (P := Try.prog) 86 i_ z_ 48 Try.underlying86 hi_ hz_ hsz_ hby_ hzs_ (by decide) ho13 hb13.size (⟨nx, par, port, hol, r⟩, false) hl13 (by have := HL.out.few; simp only [maxLen]; omega) (by have := HL.out.few; omega)
                    have hbn := ho13.grown hb13 hb13.size hg
                    have hSn := (hbn.block (w.heap.size + 1) (lt_heap HH3.out)).trans HH3.out
                    obtain ⟨av, cv, rfl⟩ := hon.shape
                    rw [List.length_append, HN.out, List.length_singleton] at hon hr
                    refine if_then (by rfl) ?_
                    refine wp_append_run _ _ _ rfl rfl rfl hr ?_
                    refine hK.out _ _ hSn (fun _ => ?_)
                    clear hK K hS_ hr hg hi_ hz_ hzs_ hsz_ hby_ hl13
                    have hS_ := hSn
                    have hb14 := hbn
                    have ho14 := hon
                    clear hSn hbn hon hb13 ho13
                    try simp only [Act.put, List.setIfInBounds_toArray, List.set_cons_zero, List.set_cons_succ]
                    refine takeW 7 ?_ rfl (by kernel_rfl) (by kernel_rfl) (by kernel_rfl) (fun _ _ _ h => h) (by rfl) ?_ hS_ ?_
                    rotate_left
                    · intro w9 hSw
                      try dsimp only at hSw
                      go_simp
                      with_reducible rfl
                    try simp only [Act.put, List.setIfInBounds_toArray, List.set_cons_zero, List.set_cons_succ]
                    refine wpAnyH_ready (rs := [8]) (by kernel_rfl) (by simp) (readyL rfl (fun K hK => ?_) AllReadyH.nil)
                    · have hxx := (hb14.block w.heap.size (lt_heap HX3.out)).trans HX3.out
                      have FX := Hd.mk (cells_set (o := 1) hxx (.slice av (n + 1) cv))
                      have FH : Hd ((X14.setCell ⟨w.heap.size, 1, none⟩ (.slice av (n + 1) cv)).heap[w.heap.size + 1]? = some (.cells #[.int .i64 nx, .int .i64 par, .int .i64 port, .int .i64 hol, .int .i64 (n8 r), .bool false] 104 (0, 0))) := ⟨(setCell_other (by omega)).trans hS_⟩
                      have FR : Hd ((X14.setCell ⟨w.heap.size, 1, none⟩ (.slice av (n + 1) cv)).heap[w.heap.size + 2]? = some (.cells #[.int .i64 0, .slice none 0 0] 88 (0, 0))) := ⟨(setCell_other (by omega)).trans ((hb14.block _ (lt_heap HR3.out)).trans HR3.out)⟩
                      have FO : Hd (OwnN rL (X14.setCell ⟨w.heap.size, 1, none⟩ (.slice av (n + 1) cv)) W3.heap.size 104 (.slice av (n + 1) cv) (st.made ++ [(⟨nx, par, port, hol, r⟩, false)])) := ⟨ho14.same fun g hg => setCell_other (by have h1 := (ho14.lt hg).1; have h2 := HSZ3.out; omega)⟩
                      have FB : Hd (Below w.heap.size w (X14.setCell ⟨w.heap.size, 1, none⟩ (.slice av (n + 1) cv))) := ⟨(HB3.out.trans (hb14.mono HB3.out.size)).setCell (p := ⟨w.heap.size, 1, none⟩) (Nat.le_refl _) _⟩
                      have q1 : X14.cell? ⟨w.heap.size, 1, none⟩ = some (.slice a n c) := cells_cell hxx 1
                      have f1 := cells_free hxx 1
                      go_simp
                      refine hK.out _ _ FH.out (fun _ => ?_)
                      clear hK K hxx q1 f1
                      try simp only [Act.put, List.setIfInBounds_toArray, List.set_cons_zero, List.set_cons_succ]
                      refine wpAnyH_done (by kernel_rfl) ?_ _
                      go_wp2_with fail
                      go_meet
                      exact ⟨_, _, rfl, FX, FH, FR, FO, FB⟩
          · have e1 := (cells_cell ((hb0.block w.heap.size (lt_heap HX3.out)).trans HX3.out) 1).trans (show _ = some (.slice a n c) from rfl)
            go_simp
            refine hK.out _ _ hS_ (fun _ => ?_)
            clear hK K e1
            try simp only [Act.put, List.setIfInBounds_toArray, List.set_cons_zero, List.set_cons_succ]
            refine wpAnyH_ready (rs := [0, 5]) (by kernel_rfl) (by simp) (readyL rfl (fun K hK => ?_) (readyL rfl (fun K hK => ?_) AllReadyH.nil))
            · have hbn := hb0.alloc hb0.size (.cells #[] 104)
              have hon := OwnN.made rL X0 W3.heap.size 104 hb0.size
              have hSn : (X0.alloc (.cells #[] 104)).heap[w.heap.size + 1]? = _ := (Below.heap_alloc X0 (.cells #[] 104) _ (lt_heap hS_)).trans hS_
              go_simp
              obtain ⟨X17, hY⟩ : ∃ W, (X0.alloc (.cells #[] 104)) = W := ⟨_, rfl⟩
              rw [hY] at hbn hon hSn ⊢
              obtain ⟨gr, hgr⟩ : ∃ x, X0.heap.size = x := ⟨_, rfl⟩
              rw [hgr] at hon ⊢
              refine hK.out _ _ hSn (fun _ => ?_)
              clear hK K hS_ hY
              have hS_ := hSn
              have hb17 := hbn
              have ho17 := hon
              clear hSn hbn hon hgr hb0
              try simp only [Act.put, List.setIfInBounds_toArray, List.set_cons_zero, List.set_cons_succ]
              refine wpAnyH_ready (rs := [3, 5]) (by kernel_rfl) (by simp) (readyL rfl (fun K hK => ?_) (readyL rfl (fun K hK => ?_) AllReadyH.nil))
              · obtain ⟨hi_, hz_, hzs_, hsz_, hby_⟩ := HI.out
                have hrw := HL.out.rows.below (HB3.out.trans (hb17.mono HB3.out.size))
                rw [HN.out] at hrw
                obtain ⟨vn, X18, hr, hon, hg⟩ := OwnN.append (P := Try.prog) 86 i_ z_ 48 Try.underlying86 hi_ hz_ hsz_ hby_ hzs_ (by decide) ho17 hb17.size hrw (by have := HL.out.few; simp only [maxLen, List.length_nil]; omega) (by have := HL.out.few; simp only [List.length_nil]; omega)
                rw [List.nil_append] at hon
                have hbn := ho17.grown hb17 hb17.size hg
                have hSn := (hg.block (w.heap.size + 1) (lt_heap hS_) (fun e => by cases e; have h1 := (World.ownsRow.lt ho17 (w.heap.size + 1) rfl).1; have h2 := HSZ3.out; omega)).trans hS_
                refine if_then (by rfl) ?_
                refine wp_append_run _ _ _ rfl rfl rfl hr ?_
                refine hK.out _ _ hSn (fun _ => ?_)
                clear hK K hS_ hr hg hrw hi_ hz_ hzs_ hsz_ hby_
                have hS_ := hSn
                have hb18 := hbn
                have ho18 := hon
                clear hSn hbn hon hb17 ho17
                try simp only [Act.put, List.setIfInBounds_toArray, List.set_cons_zero, List.set_cons_succ]
                refine wpAnyH_ready (rs := [5]) (by kernel_rfl) (by simp) (readyL rfl (fun K hK => ?_) AllReadyH.nil)
                · have hbn := hb18.alloc hb18.size (.cells #[.int .i64 nx, .int .i64 par, .int .i64 port, .int .i64 hol, .int .i64 (n8 r), .bool false] 104)
                  have hln := heap_alloc_new X18 (.cells #[.int .i64 nx, .int .i64 par, .int .i64 port, .int .i64 hol, .int .i64 (n8 r), .bool false] 104)
                  have hon := ho18.alloc (.cells #[.int .i64 nx, .int .i64 par, .int .i64 port, .int .i64 hol, .int .i64 (n8 r), .bool false] 104)
                  have hSn : (X18.alloc (.cells #[.int .i64 nx, .int .i64 par, .int .i64 port, .int .i64 hol, .int .i64 (n8 r), .bool false] 104)).heap[w.heap.size + 1]? = _ := (Below.heap_alloc X18 (.cells #[.int .i64 nx, .int .i64 par, .int .i64 port, .int .i64 hol, .int .i64 (n8 r), .bool false] 104) _ (lt_heap hS_)).trans hS_
                  go_simp
                  obtain ⟨X19, hY⟩ : ∃ W, (X18.alloc (.cells #[.int .i64 nx, .int .i64 par, .int .i64 port, .int .i64 hol, .int .i64 (n8 r), .bool false] 104)) = W := ⟨_, rfl⟩
                  rw [hY] at hbn hln hSn hon ⊢
                  obtain ⟨hbk, hhbk⟩ : ∃ x, X18.heap.size = x := ⟨_, rfl⟩
                  rw [hhbk] at hln ⊢
                  refine hK.out _ _ hSn (fun _ => ?_)
                  clear hK K hS_ hY hhbk
                  have hS_ := hSn
                  have hb19 := hbn
                  have hl19 := hln
                  clear hSn hbn hln hb18
                  have ho19 := hon
                  clear hon ho18
                  try simp only [Act.put, List.setIfInBounds_toArray, List.set_cons_zero, List.set_cons_succ]
                  refine wpAnyH_ready (rs := [6]) (by kernel_rfl) (by simp) (readyL rfl (fun K hK => ?_) AllReadyH.nil)
                  · obtain ⟨hi_, hz_, hzs_, hsz_, hby_⟩ := HI.out
                    obtain ⟨vn, X20, hr, hon, hg⟩ := OwnN.push (P := Try.prog) 86 i_ z_ 48 Try.underlying86 hi_ hz_ hsz_ hby_ hzs_ (by decide) ho19 hb19.size (⟨nx, par, port, hol, r⟩, false) hl19 (by have := HL.out.few; simp only [maxLen]; omega) (by have := HL.out.few; omega)
                    have hbn := ho19.grown hb19 hb19.size hg
                    have hSn := (hbn.block (w.heap.size + 1) (lt_heap HH3.out)).trans HH3.out
                    obtain ⟨av, cv, rfl⟩ := hon.shape
                    rw [List.length_append, HN.out, List.length_singleton] at hon hr
                    refine if_then (by rfl) ?_
                    refine wp_append_run _ _ _ rfl rfl rfl hr ?_
                    refine hK.out _ _ hSn (fun _ => ?_)
                    clear hK K hS_ hr hg hi_ hz_ hzs_ hsz_ hby_ hl19
                    have hS_ := hSn
                    have hb20 := hbn
                    have ho20 := hon
                    clear hSn hbn hon hb19 ho19
                    try simp only [Act.put, List.setIfInBounds_toArray, List.set_cons_zero, List.set_cons_succ]
                    refine takeW 7 ?_ rfl (by kernel_rfl) (by kernel_rfl) (by kernel_rfl) (fun _ _ _ h => h) (by rfl) ?_ hS_ ?_
                    rotate_left
                    · intro w9 hSw
                      try dsimp only at hSw
                      go_simp
                      with_reducible rfl
                    try simp only [Act.put, List.setIfInBounds_toArray, List.set_cons_zero, List.set_cons_succ]
                    refine wpAnyH_ready (rs := [8]) (by kernel_rfl) (by simp) (readyL rfl (fun K hK => ?_) AllReadyH.nil)
                    · have hxx := (hb20.block w.heap.size (lt_heap HX3.out)).trans HX3.out
                      have FX := Hd.mk (cells_set (o := 1) hxx (.slice av (n + 1) cv))
                      have FH : Hd ((X20.setCell ⟨w.heap.size, 1, none⟩ (.slice av (n + 1) cv)).heap[w.heap.size + 1]? = some (.cells #[.int .i64 nx, .int .i64 par, .int .i64 port, .int .i64 hol, .int .i64 (n8 r), .bool false] 104 (0, 0))) := ⟨(setCell_other (by omega)).trans hS_⟩
                      have FR : Hd ((X20.setCell ⟨w.heap.size, 1, none⟩ (.slice av (n + 1) cv)).heap[w.heap.size + 2]? = some (.cells #[.int .i64 0, .slice none 0 0] 88 (0, 0))) := ⟨(setCell_other (by omega)).trans ((hb20.block _ (lt_heap HR3.out)).trans HR3.out)⟩
                      have FO : Hd (OwnN rL (X20.setCell ⟨w.heap.size, 1, none⟩ (.slice av (n + 1) cv)) W3.heap.size 104 (.slice av (n + 1) cv) (st.made ++ [(⟨nx, par, port, hol, r⟩, false)])) := ⟨ho20.same fun g hg => setCell_other (by have h1 := (ho20.lt hg).1; have h2 := HSZ3.out; omega)⟩
                      have FB : Hd (Below w.heap.size w (X20.setCell ⟨w.heap.size, 1, none⟩ (.slice av (n + 1) cv))) := ⟨(HB3.out.trans (hb20.mono HB3.out.size)).setCell (p := ⟨w.heap.size, 1, none⟩) (Nat.le_refl _) _⟩
                      have q1 : X20.cell? ⟨w.heap.size, 1, none⟩ = some (.slice a n c) := cells_cell hxx 1
                      have f1 := cells_free hxx 1
                      go_simp
                      refine hK.out _ _ FH.out (fun _ => ?_)
                      clear hK K hxx q1 f1
                      try simp only [Act.put, List.setIfInBounds_toArray, List.set_cons_zero, List.set_cons_succ]
                      refine wpAnyH_done (by kernel_rfl) ?_ _
                      go_wp2_with fail
                      go_meet
                      exact ⟨_, _, rfl, FX, FH, FR, FO, FB⟩
              · have hbn := hb17.alloc hb17.size (.cells #[.int .i64 nx, .int .i64 par, .int .i64 port, .int .i64 hol, .int .i64 (n8 r), .bool false] 104)
                have hln := heap_alloc_new X17 (.cells #[.int .i64 nx, .int .i64 par, .int .i64 port, .int .i64 hol, .int .i64 (n8 r), .bool false] 104)
                have hon := ho17.alloc (.cells #[.int .i64 nx, .int .i64 par, .int .i64 port, .int .i64 hol, .int .i64 (n8 r), .bool false] 104)
                have hne_ := (World.ownsRow.lt ho17 gr rfl).2
                have hSn : (X17.alloc (.cells #[.int .i64 nx, .int .i64 par, .int .i64 port, .int .i64 hol, .int .i64 (n8 r), .bool false] 104)).heap[w.heap.size + 1]? = _ := (Below.heap_alloc X17 (.cells #[.int .i64 nx, .int .i64 par, .int .i64 port, .int .i64 hol, .int .i64 (n8 r), .bool false] 104) _ (lt_heap hS_)).trans hS_
                go_simp
                obtain ⟨X22, hY⟩ : ∃ W, (X17.alloc (.cells #[.int .i64 nx, .int .i64 par, .int .i64 port, .int .i64 hol, .int .i64 (n8 r), .bool false] 104)) = W := ⟨_, rfl⟩
                rw [hY] at hbn hln hSn hon ⊢
                obtain ⟨hbk, hhbk⟩ : ∃ x, X17.heap.size = x := ⟨_, rfl⟩
                rw [hhbk] at hln hne_ ⊢
                refine hK.out _ _ hSn (fun _ => ?_)
                clear hK K hS_ hY hhbk
                have hS_ := hSn
                have hb22 := hbn
                have hl22 := hln
                clear hSn hbn hln hb17
                have ho22 := hon
                clear hon ho17
                try simp only [Act.put, List.setIfInBounds_toArray, List.set_cons_zero, List.set_cons_succ]
                refine wpAnyH_ready (rs := [3]) (by kernel_rfl) (by simp) (readyL rfl (fun K hK => ?_) AllReadyH.nil)
                · obtain ⟨hi_, hz_, hzs_, hsz_, hby_⟩ := HI.out
                  have hrw := HL.out.rows.below (HB3.out.trans (hb22.mono HB3.out.size))
                  rw [HN.out] at hrw
                  obtain ⟨vn, X23, hr, hon, hg⟩ := OwnN.append (P := Try.prog) 86 i_ z_ 48 Try.underlying86 hi_ hz_ hsz_ hby_ hzs_ (by decide) ho22 hb22.size hrw (by have := HL.out.few; simp only [maxLen, List.length_nil]; omega) (by have := HL.out.few; simp only [List.length_nil]; omega)
                  rw [List.nil_append] at hon
                  have hbn := ho22.grown hb22 hb22.size hg
                  have hln := (hg.block hbk (lt_heap hl22) (fun e => absurd (show hbk = gr by simpa [Value.ownBlock] using e) (by omega))).trans hl22
                  have hSn := (hg.block (w.heap.size + 1) (lt_heap hS_) (fun e => by cases e; have h1 := (World.ownsRow.lt ho22 (w.heap.size + 1) rfl).1; have h2 := HSZ3.out; omega)).trans hS_
                  refine if_then (by rfl) ?_
                  refine wp_append_run _ _ _ rfl rfl rfl hr ?_
                  refine hK.out _ _ hSn (fun _ => ?_)
                  clear hK K hS_ hr hg hrw hi_ hz_ hzs_ hsz_ hby_
                  have hS_ := hSn
                  have hb23 := hbn
                  have ho23 := hon
                  clear hSn hbn hon hb22 ho22
                  have hl23 := hln
                  clear hln hl22
                  try simp only [Act.put, List.setIfInBounds_toArray, List.set_cons_zero, List.set_cons_succ]
                  refine wpAnyH_ready (rs := [6]) (by kernel_rfl) (by simp) (readyL rfl (fun K hK => ?_) AllReadyH.nil)
                  · obtain ⟨hi_, hz_, hzs_, hsz_, hby_⟩ := HI.out
                    obtain ⟨vn, X24, hr, hon, hg⟩ := OwnN.push (P := Try.prog) 86 i_ z_ 48 Try.underlying86 hi_ hz_ hsz_ hby_ hzs_ (by decide) ho23 hb23.size (⟨nx, par, port, hol, r⟩, false) hl23 (by have := HL.out.few; simp only [maxLen]; omega) (by have := HL.out.few; omega)
                    have hbn := ho23.grown hb23 hb23.size hg
                    have hSn := (hbn.block (w.heap.size + 1) (lt_heap HH3.out)).trans HH3.out
                    obtain ⟨av, cv, rfl⟩ := hon.shape
                    rw [List.length_append, HN.out, List.length_singleton] at hon hr
                    refine if_then (by rfl) ?_
                    refine wp_append_run _ _ _ rfl rfl rfl hr ?_
                    refine hK.out _ _ hSn (fun _ => ?_)
                    clear hK K hS_ hr hg hi_ hz_ hzs_ hsz_ hby_ hl23
                    have hS_ := hSn
                    have hb24 := hbn
                    have ho24 := hon
                    clear hSn hbn hon hb23 ho23
                    try simp only [Act.put, List.setIfInBounds_toArray, List.set_cons_zero, List.set_cons_succ]
                    refine takeW 7 ?_ rfl (by kernel_rfl) (by kernel_rfl) (by kernel_rfl) (fun _ _ _ h => h) (by rfl) ?_ hS_ ?_
                    rotate_left
                    · intro w9 hSw
                      try dsimp only at hSw
                      go_simp
                      with_reducible rfl
                    try simp only [Act.put, List.setIfInBounds_toArray, List.set_cons_zero, List.set_cons_succ]
                    refine wpAnyH_ready (rs := [8]) (by kernel_rfl) (by simp) (readyL rfl (fun K hK => ?_) AllReadyH.nil)
                    · have hxx := (hb24.block w.heap.size (lt_heap HX3.out)).trans HX3.out
                      have FX := Hd.mk (cells_set (o := 1) hxx (.slice av (n + 1) cv))
                      have FH : Hd ((X24.setCell ⟨w.heap.size, 1, none⟩ (.slice av (n + 1) cv)).heap[w.heap.size + 1]? = some (.cells #[.int .i64 nx, .int .i64 par, .int .i64 port, .int .i64 hol, .int .i64 (n8 r), .bool false] 104 (0, 0))) := ⟨(setCell_other (by omega)).trans hS_⟩
                      have FR : Hd ((X24.setCell ⟨w.heap.size, 1, none⟩ (.slice av (n + 1) cv)).heap[w.heap.size + 2]? = some (.cells #[.int .i64 0, .slice none 0 0] 88 (0, 0))) := ⟨(setCell_other (by omega)).trans ((hb24.block _ (lt_heap HR3.out)).trans HR3.out)⟩
                      have FO : Hd (OwnN rL (X24.setCell ⟨w.heap.size, 1, none⟩ (.slice av (n + 1) cv)) W3.heap.size 104 (.slice av (n + 1) cv) (st.made ++ [(⟨nx, par, port, hol, r⟩, false)])) := ⟨ho24.same fun g hg => setCell_other (by have h1 := (ho24.lt hg).1; have h2 := HSZ3.out; omega)⟩
                      have FB : Hd (Below w.heap.size w (X24.setCell ⟨w.heap.size, 1, none⟩ (.slice av (n + 1) cv))) := ⟨(HB3.out.trans (hb24.mono HB3.out.size)).setCell (p := ⟨w.heap.size, 1, none⟩) (Nat.le_refl _) _⟩
                      have q1 : X24.cell? ⟨w.heap.size, 1, none⟩ = some (.slice a n c) := cells_cell hxx 1
                      have f1 := cells_free hxx 1
                      go_simp
                      refine hK.out _ _ FH.out (fun _ => ?_)
                      clear hK K hxx q1 f1
                      try simp only [Act.put, List.setIfInBounds_toArray, List.set_cons_zero, List.set_cons_succ]
                      refine wpAnyH_done (by kernel_rfl) ?_ _
                      go_wp2_with fail
                      go_meet
                      exact ⟨_, _, rfl, FX, FH, FR, FO, FB⟩
            · have hbn := hb0.alloc hb0.size (.cells #[.int .i64 nx, .int .i64 par, .int .i64 port, .int .i64 hol, .int .i64 (n8 r), .bool false] 104)
              have hln := heap_alloc_new X0 (.cells #[.int .i64 nx, .int .i64 par, .int .i64 port, .int .i64 hol, .int .i64 (n8 r), .bool false] 104)
              have hSn : (X0.alloc (.cells #[.int .i64 nx, .int .i64 par, .int .i64 port, .int .i64 hol, .int .i64 (n8 r), .bool false] 104)).heap[w.heap.size + 1]? = _ := (Below.heap_alloc X0 (.cells #[.int .i64 nx, .int .i64 par, .int .i64 port, .int .i64 hol, .int .i64 (n8 r), .bool false] 104) _ (lt_heap hS_)).trans hS_
              go_simp
              obtain ⟨X26, hY⟩ : ∃ W, (X0.alloc (.cells #[.int .i64 nx, .int .i64 par, .int .i64 port, .int .i64 hol, .int .i64 (n8 r), .bool false] 104)) = W := ⟨_, rfl⟩
              rw [hY] at hbn hln hSn ⊢
              obtain ⟨hbk, hhbk⟩ : ∃ x, X0.heap.size = x := ⟨_, rfl⟩
              rw [hhbk] at hln ⊢
              refine hK.out _ _ hSn (fun _ => ?_)
              clear hK K hS_ hY hhbk
              have hS_ := hSn
              have hb26 := hbn
              have hl26 := hln
              clear hSn hbn hln hb0
              try simp only [Act.put, List.setIfInBounds_toArray, List.set_cons_zero, List.set_cons_succ]
              refine wpAnyH_ready (rs := [0]) (by kernel_rfl) (by simp) (readyL rfl (fun K hK => ?_) AllReadyH.nil)
              · have hbn := hb26.alloc hb26.size (.cells #[] 104)
                have hon := OwnN.made rL X26 W3.heap.size 104 hb26.size
                have hln := (Below.heap_alloc X26 (.cells #[] 104) _ (lt_heap hl26)).trans hl26
                have hne_ := lt_heap hl26
                have hSn : (X26.alloc (.cells #[] 104)).heap[w.heap.size + 1]? = _ := (Below.heap_alloc X26 (.cells #[] 104) _ (lt_heap hS_)).trans hS_
                go_simp
                obtain ⟨X27, hY⟩ : ∃ W, (X26.alloc (.cells #[] 104)) = W := ⟨_, rfl⟩
                rw [hY] at hbn hon hSn hln ⊢
                obtain ⟨gr, hgr⟩ : ∃ x, X26.heap.size = x := ⟨_, rfl⟩
                rw [hgr] at hon hne_ ⊢
                refine hK.out _ _ hSn (fun _ => ?_)
                clear hK K hS_ hY
                have hS_ := hSn
                have hb27 := hbn
                have ho27 := hon
                clear hSn hbn hon hgr hb26
                have hl27 := hln
                clear hln hl26
                try simp only [Act.put, List.setIfInBounds_toArray, List.set_cons_zero, List.set_cons_succ]
                refine wpAnyH_ready (rs := [3]) (by kernel_rfl) (by simp) (readyL rfl (fun K hK => ?_) AllReadyH.nil)
                · obtain ⟨hi_, hz_, hzs_, hsz_, hby_⟩ := HI.out
                  have hrw := HL.out.rows.below (HB3.out.trans (hb27.mono HB3.out.size))
                  rw [HN.out] at hrw
                  obtain ⟨vn, X28, hr, hon, hg⟩ := OwnN.append (P := Try.prog) 86 i_ z_ 48 Try.underlying86 hi_ hz_ hsz_ hby_ hzs_ (by decide) ho27 hb27.size hrw (by have := HL.out.few; simp only [maxLen, List.length_nil]; omega) (by have := HL.out.few; simp only [List.length_nil]; omega)
                  rw [List.nil_append] at hon
                  have hbn := ho27.grown hb27 hb27.size hg
                  have hln := (hg.block hbk (lt_heap hl27) (fun e => absurd (show hbk = gr by simpa [Value.ownBlock] using e) (by omega))).trans hl27
                  have hSn := (hg.block (w.heap.size + 1) (lt_heap hS_) (fun e => by cases e; have h1 := (World.ownsRow.lt ho27 (w.heap.size + 1) rfl).1; have h2 := HSZ3.out; omega)).trans hS_
                  refine if_then (by rfl) ?_
                  refine wp_append_run _ _ _ rfl rfl rfl hr ?_
                  refine hK.out _ _ hSn (fun _ => ?_)
                  clear hK K hS_ hr hg hrw hi_ hz_ hzs_ hsz_ hby_
                  have hS_ := hSn
                  have hb28 := hbn
                  have ho28 := hon
                  clear hSn hbn hon hb27 ho27
                  have hl28 := hln
                  clear hln hl27
                  try simp only [Act.put, List.setIfInBounds_toArray, List.set_cons_zero, List.set_cons_succ]
                  refine wpAnyH_ready (rs := [6]) (by kernel_rfl) (by simp) (readyL rfl (fun K hK => ?_) AllReadyH.nil)
                  · obtain ⟨hi_, hz_, hzs_, hsz_, hby_⟩ := HI.out
                    obtain ⟨vn, X29, hr, hon, hg⟩ := OwnN.push (P := Try.prog) 86 i_ z_ 48 Try.underlying86 hi_ hz_ hsz_ hby_ hzs_ (by decide) ho28 hb28.size (⟨nx, par, port, hol, r⟩, false) hl28 (by have := HL.out.few; simp only [maxLen]; omega) (by have := HL.out.few; omega)
                    have hbn := ho28.grown hb28 hb28.size hg
                    have hSn := (hbn.block (w.heap.size + 1) (lt_heap HH3.out)).trans HH3.out
                    obtain ⟨av, cv, rfl⟩ := hon.shape
                    rw [List.length_append, HN.out, List.length_singleton] at hon hr
                    refine if_then (by rfl) ?_
                    refine wp_append_run _ _ _ rfl rfl rfl hr ?_
                    refine hK.out _ _ hSn (fun _ => ?_)
                    clear hK K hS_ hr hg hi_ hz_ hzs_ hsz_ hby_ hl28
                    have hS_ := hSn
                    have hb29 := hbn
                    have ho29 := hon
                    clear hSn hbn hon hb28 ho28
                    try simp only [Act.put, List.setIfInBounds_toArray, List.set_cons_zero, List.set_cons_succ]
                    refine takeW 7 ?_ rfl (by kernel_rfl) (by kernel_rfl) (by kernel_rfl) (fun _ _ _ h => h) (by rfl) ?_ hS_ ?_
                    rotate_left
                    · intro w9 hSw
                      try dsimp only at hSw
                      go_simp
                      with_reducible rfl
                    try simp only [Act.put, List.setIfInBounds_toArray, List.set_cons_zero, List.set_cons_succ]
                    refine wpAnyH_ready (rs := [8]) (by kernel_rfl) (by simp) (readyL rfl (fun K hK => ?_) AllReadyH.nil)
                    · have hxx := (hb29.block w.heap.size (lt_heap HX3.out)).trans HX3.out
                      have FX := Hd.mk (cells_set (o := 1) hxx (.slice av (n + 1) cv))
                      have FH : Hd ((X29.setCell ⟨w.heap.size, 1, none⟩ (.slice av (n + 1) cv)).heap[w.heap.size + 1]? = some (.cells #[.int .i64 nx, .int .i64 par, .int .i64 port, .int .i64 hol, .int .i64 (n8 r), .bool false] 104 (0, 0))) := ⟨(setCell_other (by omega)).trans hS_⟩
                      have FR : Hd ((X29.setCell ⟨w.heap.size, 1, none⟩ (.slice av (n + 1) cv)).heap[w.heap.size + 2]? = some (.cells #[.int .i64 0, .slice none 0 0] 88 (0, 0))) := ⟨(setCell_other (by omega)).trans ((hb29.block _ (lt_heap HR3.out)).trans HR3.out)⟩
                      have FO : Hd (OwnN rL (X29.setCell ⟨w.heap.size, 1, none⟩ (.slice av (n + 1) cv)) W3.heap.size 104 (.slice av (n + 1) cv) (st.made ++ [(⟨nx, par, port, hol, r⟩, false)])) := ⟨ho29.same fun g hg => setCell_other (by have h1 := (ho29.lt hg).1; have h2 := HSZ3.out; omega)⟩
                      have FB : Hd (Below w.heap.size w (X29.setCell ⟨w.heap.size, 1, none⟩ (.slice av (n + 1) cv))) := ⟨(HB3.out.trans (hb29.mono HB3.out.size)).setCell (p := ⟨w.heap.size, 1, none⟩) (Nat.le_refl _) _⟩
                      have q1 : X29.cell? ⟨w.heap.size, 1, none⟩ = some (.slice a n c) := cells_cell hxx 1
                      have f1 := cells_free hxx 1
                      go_simp
                      refine hK.out _ _ FH.out (fun _ => ?_)
                      clear hK K hxx q1 f1
                      try simp only [Act.put, List.setIfInBounds_toArray, List.set_cons_zero, List.set_cons_succ]
                      refine wpAnyH_done (by kernel_rfl) ?_ _
                      go_wp2_with fail
                      go_meet
                      exact ⟨_, _, rfl, FX, FH, FR, FO, FB⟩
          · have hbn := hb0.alloc hb0.size (.cells #[.int .i64 nx, .int .i64 par, .int .i64 port, .int .i64 hol, .int .i64 (n8 r), .bool false] 104)
            have hln := heap_alloc_new X0 (.cells #[.int .i64 nx, .int .i64 par, .int .i64 port, .int .i64 hol, .int .i64 (n8 r), .bool false] 104)
            have hSn : (X0.alloc (.cells #[.int .i64 nx, .int .i64 par, .int .i64 port, .int .i64 hol, .int .i64 (n8 r), .bool false] 104)).heap[w.heap.size + 1]? = _ := (Below.heap_alloc X0 (.cells #[.int .i64 nx, .int .i64 par, .int .i64 port, .int .i64 hol, .int .i64 (n8 r), .bool false] 104) _ (lt_heap hS_)).trans hS_
            go_simp
            obtain ⟨X31, hY⟩ : ∃ W, (X0.alloc (.cells #[.int .i64 nx, .int .i64 par, .int .i64 port, .int .i64 hol, .int .i64 (n8 r), .bool false] 104)) = W := ⟨_, rfl⟩
            rw [hY] at hbn hln hSn ⊢
            obtain ⟨hbk, hhbk⟩ : ∃ x, X0.heap.size = x := ⟨_, rfl⟩
            rw [hhbk] at hln ⊢
            refine hK.out _ _ hSn (fun _ => ?_)
            clear hK K hS_ hY hhbk
            have hS_ := hSn
            have hb31 := hbn
            have hl31 := hln
            clear hSn hbn hln hb0
            try simp only [Act.put, List.setIfInBounds_toArray, List.set_cons_zero, List.set_cons_succ]
            refine wpAnyH_ready (rs := [0, 2]) (by kernel_rfl) (by simp) (readyL rfl (fun K hK => ?_) (readyL rfl (fun K hK => ?_) AllReadyH.nil))
            · have hbn := hb31.alloc hb31.size (.cells #[] 104)
              have hon := OwnN.made rL X31 W3.heap.size 104 hb31.size
              have hln := (Below.heap_alloc X31 (.cells #[] 104) _ (lt_heap hl31)).trans hl31
              have hne_ := lt_heap hl31
              have hSn : (X31.alloc (.cells #[] 104)).heap[w.heap.size + 1]? = _ := (Below.heap_alloc X31 (.cells #[] 104) _ (lt_heap hS_)).trans hS_
              go_simp
              obtain ⟨X32, hY⟩ : ∃ W, (X31.alloc (.cells #[] 104)) = W := ⟨_, rfl⟩
              rw [hY] at hbn hon hSn hln ⊢
              obtain ⟨gr, hgr⟩ : ∃ x, X31.heap.size = x := ⟨_, rfl⟩
              rw [hgr] at hon hne_ ⊢
              refine hK.out _ _ hSn (fun _ => ?_)
              clear hK K hS_ hY
              have hS_ := hSn
              have hb32 := hbn
              have ho32 := hon
              clear hSn hbn hon hgr hb31
              have hl32 := hln
              clear hln hl31
              try simp only [Act.put, List.setIfInBounds_toArray, List.set_cons_zero, List.set_cons_succ]
              refine wpAnyH_ready (rs := [2]) (by kernel_rfl) (by simp) (readyL rfl (fun K hK => ?_) AllReadyH.nil)
              · have e1 := (cells_cell ((hb32.block w.heap.size (lt_heap HX3.out)).trans HX3.out) 1).trans (show _ = some (.slice a n c) from rfl)
                go_simp
                refine hK.out _ _ hS_ (fun _ => ?_)
                clear hK K e1
                try simp only [Act.put, List.setIfInBounds_toArray, List.set_cons_zero, List.set_cons_succ]
                refine wpAnyH_ready (rs := [3]) (by kernel_rfl) (by simp) (readyL rfl (fun K hK => ?_) AllReadyH.nil)
                · obtain ⟨hi_, hz_, hzs_, hsz_, hby_⟩ := HI.out
                  have hrw := HL.out.rows.below (HB3.out.trans (hb32.mono HB3.out.size))
                  rw [HN.out] at hrw
                  obtain ⟨vn, X34, hr, hon, hg⟩ := OwnN.append (P := Try.prog) 86 i_ z_ 48 Try.underlying86 hi_ hz_ hsz_ hby_ hzs_ (by decide) ho32 hb32.size hrw (by have := HL.out.few; simp only [maxLen, List.length_nil]; omega) (by have := HL.out.few; simp only [List.length_nil]; omega)
                  rw [List.nil_append] at hon
                  have hbn := ho32.grown hb32 hb32.size hg
                  have hln := (hg.block hbk (lt_heap hl32) (fun e => absurd (show hbk = gr by simpa [Value.ownBlock] using e) (by omega))).trans hl32
                  have hSn := (hg.block (w.heap.size + 1) (lt_heap hS_) (fun e => by cases e; have h1 := (World.ownsRow.lt ho32 (w.heap.size + 1) rfl).1; have h2 := HSZ3.out; omega)).trans hS_
                  refine if_then (by rfl) ?_
                  refine wp_append_run _ _ _ rfl rfl rfl hr ?_
                  refine hK.out _ _ hSn (fun _ => ?_)
                  clear hK K hS_ hr hg hrw hi_ hz_ hzs_ hsz_ hby_
                  have hS_ := hSn
                  have hb34 := hbn
                  have ho34 := hon
                  clear hSn hbn hon hb32 ho32
                  have hl34 := hln
                  clear hln hl32
                  try simp only [Act.put, List.setIfInBounds_toArray, List.set_cons_zero, List.set_cons_succ]
                  refine wpAnyH_ready (rs := [6]) (by kernel_rfl) (by simp) (readyL rfl (fun K hK => ?_) AllReadyH.nil)
                  · obtain ⟨hi_, hz_, hzs_, hsz_, hby_⟩ := HI.out
                    obtain ⟨vn, X35, hr, hon, hg⟩ := OwnN.push (P := Try.prog) 86 i_ z_ 48 Try.underlying86 hi_ hz_ hsz_ hby_ hzs_ (by decide) ho34 hb34.size (⟨nx, par, port, hol, r⟩, false) hl34 (by have := HL.out.few; simp only [maxLen]; omega) (by have := HL.out.few; omega)
                    have hbn := ho34.grown hb34 hb34.size hg
                    have hSn := (hbn.block (w.heap.size + 1) (lt_heap HH3.out)).trans HH3.out
                    obtain ⟨av, cv, rfl⟩ := hon.shape
                    rw [List.length_append, HN.out, List.length_singleton] at hon hr
                    refine if_then (by rfl) ?_
                    refine wp_append_run _ _ _ rfl rfl rfl hr ?_
                    refine hK.out _ _ hSn (fun _ => ?_)
                    clear hK K hS_ hr hg hi_ hz_ hzs_ hsz_ hby_ hl34
                    have hS_ := hSn
                    have hb35 := hbn
                    have ho35 := hon
                    clear hSn hbn hon hb34 ho34
                    try simp only [Act.put, List.setIfInBounds_toArray, List.set_cons_zero, List.set_cons_succ]
                    refine takeW 7 ?_ rfl (by kernel_rfl) (by kernel_rfl) (by kernel_rfl) (fun _ _ _ h => h) (by rfl) ?_ hS_ ?_
                    rotate_left
                    · intro w9 hSw
                      try dsimp only at hSw
                      go_simp
                      with_reducible rfl
                    try simp only [Act.put, List.setIfInBounds_toArray, List.set_cons_zero, List.set_cons_succ]
                    refine wpAnyH_ready (rs := [8]) (by kernel_rfl) (by simp) (readyL rfl (fun K hK => ?_) AllReadyH.nil)
                    · have hxx := (hb35.block w.heap.size (lt_heap HX3.out)).trans HX3.out
                      have FX := Hd.mk (cells_set (o := 1) hxx (.slice av (n + 1) cv))
                      have FH : Hd ((X35.setCell ⟨w.heap.size, 1, none⟩ (.slice av (n + 1) cv)).heap[w.heap.size + 1]? = some (.cells #[.int .i64 nx, .int .i64 par, .int .i64 port, .int .i64 hol, .int .i64 (n8 r), .bool false] 104 (0, 0))) := ⟨(setCell_other (by omega)).trans hS_⟩
                      have FR : Hd ((X35.setCell ⟨w.heap.size, 1, none⟩ (.slice av (n + 1) cv)).heap[w.heap.size + 2]? = some (.cells #[.int .i64 0, .slice none 0 0] 88 (0, 0))) := ⟨(setCell_other (by omega)).trans ((hb35.block _ (lt_heap HR3.out)).trans HR3.out)⟩
                      have FO : Hd (OwnN rL (X35.setCell ⟨w.heap.size, 1, none⟩ (.slice av (n + 1) cv)) W3.heap.size 104 (.slice av (n + 1) cv) (st.made ++ [(⟨nx, par, port, hol, r⟩, false)])) := ⟨ho35.same fun g hg => setCell_other (by have h1 := (ho35.lt hg).1; have h2 := HSZ3.out; omega)⟩
                      have FB : Hd (Below w.heap.size w (X35.setCell ⟨w.heap.size, 1, none⟩ (.slice av (n + 1) cv))) := ⟨(HB3.out.trans (hb35.mono HB3.out.size)).setCell (p := ⟨w.heap.size, 1, none⟩) (Nat.le_refl _) _⟩
                      have q1 : X35.cell? ⟨w.heap.size, 1, none⟩ = some (.slice a n c) := cells_cell hxx 1
                      have f1 := cells_free hxx 1
                      go_simp
                      refine hK.out _ _ FH.out (fun _ => ?_)
                      clear hK K hxx q1 f1
                      try simp only [Act.put, List.setIfInBounds_toArray, List.set_cons_zero, List.set_cons_succ]
                      refine wpAnyH_done (by kernel_rfl) ?_ _
                      go_wp2_with fail
                      go_meet
                      exact ⟨_, _, rfl, FX, FH, FR, FO, FB⟩
            · have e1 := (cells_cell ((hb31.block w.heap.size (lt_heap HX3.out)).trans HX3.out) 1).trans (show _ = some (.slice a n c) from rfl)
              go_simp
              refine hK.out _ _ hS_ (fun _ => ?_)
              clear hK K e1
              try simp only [Act.put, List.setIfInBounds_toArray, List.set_cons_zero, List.set_cons_succ]
              refine wpAnyH_ready (rs := [0]) (by kernel_rfl) (by simp) (readyL rfl (fun K hK => ?_) AllReadyH.nil)
              · have hbn := hb31.alloc hb31.size (.cells #[] 104)
                have hon := OwnN.made rL X31 W3.heap.size 104 hb31.size
                have hln := (Below.heap_alloc X31 (.cells #[] 104) _ (lt_heap hl31)).trans hl31
                have hne_ := lt_heap hl31
                have hSn : (X31.alloc (.cells #[] 104)).heap[w.heap.size + 1]? = _ := (Below.heap_alloc X31 (.cells #[] 104) _ (lt_heap hS_)).trans hS_
                go_simp
                obtain ⟨X38, hY⟩ : ∃ W, (X31.alloc (.cells #[] 104)) = W := ⟨_, rfl⟩
                rw [hY] at hbn hon hSn hln ⊢
                obtain ⟨gr, hgr⟩ : ∃ x, X31.heap.size = x := ⟨_, rfl⟩
                rw [hgr] at hon hne_ ⊢
                refine hK.out _ _ hSn (fun _ => ?_)
                clear hK K hS_ hY
                have hS_ := hSn
                have hb38 := hbn
                have ho38 := hon
                clear hSn hbn hon hgr hb31
                have hl38 := hln
                clear hln hl31
                try simp only [Act.put, List.setIfInBounds_toArray, List.set_cons_zero, List.set_cons_succ]
                refine wpAnyH_ready (rs := [3]) (by kernel_rfl) (by simp) (readyL rfl (fun K hK => ?_) AllReadyH.nil)
                · obtain ⟨hi_, hz_, hzs_, hsz_, hby_⟩ := HI.out
                  have hrw := HL.out.rows.below (HB3.out.trans (hb38.mono HB3.out.size))
                  rw [HN.out] at hrw
                  obtain ⟨vn, X39, hr, hon, hg⟩ := OwnN.append (P := Try.prog) 86 i_ z_ 48 Try.underlying86 hi_ hz_ hsz_ hby_ hzs_ (by decide) ho38 hb38.size hrw (by have := HL.out.few; simp only [maxLen, List.length_nil]; omega) (by have := HL.out.few; simp only [List.length_nil]; omega)
                  rw [List.nil_append] at hon
                  have hbn := ho38.grown hb38 hb38.size hg
                  have hln := (hg.block hbk (lt_heap hl38) (fun e => absurd (show hbk = gr by simpa [Value.ownBlock] using e) (by omega))).trans hl38
                  have hSn := (hg.block (w.heap.size + 1) (lt_heap hS_) (fun e => by cases e; have h1 := (World.ownsRow.lt ho38 (w.heap.size + 1) rfl).1; have h2 := HSZ3.out; omega)).trans hS_
                  refine if_then (by rfl) ?_
                  refine wp_append_run _ _ _ rfl rfl rfl hr ?_
                  refine hK.out _ _ hSn (fun _ => ?_)
                  clear hK K hS_ hr hg hrw hi_ hz_ hzs_ hsz_ hby_
                  have hS_ := hSn
                  have hb39 := hbn
                  have ho39 := hon
                  clear hSn hbn hon hb38 ho38
                  have hl39 := hln
                  clear hln hl38
                  try simp only [Act.put, List.setIfInBounds_toArray, List.set_cons_zero, List.set_cons_succ]
                  refine wpAnyH_ready (rs := [6]) (by kernel_rfl) (by simp) (readyL rfl (fun K hK => ?_) AllReadyH.nil)
                  · obtain ⟨hi_, hz_, hzs_, hsz_, hby_⟩ := HI.out
                    obtain ⟨vn, X40, hr, hon, hg⟩ := OwnN.push (P := Try.prog) 86 i_ z_ 48 Try.underlying86 hi_ hz_ hsz_ hby_ hzs_ (by decide) ho39 hb39.size (⟨nx, par, port, hol, r⟩, false) hl39 (by have := HL.out.few; simp only [maxLen]; omega) (by have := HL.out.few; omega)
                    have hbn := ho39.grown hb39 hb39.size hg
                    have hSn := (hbn.block (w.heap.size + 1) (lt_heap HH3.out)).trans HH3.out
                    obtain ⟨av, cv, rfl⟩ := hon.shape
                    rw [List.length_append, HN.out, List.length_singleton] at hon hr
                    refine if_then (by rfl) ?_
                    refine wp_append_run _ _ _ rfl rfl rfl hr ?_
                    refine hK.out _ _ hSn (fun _ => ?_)
                    clear hK K hS_ hr hg hi_ hz_ hzs_ hsz_ hby_ hl39
                    have hS_ := hSn
                    have hb40 := hbn
                    have ho40 := hon
                    clear hSn hbn hon hb39 ho39
                    try simp only [Act.put, List.setIfInBounds_toArray, List.set_cons_zero, List.set_cons_succ]
                    refine takeW 7 ?_ rfl (by kernel_rfl) (by kernel_rfl) (by kernel_rfl) (fun _ _ _ h => h) (by rfl) ?_ hS_ ?_
                    rotate_left
                    · intro w9 hSw
                      try dsimp only at hSw
                      go_simp
                      with_reducible rfl
                    try simp only [Act.put, List.setIfInBounds_toArray, List.set_cons_zero, List.set_cons_succ]
                    refine wpAnyH_ready (rs := [8]) (by kernel_rfl) (by simp) (readyL rfl (fun K hK => ?_) AllReadyH.nil)
                    · have hxx := (hb40.block w.heap.size (lt_heap HX3.out)).trans HX3.out
                      have FX := Hd.mk (cells_set (o := 1) hxx (.slice av (n + 1) cv))
                      have FH : Hd ((X40.setCell ⟨w.heap.size, 1, none⟩ (.slice av (n + 1) cv)).heap[w.heap.size + 1]? = some (.cells #[.int .i64 nx, .int .i64 par, .int .i64 port, .int .i64 hol, .int .i64 (n8 r), .bool false] 104 (0, 0))) := ⟨(setCell_other (by omega)).trans hS_⟩
                      have FR : Hd ((X40.setCell ⟨w.heap.size, 1, none⟩ (.slice av (n + 1) cv)).heap[w.heap.size + 2]? = some (.cells #[.int .i64 0, .slice none 0 0] 88 (0, 0))) := ⟨(setCell_other (by omega)).trans ((hb40.block _ (lt_heap HR3.out)).trans HR3.out)⟩
                      have FO : Hd (OwnN rL (X40.setCell ⟨w.heap.size, 1, none⟩ (.slice av (n + 1) cv)) W3.heap.size 104 (.slice av (n + 1) cv) (st.made ++ [(⟨nx, par, port, hol, r⟩, false)])) := ⟨ho40.same fun g hg => setCell_other (by have h1 := (ho40.lt hg).1; have h2 := HSZ3.out; omega)⟩
                      have FB : Hd (Below w.heap.size w (X40.setCell ⟨w.heap.size, 1, none⟩ (.slice av (n + 1) cv))) := ⟨(HB3.out.trans (hb40.mono HB3.out.size)).setCell (p := ⟨w.heap.size, 1, none⟩) (Nat.le_refl _) _⟩
                      have q1 : X40.cell? ⟨w.heap.size, 1, none⟩ = some (.slice a n c) := cells_cell hxx 1
                      have f1 := cells_free hxx 1
                      go_simp
                      refine hK.out _ _ FH.out (fun _ => ?_)
                      clear hK K hxx q1 f1
                      try simp only [Act.put, List.setIfInBounds_toArray, List.set_cons_zero, List.set_cons_succ]
                      refine wpAnyH_done (by kernel_rfl) ?_ _
                      go_wp2_with fail
                      go_meet
                      exact ⟨_, _, rfl, FX, FH, FR, FO, FB⟩
        case rest =>
          obtain ⟨av, cv, rfl, HX4, HH4, HR4, HO4, HB4⟩ := hcut
          have t0 := (cells_cell HX4.out 0).trans (show _ = some (.int .i64 nx) from rfl)
          have f0 := cells_free HX4.out 0
          have hwx : IntKind.i64.wrap (nx + 1) = nx + 1 := IntWalk.i64_in _ ⟨by have := HNB.out; omega, by have := HNB.out; omega⟩
          go_upto_region 8 with fail
          obtain ⟨W5, hW5⟩ : ∃ W, wc.setCell ⟨w.heap.size, 0, none⟩ (.int .i64 (nx + 1)) = W := ⟨_, rfl⟩
          have hx5 : W5.heap[w.heap.size]? = some (.cells #[.int .i64 (nx + 1), .slice av (n + 1) cv] 88 (0, 0)) := by rw [← hW5]; exact cells_set (o := 0) HX4.out _
          have hh5 : W5.heap[w.heap.size + 1]? = some (.cells #[.int .i64 nx, .int .i64 par, .int .i64 port, .int .i64 hol, .int .i64 (n8 r), .bool false] 104 (0, 0)) := by rw [← hW5]; exact (setCell_other (by omega)).trans HH4.out
          have hr5 : W5.heap[w.heap.size + 2]? = some (.cells #[.int .i64 0, .slice none 0 0] 88 (0, 0)) := by rw [← hW5]; exact (setCell_other (by omega)).trans HR4.out
          have ho5 : OwnN rL W5 W3.heap.size 104 (.slice av (n + 1) cv) (st.made ++ [(⟨nx, par, port, hol, r⟩, false)]) := by rw [← hW5]; exact HO4.out.same fun g hg => setCell_other (by have h1 := (HO4.out.lt hg).1; have h2 := HSZ3.out; omega)
          have HB5 : Hd (Below w.heap.size w W5) := ⟨by rw [← hW5]; exact HB4.out.setCell (p := ⟨w.heap.size, 0, none⟩) (Nat.le_refl _) _⟩
          rw [hW5]
          have HR5 := Hd.mk hr5
          have HO5 := Hd.mk ho5
          clear t0 f0 hwx hW5 ho5 HX4 HH4 HR4 HO4 HB4
          obtain ⟨W6, hW6⟩ : ∃ W, W5.drew = W := ⟨_, rfl⟩
          have hx5 : W6.heap[w.heap.size]? = some (.cells #[.int .i64 (nx + 1), .slice av (n + 1) cv] 88 (0, 0)) := by rw [← hW6]; exact hx5
          have hh5 : W6.heap[w.heap.size + 1]? = some (.cells #[.int .i64 nx, .int .i64 par, .int .i64 port, .int .i64 hol, .int .i64 (n8 r), .bool false] 104 (0, 0)) := by rw [← hW6]; exact hh5
          have hr5 : W6.heap[w.heap.size + 2]? = some (.cells #[.int .i64 0, .slice none 0 0] 88 (0, 0)) := by rw [← hW6]; exact hr5
          have HB6 : Hd (Below w.heap.size w W6) := ⟨by rw [← hW6]; exact HB5.out.drew⟩
          have HO6 : Hd (OwnN rL W6 W3.heap.size 104 (.slice av (n + 1) cv) (st.made ++ [(⟨nx, par, port, hol, r⟩, false)])) := ⟨by rw [← hW6]; exact HO5.out.same (fun _ _ => rfl)⟩
          have hS0 : W6.cell? ⟨w.heap.size, 0, none⟩ = some (.int .i64 (nx + 1)) ∧ W6.cell? ⟨w.heap.size, 1, none⟩ = some (.slice av (n + 1) cv) ∧ W6.cell? ⟨w.heap.size + 1, 0, none⟩ = some (.int .i64 nx) := ⟨(cells_cell hx5 0).trans rfl, (cells_cell hx5 1).trans rfl, (cells_cell hh5 0).trans rfl⟩
          have FN := Hd.mk (set2 (W := W6) hr5 (.int .i64 (nx + 1)) (.slice av (n + 1) cv))
          have hS1 : ((W6.setCell ⟨w.heap.size + 2, 0, none⟩ (.int .i64 (nx + 1))).setCell ⟨w.heap.size + 2, 1, none⟩ (.slice av (n + 1) cv)).cell? ⟨w.heap.size, 0, none⟩ = some (.int .i64 (nx + 1)) ∧ ((W6.setCell ⟨w.heap.size + 2, 0, none⟩ (.int .i64 (nx + 1))).setCell ⟨w.heap.size + 2, 1, none⟩ (.slice av (n + 1) cv)).cell? ⟨w.heap.size, 1, none⟩ = some (.slice av (n + 1) cv) ∧ ((W6.setCell ⟨w.heap.size + 2, 0, none⟩ (.int .i64 (nx + 1))).setCell ⟨w.heap.size + 2, 1, none⟩ (.slice av (n + 1) cv)).cell? ⟨w.heap.size + 1, 0, none⟩ = some (.int .i64 nx) := ⟨(cells_cell ((other2 (by omega) _ _).trans hx5) 0).trans rfl, (cells_cell ((other2 (by omega) _ _).trans hx5) 1).trans rfl, (cells_cell ((other2 (by omega) _ _).trans hh5) 0).trans rfl⟩
          have hrd := hr5
          have q0 := cells_cell hrd 0
          have f0 := cells_free hrd 0
          have q1 := cells_cell hrd 1
          have f1 := cells_free hrd 1
          simp only [List.getElem?_toArray, List.getElem?_cons_zero, List.getElem?_cons_succ] at q0 q1
          clear hx5 hh5 hr5 hrd
          refine wp_region_held_drew (S := fun W => W.cell? ⟨w.heap.size, 0, none⟩ = some (.int .i64 (nx + 1)) ∧ W.cell? ⟨w.heap.size, 1, none⟩ = some (.slice av (n + 1) cv) ∧ W.cell? ⟨w.heap.size + 1, 0, none⟩ = some (.int .i64 nx)) (by kernel_rfl) (by rw [hW6]; exact hS0) (fun hS_ => ?_)
          try dsimp only at hS_
          rw [hW6] at hS_ ⊢
          clear hW6
          refine takeW 0 ?_ rfl (by kernel_rfl) (by kernel_rfl) (by kernel_rfl) (fun _ _ _ h => h) (by rfl) ?_ hS_ ?_
          rotate_left
          · intro w9 hSw
            try dsimp only at hSw
            go_simp
            with_reducible rfl
          try simp only [Act.put, List.setIfInBounds_toArray, List.set_cons_zero, List.set_cons_succ]
          refine takeW 1 ?_ rfl (by kernel_rfl) (by kernel_rfl) (by kernel_rfl) (fun _ _ _ h => h) (by rfl) ?_ hS_ ?_
          rotate_left
          · intro w9 hSw
            try dsimp only at hSw
            go_simp
            with_reducible rfl
          try simp only [Act.put, List.setIfInBounds_toArray, List.set_cons_zero, List.set_cons_succ]
          refine takeW 2 ?_ rfl (by kernel_rfl) (by kernel_rfl) (by kernel_rfl) (fun _ _ _ h => h) (by rfl) ?_ hS_ ?_
          rotate_left
          · intro w9 hSw
            try dsimp only at hSw
            go_simp
            with_reducible rfl
          try simp only [Act.put, List.setIfInBounds_toArray, List.set_cons_zero, List.set_cons_succ]
          refine wpAnyH_ready (rs := [3]) (by kernel_rfl) (by simp) (readyL rfl (fun K hK => ?_) AllReadyH.nil)
          go_simp
          refine hK.out _ _ hS1 (fun _ => ?_)
          clear hK K hS_
          try simp only [Act.put, List.setIfInBounds_toArray, List.set_cons_zero, List.set_cons_succ]
          have hS_ := hS1
          refine takeW 4 ?_ rfl (by kernel_rfl) (by kernel_rfl) (by kernel_rfl) (fun _ _ _ h => h) (by rfl) ?_ hS_ ?_
          rotate_left
          · intro w9 hSw
            try dsimp only at hSw
            go_simp
            with_reducible rfl
          try simp only [Act.put, List.setIfInBounds_toArray, List.set_cons_zero, List.set_cons_succ]
          refine takeW 5 ?_ rfl (by kernel_rfl) (by kernel_rfl) (by kernel_rfl) (fun _ _ _ h => h) (by rfl) ?_ hS_ ?_
          rotate_left
          · intro w9 hSw
            try dsimp only at hSw
            go_simp
            with_reducible rfl
          try simp only [Act.put, List.setIfInBounds_toArray, List.set_cons_zero, List.set_cons_succ]
          refine wpAnyH_done (by kernel_rfl) ?_ _
          clear hS_ hS1 hS0 q0 q1 f0 f1
          go_wp2_with fail
          refine bodyPost_ret (results_cell_row3 Try.results64 _ _ (w.heap.size + 2) 88 #[.int .i64 (nx + 1), .slice av (n + 1) cv] (0, 0) _ rfl FN.out Try.underlying88 rfl size88) rfl ?_
          refine ⟨_, by rw [HAE.out, HAN.out, HAS.out]; rfl, .inr ?_, below2 HB6.out (by omega) _ _⟩
          rw [HAS.out]
          intro W' hW'
          have hok := HOK.out
          rw [HAS.out] at hok
          refine ⟨?_, ?_, hok⟩
          · show SrcN rL W' _ (st.made ++ [(⟨nx, par, port, hol, r⟩, false)])
            refine (HO6.out.same (w' := W') fun g hg => ?_).src
            have h1 := HO6.out.lt hg
            have h2 := HSZ3.out
            refine (hW' g (by omega) (by simp only [World.setCell, Array.size_modify]; exact h1.2)).trans ?_
            exact other2 (by omega) _ _
          · show (st.made ++ [((⟨nx, par, port, hol, r⟩ : Hn), false)]).length ≤ 1000
            rw [List.length_append, HN.out, List.length_singleton]
            have := HN2.out
            omega

end Go.Proofs.Ytinagiofolmhbaa
