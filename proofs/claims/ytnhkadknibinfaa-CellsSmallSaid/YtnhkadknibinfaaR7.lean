/- The reference's Mark and Pop. -/
import Derived.Test.YtnhkadknibinfaaR6
namespace Go.Proofs.Ytnhkadknibinfaa
open Go.RowKit
set_option linter.unusedVariables false
set_option linter.unusedSimpArgs false

theorem app84 {w : World} {base : Nat} {v sv : Value} {vs ys : List Value} (h : OwnE id w base 60 v vs) (hb : base ≤ w.heap.size) (hs : SrcE id w sv ys) (ho : ∀ u ∈ ys, u.oneCell' = true) (hl : vs.length + ys.length ≤ 100000) :
    ∃ v' w', (Builtin.append_ #[84, 84] 84 #[v, sv]).run Try.prog w = .ok v' w' ∧ OwnE id w' base 60 v' (vs ++ ys) ∧ w.grownBy w' v.ownBlock := by
  obtain ⟨i, hi, hz, hsz, hby⟩ : ∃ i : TypeInfo, Try.prog.info? 60 = some i ∧ i.zero = some (.slice none 0 0) ∧ i.size = 1 ∧ i.bytes = 24 := ⟨(Try.prog.info? 60).get (by kernel_rfl), by kernel_rfl, by kernel_rfl, by kernel_rfl, by kernel_rfl⟩
  rcases hs with ⟨rfl, rfl⟩ | ⟨ad, c, rfl, _, _, hcell⟩
  · exact ⟨v, w, run_append_owned_none (P := Try.prog) w base 84 84 60 i 1 Try.underlying84 hi v vs.length (vs.map id) h, by rw [List.append_nil]; exact h, ⟨rfl, rfl, rfl, Nat.le_refl _, fun _ _ _ => rfl⟩⟩
  · obtain ⟨v', w', hr, ho', hg, _⟩ := run_append_own (P := Try.prog) w base 84 84 60 i _ 1 24 Try.underlying84 hi hz hsz hby rfl (by decide) v vs.length (vs.map id) h ad ys.length c ys
      (by simp) (by
        intro j x hj
        have hjl : j < ys.length := (List.getElem?_eq_some_iff.1 hj).1
        rw [List.getElem?_eq_getElem hjl] at hj
        rw [hcell j hjl]
        exact hj) ho (by simp only [maxLen]; omega) (by omega) hb
    refine ⟨v', w', hr, ?_, hg⟩
    unfold OwnE
    rw [List.length_append, List.map_append, List.map_id ys]
    exact ho'
theorem PMarks.src {pr : Nat → Prop} {W : World} {v : Value} {m : List (List (List Int))} (h : PMarks pr W v m) : ∃ vs : List Value, vs.length = m.length ∧ SrcE id W v vs ∧ (∀ k (hk : k < m.length) (hv : k < vs.length), PRows pr W vs[k] m[k]) ∧ ∀ u ∈ vs, u.oneCell' = true := by
  obtain ⟨vs, h1, h2, h3⟩ := PList.src h
  refine ⟨vs, h1, h2, h3, fun u hu => ?_⟩
  obtain ⟨k, hk, rfl⟩ := List.mem_iff_getElem.1 hu
  obtain ⟨a, c, e, _⟩ := (h3 k (by omega) hk).shape
  rw [e]; rfl

theorem own_shape {w : World} {base e : Nat} {v : Value} {vs : List Value} (h : OwnE id w base e v vs) : ∃ a n c, v = .slice a n c := by
  rcases h.cases with ⟨h, _⟩ | ⟨g, cap, h, _⟩
  · exact ⟨_, _, _, h⟩
  · exact ⟨_, _, _, h⟩
theorem mark_run {w1 w5 w6 : World} {v5 : Value} {vs : List Value} (hB5 : Below w1.heap.size w1 w5) (ho : OwnE id w5 w1.heap.size 60 v5 vs) (hl : vs.length ≤ 63) (hB6 : Below w5.heap.size w5 w6) (sa : Option Addr) (sn sc : Nat) :
    ∃ a n c w7, (Builtin.append_ #[84, 84] 84 #[v5, .slice (some ⟨w6.heap.size, 0, none⟩) 1 1]).run Try.prog (w6.alloc (.cells #[.slice sa sn sc] 60)) = .ok (.slice a n c) w7 ∧ OwnE id w7 w1.heap.size 60 (.slice a n c) (vs ++ [.slice sa sn sc]) ∧ Below w1.heap.size w1 w7 ∧ ∀ (b : Nat) cs e fr, w6.heap[b]? = some (.cells cs e fr) → e ≠ 60 → w7.heap[b]? = w6.heap[b]? := by
  have h1 := hB5.size
  have h2 := hB6.size
  have hB : Below w1.heap.size w1 (w6.alloc (.cells #[.slice sa sn sc] 60)) := (hB5.trans (hB6.mono h1)).alloc (by omega) _
  have hoa := OwnE.alloc (OwnE.below ho hB6) (.cells #[.slice sa sn sc] 60)
  have hs : SrcE (id : Value → Value) (w6.alloc (.cells #[.slice sa sn sc] 60)) (.slice (some ⟨w6.heap.size, 0, none⟩) 1 1) [.slice sa sn sc] := by
    refine .inr ⟨⟨w6.heap.size, 0, none⟩, 1, rfl, by simp, by simp [maxLen], fun j hj => ?_⟩
    obtain rfl : j = 0 := by simpa using hj
    rw [plain_add, cells_cell (heap_alloc_new _ _)]; rfl
  obtain ⟨v7, w7, hr, ho7, hg⟩ := app84 hoa (by simp; omega) hs (by intro u hu; simp at hu; subst hu; rfl) (by simp; omega)
  obtain ⟨a, n, c, rfl⟩ := own_shape ho7
  refine ⟨a, n, c, w7, hr, ho7, OwnE.grown hoa hB (by simp; omega) hg, fun b cs e fr hb hne => ?_⟩
  have hbl := lt_of_heap hb
  rw [hg.block b (by simp; omega) ?_, heap_alloc_old _ _ hbl]
  intro he
  obtain ⟨cur, hc⟩ := OwnE.ty (OwnE.below ho hB6) he.symm
  rw [hb] at hc; cases hc; exact hne rfl
theorem own_len {w : World} {base e : Nat} {a : Option Addr} {n c : Nat} {vs : List Value} (h : OwnE id w base e (.slice a n c) vs) : n = vs.length := by
  rcases h.cases with ⟨h, h2⟩ | ⟨g, cap, h, _⟩
  · simp only [Value.slice.injEq] at h; rw [h2]; exact h.2.1
  · simp only [Value.slice.injEq] at h; exact h.2.1
/-- The marks, and one more. -/
theorem marks_push {pr pr' : Nat → Prop} {w W : World} {base : Nat} {v x : Value} {vs : List Value} {m : List (List (List Int))} {a : List (List Int)} (hv : vs.length = m.length) (hm : ∀ k (hk : k < m.length) (hv : k < vs.length), PRows pr w vs[k] m[k])
    (hp : ∀ k, pr k → k < w.heap.size → pr' k) (hk : ∀ k, pr k → k < w.heap.size → W.heap[k]? = w.heap[k]?) (hs : w.heap.size ≤ W.heap.size) (hr : PRows pr' W x a) (h : OwnE id W base 60 v (vs ++ [x])) (hb : ∀ b, base ≤ b → b < W.heap.size → pr' b) : PMarks pr' W v (m ++ [a]) := by
  refine PList.ofOwn h (by simp [hv]) (fun k hk1 hk2 => ?_) hb
  by_cases hkm : k < m.length
  · rw [List.getElem_append_left (by omega), List.getElem_append_left hkm]
    exact (hm k hkm (by omega)).mono hp hk hs
  · have e : k = m.length := by simp at hk1; omega
    subst e
    rw [List.getElem_append_right (by omega), List.getElem_append_right (by omega)]
    simp only [hv, Nat.sub_self, List.getElem_cons_zero]
    exact hr

set_option maxRecDepth 100000 in
set_option maxHeartbeats 2000000 in
theorem rmark_any {pr : Nat → Prop} {w : World} {v1 v2 : Value} {st : St} (h : RefAt pr w v1 v2 st) (hok : StOk st) (hpr : ∀ k, pr k → k < w.heap.size) :
    Calls Try.prog 39 #[.agg #[v1, v2]] w fun e w' => ∃ v1' v2', e = .returned (.tuple #[.agg #[v1', v2'], .int .i64 (markN st), .int .i64 (markE st)]) ∧ RefAt (grow pr w w') w' v1' v2' (markS st) ∧ Below w.heap.size w w' := by
  obtain ⟨a1, cc1, h1, _⟩ := h.now.shape
  obtain ⟨a2, cc2, h2, _⟩ := h.marks.shape
  obtain ⟨N, hN⟩ : ∃ n, st.now.length = n := ⟨_, rfl⟩
  obtain ⟨nm, hnm⟩ : ∃ n, st.marks.length = n := ⟨_, rfl⟩
  rw [hN] at h1
  rw [hnm] at h2
  subst h1 h2
  obtain ⟨hb0, hb1, hB1, hs1⟩ := two_boxes w (.slice a1 N cc1) (.slice a2 nm cc2)
  obtain ⟨w1, hw1⟩ : ∃ W, (w.alloc (.cells #[.slice a1 N cc1, .slice a2 nm cc2] 86)).alloc (.cells #[.slice none 0 0, .slice none 0 0] 86) = W := ⟨_, rfl⟩
  rw [hw1] at hb0 hb1 hB1 hs1
  obtain ⟨G, hG⟩ : ∃ g, w.heap.size = g := ⟨_, rfl⟩
  rw [hG] at hb0 hb1 hs1
  have b0 := cells_cell hb0 0
  have b1 := cells_cell hb0 1
  have f1 := cells_free hb0 1
  have c0 := cells_cell hb1 0
  have c1 := cells_cell hb1 1
  have g0 := cells_free hb1 0
  have g1 := cells_free hb1 1
  simp only [List.getElem?_toArray, List.getElem?_cons_zero, List.getElem?_cons_succ] at b0 b1 c0 c1
  have HR := Hd.mk h
  have HB1 := Hd.mk hB1
  have HX0 := Hd.mk hb0
  have HX1 := Hd.mk hb1
  have HS1 : Hd (w1.heap.size = G + 2 ∧ w.heap.size = G) := ⟨hs1, hG⟩
  have HOK := Hd.mk hok
  have HPR := Hd.mk hpr
  clear hpr
  have HN := Hd.mk hN
  have HNM := Hd.mk hnm
  by_cases h64 : 64 ≤ nm
  · have e1 : markN st = 0 := by unfold markN; rw [if_pos (by omega)]
    have e2 : markE st = 5 := by unfold markE; rw [if_pos (by omega)]
    have e3 : markS st = st := by unfold markS; rw [if_pos (by omega)]
    rw [e1, e2, e3]
    have nm64 : nm = 64 := by have := hok.many; omega
    have t1 : ((nm : Int) == 64) = true := by simp; omega
    have HF := Hd.mk (set2c_box (.slice a1 N cc1) (.slice a2 nm cc2) hb1)
    clear h hok hb0 hb1 hB1 hs1 hN hnm e1 e2 e3 h64 nm64
    go_enter Try.func39, Try.ntmps39
    go_wp2_with fail
    refine bodyPost_ret (results_cell_row3 Try.results39 _ _ (G + 1) 86 _ (0, 0) _ rfl HF.out Try.underlying86 rfl (by kernel_rfl)) rfl ?_
    have hBf : Below w.heap.size w ((w1.setCell ⟨G + 1, 0, none⟩ (.slice a1 N cc1)).setCell ⟨G + 1, 1, none⟩ (.slice a2 nm cc2)) := (HB1.out.setCell (by have := HS1.out; show w.heap.size ≤ G + 1; omega) _).setCell (by have := HS1.out; show w.heap.size ≤ G + 1; omega) _
    exact ⟨.slice a1 N cc1, .slice a2 nm cc2, rfl, HR.out.grown hBf, hBf⟩
  · have e1 : markN st = (nm : Int) + 1 := by unfold markN; rw [if_neg (by omega), hnm]
    have e2 : markE st = 0 := by unfold markE; rw [if_neg (by omega)]
    have e3 : markS st = { st with marks := st.marks ++ [st.now] } := by unfold markS; rw [if_neg (by omega)]
    rw [e1, e2, e3]
    have t1 : ((nm : Int) == 64) = false := by simp; omega
    have t2 : decide ((nm : Int) = 64) = false := by simp; omega
    obtain ⟨vs, hvl, hvs, hvr, hvo⟩ := (h.below hB1).marks.src
    have HVL := Hd.mk hvl
    obtain ⟨vs', hvl', hvs', hvr', hvo'⟩ := h.marks.src
    have hBd : Below w1.heap.size w1 (w1.drew.alloc (.cells #[] 60)) := ((Below.refl w1.heap.size w1).drew).alloc (Nat.le_refl _) _
    have hmade := OwnE.made (id : Value → Value) w1.drew w1.heap.size 60 (Nat.le_refl _)
    obtain ⟨v5, w5, hr5, ho5, hg5⟩ := app84 hmade (by show w1.heap.size ≤ (World.alloc _ _).heap.size; simp) (SrcE.below hvs hBd) hvo (by simp; omega)
    have hB5 : Below w1.heap.size w1 w5 := OwnE.grown hmade hBd (by show w1.heap.size ≤ (World.alloc _ _).heap.size; simp) hg5
    have HB5 := Hd.mk hB5
    have HO5 := Hd.mk (show OwnE id w5 w1.heap.size 60 v5 vs by simpa using ho5)
    have HVR := Hd.mk hvr
    have HCP := Hd.mk (copied_any (((h.below hB1).now).below hB5) hok.owners hok.cells)
    have hb5 := (hB5.block G (by omega)).trans hb0
    have d0 := cells_cell hb5 0
    simp only [List.getElem?_toArray, List.getElem?_cons_zero] at d0
    have n64 : nm ≤ 63 := by omega
    have HN63 : Hd (nm ≤ 63) := ⟨n64⟩
    have lG : G < w1.heap.size := by omega
    have lG5 : G < w5.heap.size := by have := hB5.size; omega
    obtain ⟨a5, n5, c5, rfl⟩ : ∃ a n c, v5 = .slice a n c := by
      rcases ho5.cases with ⟨h, _⟩ | ⟨g, cap, h, _⟩
      · exact ⟨_, _, _, h⟩
      · exact ⟨_, _, _, h⟩
    have hr5b : (Builtin.append_ #[84, 84] 84 #[.slice (some ⟨w1.heap.size, 0, none⟩) 0 0, .slice a2 nm cc2]).run Try.prog (w1.drew.alloc (.cells #[] 60)) = .ok (.slice a5 n5 c5) w5 := hr5
    clear hr5
    clear h hok hb0 hb1 hB1 hs1 hN hnm e1 e2 e3 h64 hvl hvs hvr hvo hvl' hvs' hvr' hvo' hBd hmade ho5 hg5 hB5 hb5 n64
    go_enter Try.func39, Try.ntmps39
    go_wp2_with fail
    clear hw1 hG
    go_region_law (first
      | (refine step_append_run rfl _ _ _ rfl rfl rfl hr5b ?_; clear hr5b)
      | (refine step_append_run rfl _ _ _ rfl rfl rfl hr7 ?_; clear hr7)
      | (go_simp; go_at_call 47; refine HCP.out.mono ?_; rintro e w6 ⟨y, rfl, hrw⟩;
         have hN := HN.out;
         obtain ⟨a7, n7, c7, w7, hr7, ho7, hB7, hk7⟩ := mark_run HB5.out HO5.out (by have := HVL.out; have := HNM.out; have := HN63.out; omega) hrw.bel y.ca st.now.length y.cc;
         have HW7 := Hd.mk (And.intro hB7 (And.intro hrw (And.intro ho7 hk7)));
         have hb7 := (hB7.block G lG).trans HX0.out; have q1 := cells_cell hb7 1; have qf := cells_free hb7 1;
         simp only [List.getElem?_toArray, List.getElem?_cons_zero, List.getElem?_cons_succ] at q1;
         rw [hN] at hr7 ⊢; clear hN hB7 hrw ho7 hk7 hb7))
    all_goals
      obtain ⟨hB7, hrw, ho7, hk7⟩ := HW7.out
      obtain rfl : n7 = nm + 1 := by
        have h1 := own_len ho7
        have h2 := HVL.out
        have h3 := HNM.out
        simp at h1; omega
      have hb7 := (hB7.block G lG).trans HX0.out
      have hb8 := cells_set (o := 1) hb7 (.slice a7 (nm + 1) c7)
      have hx8 := (setCell_other (v := .slice a7 (nm + 1) c7) (W := w7) (o := 1) (show G + 1 ≠ G by omega) : (w7.setCell ⟨G, 1, none⟩ (.slice a7 (nm + 1) c7)).heap[G + 1]? = w7.heap[G + 1]?).trans ((hB7.block (G + 1) (by have := HS1.out; omega)).trans HX1.out)
      simp only [List.setIfInBounds_toArray, List.set_cons_zero, List.set_cons_succ] at hb8
      obtain ⟨W8, hW8⟩ : ∃ W, w7.setCell ⟨G, 1, none⟩ (.slice a7 (nm + 1) c7) = W := ⟨_, rfl⟩
      have h8o : ∀ b, b ≠ G → W8.heap[b]? = w7.heap[b]? := fun b hb => by rw [← hW8]; exact setCell_other hb
      have h8B : Below w.heap.size w W8 := by
        rw [← hW8]
        exact (HB1.out.trans (hB7.mono HB1.out.size)).setCell (by have := HS1.out; show w.heap.size ≤ G; omega) _
      have h8g : w7.grownBy W8 (some G) := by rw [← hW8]; exact grown_cell _ _ _ _
      rw [hW8] at hb8 hx8
      have m0 := cells_cell hb8 0
      have m1 := cells_cell hb8 1
      have r0 := cells_cell hx8 0
      have r1 := cells_cell hx8 1
      have k0 := cells_free hx8 0
      have k1 := cells_free hx8 1
      simp only [List.getElem?_toArray, List.getElem?_cons_zero, List.getElem?_cons_succ] at m0 m1 r0 r1
      have HF := Hd.mk (show (((W8).setCell ⟨G + 1, 0, none⟩ (.slice a1 N cc1)).setCell ⟨G + 1, 1, none⟩ (.slice a7 (nm + 1) c7)).drew.heap[G + 1]? = _ from set2c_box (.slice a1 N cc1) (.slice a7 (nm + 1) c7) hx8)
      have lG1 : G + 1 < W8.heap.size := lt_of_heap hx8
      have lG0 : G < W8.heap.size := lt_of_heap hb8
      have H8B := Hd.mk h8B
      have H8G := Hd.mk h8g
      have H8O := Hd.mk h8o
      have H8S : Hd (W8.heap.size = w7.heap.size) := ⟨by rw [← hW8]; simp [World.setCell]⟩
      rw [hW8]
      have HB8 := Hd.mk hb8
      have HX8 := Hd.mk hx8
      clear hB7 hrw ho7 hk7 hb7 hb8 hx8 hW8 h8o h8B h8g q1 qf
      go_wp2_with fail
      go_region
      all_goals (go_wp2_with fail)
    all_goals
      refine bodyPost_ret (results_cell_row3 Try.results39 _ _ (G + 1) 86 _ (0, 0) _ rfl HF.out Try.underlying86 rfl (by kernel_rfl)) rfl ?_
      have hs1 := HS1.out
      obtain ⟨hB7, hrw, ho7, hk7⟩ := HW7.out
      have hBf : Below w.heap.size w ((W8.setCell ⟨G + 1, 0, none⟩ (.slice a1 N cc1)).setCell ⟨G + 1, 1, none⟩ (.slice a7 (nm + 1) c7)).drew := ((H8B.out.setCell (by show w.heap.size ≤ G + 1; omega) _).setCell (by show w.heap.size ≤ G + 1; omega) _).drew
      obtain ⟨W9, hW9⟩ : ∃ W, ((W8.setCell ⟨G + 1, 0, none⟩ (.slice a1 N cc1)).setCell ⟨G + 1, 1, none⟩ (.slice a7 (nm + 1) c7)).drew = W := ⟨_, rfl⟩
      have h9 : ∀ b, b ≠ G → b ≠ G + 1 → W9.heap[b]? = w7.heap[b]? := fun b h1 h2 => by
        rw [← hW9]
        show ((W8.setCell ⟨G + 1, 0, none⟩ (.slice a1 N cc1)).setCell ⟨G + 1, 1, none⟩ (.slice a7 (nm + 1) c7)).heap[b]? = _
        rw [set2c_other _ _ h2]; exact H8O.out b h1
      have h9s : W9.heap.size = w7.heap.size := by
        rw [← hW9]
        show ((W8.setCell ⟨G + 1, 0, none⟩ (.slice a1 N cc1)).setCell ⟨G + 1, 1, none⟩ (.slice a7 (nm + 1) c7)).heap.size = _
        rw [set2c_size]
        exact Nat.le_antisymm (H8S.out ▸ Nat.le_refl _) (H8S.out ▸ Nat.le_refl _)
      rw [hW9] at hBf ⊢
      have h5 := HB5.out.size
      have hrows : RowsAt y W9 (fun k => k < w5.heap.size) st.now := by
        have h6 := hrw.rows.keep (w' := w7) (fun b cs fr hb => hk7 b cs 28 fr hb (by decide)) (fun b cs fr hb => hk7 b cs 2 fr hb (by decide))
        have hG7 := (hB7.block G lG).trans HX0.out
        have hX7 := (hB7.block (G + 1) (by omega)).trans HX1.out
        exact h6.keep (fun b cs fr hb => h9 b (fun e => by rw [e, hG7] at hb; simp at hb) (fun e => by rw [e, hX7] at hb; simp at hb)) (fun b cs fr hb => h9 b (fun e => by rw [e, hG7] at hb; simp at hb) (fun e => by rw [e, hX7] at hb; simp at hb))
      have hown : OwnE id W9 w1.heap.size 60 (.slice a7 (nm + 1) c7) (vs ++ [.slice y.ca st.now.length y.cc]) := ho7.same fun g cur fr hg hv => by
        have := (World.ownsRow.lt ho7 g hv).1
        exact h9 g (by omega) (by omega)
      refine ⟨.slice a1 N cc1, .slice a7 (nm + 1) c7, rfl, ⟨HR.out.now.mono (fun k hk _ => .inl hk) (fun k _ hl => hBf.block k hl) hBf.size, ?_⟩, hBf⟩
      refine marks_push (w := w1) HVL.out HVR.out (fun k h1 h2 => .inl h1) (fun k h1 h2 => ?_) (by rw [h9s]; exact hB7.size) (hrows.prows fun b h1 h2 => .inr ⟨by omega, h2⟩) hown (fun b h1 h2 => .inr ⟨by omega, h2⟩)
      have hkw : k < w.heap.size := HPR.out k h1
      rw [hBf.block k hkw, HB1.out.block k hkw]
end Go.Proofs.Ytnhkadknibinfaa
