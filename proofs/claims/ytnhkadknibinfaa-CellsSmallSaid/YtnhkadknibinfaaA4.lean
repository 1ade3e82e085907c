/- Marks, Mark, pop. -/
import Derived.Test.YtnhkadknibinfaaA3
namespace Go.Proofs.Ytnhkadknibinfaa
open Go.RowKit
set_option linter.unusedVariables false
set_option linter.unusedSimpArgs false

theorem marks_any {y : Lay} {w : World} {pr : Nat → Prop} {M : Nat} {st : St} (h : MemL y w pr M st) :
    Calls Try.prog 14 #[.pointer (some ⟨M, 0, none⟩)] w fun e w' => e = .returned (.int .i64 st.marks.length) ∧ w = w' := by
  have c0 := h.c0
  have c2 := h.c2
  obtain ⟨n, hn⟩ : ∃ n, st.marks.length = n := ⟨_, rfl⟩
  rw [hn] at c2 ⊢
  clear h hn
  go_enter Try.func14, Try.ntmps14
  go_wp2_with fail
  refine (is_at c0).mono ?_
  rintro e w1 ⟨rfl, rfl⟩
  go_wp2_with fail
  refine bodyPost_ret (results_tmp Try.results14 _ _ _) rfl ?_
  exact ⟨rfl, rfl⟩

/-- One mark is laid at the row's end. -/
theorem push_mark {W : World} {v : Value} {xs : List Value} (h : OwnE id W 0 78 v xs) (hn : xs.length ≤ 64) {X b : Nat} (hX : W.cell? ⟨X, 0, none⟩ = some (.map (some b))) (ty : TypeId) :
    ∃ K cap W', (Builtin.append_ #[61, 61] ty #[v, .slice (some ⟨X, 0, none⟩) 1 1]).run Try.prog W = .ok (.slice (some ⟨K, 0, none⟩) (xs.length + 1) cap) W' ∧ OwnE id W' 0 78 (.slice (some ⟨K, 0, none⟩) (xs.length + 1) cap) (xs ++ [.map (some b)]) ∧
      W.grownBy W' v.ownBlock ∧ (v.ownBlock = some K ∨ K = W.heap.size) := by
  obtain ⟨i, hi, hz, hsz, hby⟩ : ∃ i : TypeInfo, Try.prog.info? 78 = some i ∧ i.zero = some (.agg #[.map none]) ∧ i.size = 1 ∧ i.bytes = 8 := ⟨(Try.prog.info? 78).get (by kernel_rfl), by kernel_rfl, by kernel_rfl, by kernel_rfl, by kernel_rfl⟩
  obtain ⟨v', W', hr, ho, hg, h4, h5⟩ := run_append_own_at (P := Try.prog) W 0 61 ty 78 i _ 1 8 Try.underlying61 hi hz hsz hby rfl (by decide) v xs.length (xs.map id) h ⟨X, 0, none⟩ 1 1 [.map (some b)] rfl
    (by
      intro j u hj
      cases j with
      | zero => simp at hj; subst hj; exact hX
      | succ j => simp at hj)
    (by intro u hu; simp at hu; subst hu; rfl) (by simp only [maxLen]; omega) (by omega) (Nat.zero_le _)
  rcases ho.2 with ⟨h6, h7⟩ | ⟨g, cap, cur, hv, hg', hh, hc, hm, hs, ht⟩
  · omega
  · subst hv
    refine ⟨g, cap, W', hr, ?_, hg, ?_⟩
    · unfold OwnE
      rw [List.length_append, List.map_append]
      exact ho
    · rcases h5 with h5 | h5
      · exact .inl h5.symm
      · exact .inr (by simpa [Value.ownBlock] using h5)

/-- A shorter part of an own row. -/
theorem OwnE.shrink {w : World} {e : Nat} {ka : Option Addr} {kc : Nat} {xs : List Value} {m : Nat} (h : OwnE id w 0 e (.slice ka xs.length kc) xs) (hm : m < xs.length) : OwnE id w 0 e (.slice ka m kc) (xs.take m) := by
  obtain ⟨h1, h2⟩ := h
  have hl : (xs.take m).length = m := by simp; omega
  rcases h2 with ⟨h2, h3⟩ | ⟨g, cap, cur, hv, hg, hh, hc, hm', hs, ht⟩
  · omega
  · simp only [Value.slice.injEq] at hv
    obtain ⟨rfl, _, rfl⟩ := hv
    refine ⟨by simp, .inr ⟨g, kc, cur, by rw [hl], hg, hh, by omega, hm', hs, ?_⟩⟩
    rw [hl]
    have := congrArg (List.take m) ht
    rw [List.take_take] at this
    simp only [List.map_id] at this ⊢
    rw [← this]
    congr 1
    omega

theorem marksV_take (y : Lay) (n m : Nat) (h : m ≤ n) : (marksV y n).take m = marksV y m := by
  unfold marksV
  rw [← List.map_take, List.take_range]
  congr 2
  omega

/-- The last mark is gone. -/
theorem MarksAt.drop {y : Lay} {w : World} {pr : Nat → Prop} {st st' : St} {n : Nat} (h : MarksAt y w pr st) (hn : st.marks.length = n + 1) (hm : st'.marks = st.marks.dropLast)
    (htop : ∀ j, j + 1 = n → ∃ L, MapL Try.prog 73 ik iv w (y.mb j) L ∧ ∀ p, lk L p = diffP (snapAt st j) st'.now p) : MarksAt y w pr st' := by
  have hl : st'.marks.length = n := by rw [hm]; simp; omega
  refine ⟨?_, h.ownP, ?_, fun i j hi hj => h.apart i j (by omega) (by omega)⟩
  · have h1 := h.own
    rw [hn] at h1
    have hlen : (marksV y (n + 1)).length = n + 1 := by simp [marksV]
    have := OwnE.shrink (xs := marksV y (n + 1)) (m := n) (by rw [hlen]; exact h1) (by omega)
    rw [marksV_take y _ _ (by omega)] at this
    rw [hl]; exact this
  · intro j hj
    rw [hl] at hj
    obtain ⟨hp, L, hL, hd⟩ := h.maps j (by omega)
    refine ⟨hp, ?_⟩
    have e1 : snapAt st' j = snapAt st j := by
      unfold snapAt
      rw [hm, List.getElem?_dropLast, if_pos (by omega), List.getElem?_eq_getElem (by omega)]; rfl
    rw [e1]
    by_cases h1 : j + 1 < n
    · refine ⟨L, hL, ?_⟩
      have e2 : snapAt st' (j + 1) = snapAt st (j + 1) := by
        unfold snapAt
        rw [hm, List.getElem?_dropLast, if_pos (by omega), List.getElem?_eq_getElem (by omega)]; rfl
      rw [e2]; exact hd
    · have e2 : snapAt st' (j + 1) = st'.now := by
        unfold snapAt
        rw [List.getElem?_eq_none (by omega)]; rfl
      rw [e2]; exact htop j (by omega)

theorem OwnE.ty {α : Type} {enc : α → Value} {w : World} {base e : Nat} {v : Value} {xs : List α} (h : OwnE enc w base e v xs) {g : Nat} (hg : v.ownBlock = some g) : ∃ cur, w.heap[g]? = some (.cells cur e (0, 0)) := by
  obtain ⟨h1, h2⟩ := h
  rcases h2 with ⟨h2, _⟩ | ⟨g', cap, cur, hv, _, hh, _⟩
  · subst h2; cases hg
  · subst hv
    simp [Value.ownBlock] at hg
    subst hg
    exact ⟨cur, hh⟩

theorem setCell_other {W : World} {b o : Nat} {v : Value} {k : Nat} (h : k ≠ b) : (W.setCell ⟨b, o, none⟩ v).heap[k]? = W.heap[k]? := Below.heap_setCell _ _ _ _ (fun e => h e)

set_option maxRecDepth 100000 in
theorem mark_any {y : Lay} {w : World} {pr : Nat → Prop} {M : Nat} {st : St} (h : MemL y w pr M st) :
    Calls Try.prog 16 #[.pointer (some ⟨M, 0, none⟩)] w fun e w' => e = .returned (.tuple #[.int .i64 (markN st), .int .i64 (markE st)]) ∧ MemAt w' pr M (markS st) ∧ Kept pr w w' := by
  have c0 := h.c0
  have c2 := h.c2
  obtain ⟨n, hn⟩ : ∃ n, st.marks.length = n := ⟨_, rfl⟩
  rw [hn] at c2
  by_cases h64 : 64 ≤ n
  · have e1 : markN st = 0 := by unfold markN; rw [if_pos (by omega)]
    have e2 : markE st = 5 := by unfold markE; rw [if_pos (by omega)]
    have e3 : markS st = st := by unfold markS; rw [if_pos (by omega)]
    rw [e1, e2, e3]
    have HM := Hd.mk h
    clear h hn e1 e2 e3
    have i0 : (64 : Int) ≤ (n : Int) := by omega
    go_enter Try.func16, Try.ntmps16
    go_wp2_with fail
    refine (is_at c0).mono ?_
    rintro e w1 ⟨rfl, rfl⟩
    go_wp2_with fail
    refine bodyPost_ret (results_tmp2 Try.results16 _ _ _) rfl ?_
    exact ⟨rfl, ⟨y, HM.out⟩, Kept.refl _ _⟩
  · have e1 : markN st = (n : Int) + 1 := by unfold markN; rw [if_neg (by omega), hn]
    have e2 : markE st = 0 := by unfold markE; rw [if_neg (by omega)]
    have e3 : markS st = { st with marks := st.marks ++ [st.now] } := by unfold markS; rw [if_neg (by omega)]
    rw [e1, e2, e3]
    have hokm := h.ok.mark
    rw [e3] at hokm
    have HOK := Hd.mk hokm
    have HM := Hd.mk h
    have HN := Hd.mk hn
    clear h hn e1 e2 e3 hokm
    have i0 : ¬ (64 : Int) ≤ (n : Int) := by omega
    have lM : M < w.heap.size := World.block_lt_of_cell? w _ c0
    -- the world ahead of append
    have HW2 : Hd (∀ (b : Nat) (o : Obj), w.heap[b]? = some o → ((w.alloc (.map #[] 0)).alloc (.cells #[.map (some w.heap.size)] 78)).heap[b]? = some o) := ⟨fun b o hb => by
      have := (Array.getElem?_eq_some_iff.1 hb).1
      rw [heap_alloc_old _ _ (by simp; omega), heap_alloc_old _ _ this]; exact hb⟩
    have hbox := heap_alloc_new (w.alloc (.map #[] 0)) (.cells #[.map (some w.heap.size)] 78)
    rw [World.size_alloc] at hbox
    have hown : OwnE id ((w.alloc (.map #[] 0)).alloc (.cells #[.map (some w.heap.size)] 78)) 0 78 (.slice y.ka n y.kc) (marksV y n) := by
      have := HM.out.marks.own
      rw [HN.out] at this
      exact (this.alloc _).alloc _
    have hmap : MapL Try.prog 73 ik iv ((w.alloc (.map #[] 0)).alloc (.cells #[.map (some w.heap.size)] 78)) w.heap.size [] :=
      (MapL.made Try.prog 73 ik iv w).same (heap_alloc_old _ _ (by simp))
    obtain ⟨K, cap, W', hr, hO, hg, hK⟩ := push_mark hown (by simp [marksV]; omega) (X := w.heap.size + 1) (b := w.heap.size) (by rw [cells_cell hbox]; rfl) 61
    have hlen : (marksV y n).length = n := by simp [marksV]
    rw [hlen] at hr hO
    have hkeep : ∀ (b : Nat) (o : Obj), w.heap[b]? = some o → (∀ c f, o ≠ Obj.cells c 78 f) → W'.heap[b]? = some o := by
      intro b o hb hne
      have h2 := HW2.out b o hb
      rw [hg.block b (Array.getElem?_eq_some_iff.1 h2).1 ?_, h2]
      intro e
      obtain ⟨cur, hc⟩ := hown.ty e.symm
      rw [h2] at hc
      cases hc
      exact hne _ _ rfl
    have hMW : W'.heap[M]? = some (.cells #[.bool true, .slice y.ca st.now.length y.cc, .slice y.ka n y.kc] 63 (0, 0)) := by
      rw [← HN.out]
      exact hkeep M _ HM.out.bM (fun c f e => by simp at e)
    have cM := cells_cell hMW 2
    have fM := cells_free hMW 2
    have hfin : MemAt (W'.setCell ⟨M, 2, none⟩ (.slice (some ⟨K, 0, none⟩) (n + 1) cap)) pr M { now := st.now, marks := st.marks ++ [st.now] } ∧ Kept pr w (W'.setCell ⟨M, 2, none⟩ (.slice (some ⟨K, 0, none⟩) (n + 1) cap)) := by
      obtain ⟨w3, hw3⟩ : ∃ W, W'.setCell ⟨M, 2, none⟩ (.slice (some ⟨K, 0, none⟩) (n + 1) cap) = W := ⟨_, rfl⟩
      have hM3 := cells_set (o := 2) hMW (.slice (some ⟨K, 0, none⟩) (n + 1) cap)
      have h3 : ∀ b : Nat, b ≠ M → w3.heap[b]? = W'.heap[b]? := fun b hb => by rw [← hw3]; exact setCell_other hb
      have hs3 : w.heap.size ≤ w3.heap.size := by
        have e1 : w3.heap.size = W'.heap.size := by rw [← hw3]; simp [World.setCell]
        have e2 := hg.size
        simp only [World.size_alloc] at e2
        omega
      have hos : w3.os = w.os ∧ w3.tape = w.tape ∧ w3.output = w.output := by rw [← hw3]; exact ⟨hg.os, hg.tape, hg.output⟩
      rw [hw3] at hM3 ⊢
      have hpn := HM.out.prs
      have hnew : ∀ k, w.heap.size ≤ k → ¬ pr k := fun k hk h => by have := hpn k h; omega
      have hKp : ¬ pr K := by
        rcases hK with hK | hK
        · have : ∃ d, y.ka = some d ∧ d.block = K := by
            unfold Value.ownBlock at hK
            cases hka : y.ka with
            | none => rw [hka] at hK; cases hK
            | some d => rw [hka] at hK; simp at hK; exact ⟨d, rfl, hK⟩
          obtain ⟨d, hd, rfl⟩ := this
          exact HM.out.marks.ownP d hd
        · exact hnew K (by rw [hK]; simp; omega)
      have hold : ∀ (b : Nat) (o : Obj), w.heap[b]? = some o → (∀ c f, o ≠ Obj.cells c 78 f) → (∀ c f, o ≠ Obj.cells c 63 f) → w3.heap[b]? = w.heap[b]? := by
        intro b o hb h78 h63
        rw [h3 b (fun e => by subst e; rw [HM.out.bM] at hb; cases hb; exact h63 _ _ rfl), hkeep b o hb h78, hb]
      refine ⟨⟨{ y with ka := some ⟨K, 0, none⟩, kc := cap, mb := fun j => if j < n then y.mb j else w.heap.size }, HOK.out, fun k hk => Nat.lt_of_lt_of_le (hpn k hk) hs3, ?_, HM.out.pM, ?_, ?_⟩, ⟨hos.1, hos.2.1, hos.2.2, hs3, ?_⟩⟩
      · rw [hM3]
        simp [HN.out]
      · have := HM.out.rows.keep (w' := w3) (fun b cs fr hb => hold b _ hb (fun c f e => by simp at e) (fun c f e => by simp at e)) (fun b cs fr hb => hold b _ hb (fun c f e => by simp at e) (fun c f e => by simp at e))
        exact ⟨this.own, this.ownP, this.row, this.apart, this.caps⟩
      · have hml : (st.marks ++ [st.now]).length = n + 1 := by simp [HN.out]
        have hmv : marksV { y with ka := some ⟨K, 0, none⟩, kc := cap, mb := fun j => if j < n then y.mb j else w.heap.size } (n + 1) = marksV y n ++ [.map (some w.heap.size)] := by
          unfold marksV
          rw [List.range_succ, List.map_append]
          congr 1
          · refine List.map_congr_left fun j hj => ?_
            simp [List.mem_range.1 hj]
          · simp
        refine ⟨?_, fun d hd => by cases hd; exact hKp, ?_, ?_⟩
        · simp only [hml, hmv]
          refine hO.same fun b cur fr hb _ => h3 b (fun e => by subst e; rw [hMW] at hb; simp at hb)
        · intro j hj
          simp only [hml] at hj
          by_cases hjn : j < n
          · obtain ⟨hp, L, hL, hd⟩ := HM.out.marks.maps j (by rw [HN.out]; exact hjn)
            obtain ⟨es, clk, hb, _⟩ := id hL
            simp only [if_pos hjn]
            refine ⟨hp, L, hL.same (hold _ _ hb (fun c f e => by cases e) (fun c f e => by cases e)), ?_⟩
            have e1 : ∀ i, i ≤ n → snapAt { now := st.now, marks := st.marks ++ [st.now] } i = snapAt st i := by
              intro i hi
              unfold snapAt
              by_cases h : i < n
              · simp only [List.getElem?_append_left (show i < st.marks.length by rw [HN.out]; exact h)]
              · have : i = n := by omega
                subst this
                rw [List.getElem?_eq_none (show st.marks.length ≤ i by rw [HN.out]; exact Nat.le_refl _)]
                simp [← HN.out]
            rw [e1 j (by omega), e1 (j + 1) (by omega)]
            exact hd
          · have hjn' : j = n := by omega
            subst hjn'
            simp only [if_neg hjn]
            refine ⟨hnew _ (Nat.le_refl _), [], ?_, ?_⟩
            · refine hmap.same ?_
              obtain ⟨es, clk, hb, _⟩ := id hmap
              have : W'.heap[w.heap.size]? = ((w.alloc (.map #[] 0)).alloc (.cells #[.map (some w.heap.size)] 78)).heap[w.heap.size]? := by
                refine hg.block _ (by simp; omega) ?_
                intro e
                obtain ⟨cur, hc⟩ := hown.ty e.symm
                rw [hb] at hc; cases hc
              rw [h3 _ (by have := (Array.getElem?_eq_some_iff.1 HM.out.bM).1; omega), this]
            · intro p
              have e1 : snapAt { now := st.now, marks := st.marks ++ [st.now] } j = st.now := by
                unfold snapAt; simp [← HN.out]
              have e2 : snapAt { now := st.now, marks := st.marks ++ [st.now] } (j + 1) = st.now := by
                unfold snapAt; rw [List.getElem?_eq_none (by simp [HN.out])]; rfl
              rw [e1, e2]
              simp [diffP, lk]
        · intro i j hi hj e
          simp only [hml] at hi hj
          simp only at e
          have lt : ∀ q, q < n → y.mb q < w.heap.size := fun q hq => by
            obtain ⟨_, L, hL, _⟩ := HM.out.marks.maps q (by rw [HN.out]; exact hq)
            exact hL.lt
          by_cases h1 : i < n <;> by_cases h2 : j < n
          · rw [if_pos h1, if_pos h2] at e
            exact HM.out.marks.apart i j (by rw [HN.out]; exact h1) (by rw [HN.out]; exact h2) e
          · rw [if_pos h1, if_neg h2] at e
            have := lt i h1; omega
          · rw [if_neg h1, if_pos h2] at e
            have := lt j h2; omega
          · omega
      · intro k hk
        by_cases hkM : k = M
        · exact absurd (hkM ▸ hk) HM.out.pM
        · rw [h3 k hkM]
          have hkl := hpn k hk
          have hk2 := hg.block k (by simp; omega) (by
            intro e
            unfold Value.ownBlock at e
            cases hka : y.ka with
            | none => rw [hka] at e; cases e
            | some d => rw [hka] at e; simp at e; exact HM.out.marks.ownP d hka (e ▸ hk))
          rw [hk2, heap_alloc_old _ _ (by simp; omega), heap_alloc_old _ _ hkl]
    have HFIN := Hd.mk hfin
    have HHG := Hd.mk hg
    have HR := hr
    have hmk : (Instr.makeMap 76 none).run Try.prog w = .ok (.map (some w.heap.size)) (w.alloc (.map #[] 0)) := rfl
    clear hfin hMW hkeep hg hK hO hmap hown hbox hlen
    go_enter Try.func16, Try.ntmps16
    go_wp2_with fail
    refine (is_at c0).mono ?_
    rintro e w1 ⟨rfl, rfl⟩
    go_wp2_with (at_builtin; refine wpList_append_run rfl _ _ _ rfl rfl rfl HR ?_; clear HR)
    refine bodyPost_ret (results_tmp2 Try.results16 _ _ _) rfl ?_
    exact ⟨rfl, HFIN.out.1, HFIN.out.2⟩
end Go.Proofs.Ytnhkadknibinfaa
