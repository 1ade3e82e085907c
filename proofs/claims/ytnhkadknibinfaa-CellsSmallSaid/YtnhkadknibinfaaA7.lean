/- Keep. -/
import Derived.Test.YtnhkadknibinfaaA6
namespace Go.Proofs.Ytnhkadknibinfaa
open Go.RowKit
set_option linter.unusedVariables false
set_option linter.unusedSimpArgs false

/-- What stands in a round over the last mark's values, those of the mark below turned. -/
structure KeepR (y : Lay) (w W : World) (pr : Nat → Prop) (M : Nat) (st : St) (m X Xb r : Nat) (L : List ((Int × Int) × Int)) : Prop where
  ex : ∃ dn L2, RangeL ik iv W r (y.mb (m + 1)) L dn ∧ MapL Try.prog 73 ik iv W (y.mb m) L2 ∧ ∀ p, lk L2 p = if p ∈ dn.map Prod.fst then diffP (snapAt st m) st.now p else diffP (snapAt st m) (snapAt st (m + 1)) p
  bM : W.heap[M]? = some (.cells #[.bool true, .slice y.ca st.now.length y.cc, .slice y.ka (m + 1) y.kc] 63 (0, 0))
  bX : W.heap[X]? = some (.cells #[.map (some (y.mb (m + 1)))] 78 (0, 0))
  bXb : W.heap[Xb]? = some (.cells #[.map (some (y.mb m))] 78 (0, 0))
  rows : RowsAt y W pr st.now
  own : OwnE id W 0 78 (.slice y.ka (m + 2) y.kc) (marksV y (m + 2))
  low : ∀ j, j < m → ∃ L, MapL Try.prog 73 ik iv W (y.mb j) L ∧ ∀ p, lk L p = diffP (snapAt st j) (snapAt st (j + 1)) p
  kept : Kept pr w W

theorem RangeL.keep {w w' : World} {r b : Nat} {α β : Type} [DecidableEq α] {ek : α → Value} {ev : β → Value} {L dn : List (α × β)} (h : RangeL ek ev w r b L dn) (hk : ∀ (c : Nat) (o : Obj), w.heap[c]? = some o → (c = b ∨ c = r) → w'.heap[c]? = some o) : RangeL ek ev w' r b L dn := by
  obtain ⟨es, clock, seen, since, c0, h1, h2, _⟩ := id h
  exact h.same ((hk b _ h1 (.inl rfl)).trans h1.symm) ((hk r _ h2 (.inr rfl)).trans h2.symm)
theorem RangeL.iter {w : World} {r b : Nat} {α β : Type} [DecidableEq α] {ek : α → Value} {ev : β → Value} {L dn : List (α × β)} (h : RangeL ek ev w r b L dn) : ∃ m s e k, w.heap[r]? = some (.mapIter m s e k) := by
  obtain ⟨es, clock, seen, since, c0, h1, h2, _⟩ := id h
  exact ⟨_, _, _, _, h2⟩
theorem MapL.obj {w : World} {b : Nat} {α β : Type} [DecidableEq α] {ek : α → Value} {ev : β → Value} {P : Program} {k : TypeId} {L : List (α × β)} (h : MapL P k ek ev w b L) : ∃ es c, w.heap[b]? = some (.map es c) := by
  obtain ⟨es, clock, h1, _⟩ := h
  exact ⟨_, _, h1⟩
theorem RangeL.sub {w : World} {r b : Nat} {α β : Type} [DecidableEq α] {ek : α → Value} {ev : β → Value} {L dn : List (α × β)} (h : RangeL ek ev w r b L dn) : ∀ p ∈ dn, p ∈ L := by
  obtain ⟨_, _, _, _, _, _, _, _, _, _, _, _, _, _, _, hs, _⟩ := h
  exact hs

theorem RangeL.len {P : Program} {w : World} {r b : Nat} {α β : Type} [DecidableEq α] {ek : α → Value} {ev : β → Value} {L dn : List (α × β)} (h : RangeL ek ev w r b L dn) {t k e ty : TypeId} (ht : P.underlying t = some (.map k e)) :
    (Builtin.len_ #[t] ty #[.map (some b)]).run P w = .ok (.int .i64 L.length) w := by
  obtain ⟨es, clock, seen, since, c0, hb, h2, _, hE, _⟩ := h
  have := entries_len hE
  simp at this
  simp [Builtin.len_, run_underlying ht, MapKept.run_getObj_map hb, Result.andThen, goInt, this]

/-- The round's end: the map of the mark below is another, or the same. -/
theorem KeepR.turn {y : Lay} {w w5 : World} {pr : Nat → Prop} {M : Nat} {st : St} {m X Xb r : Nat} {L dn : List ((Int × Int) × Int)} (hR : RangeL ik iv w5 r (y.mb (m + 1)) L dn) (hap : y.mb (m + 1) ≠ y.mb m) (hlow : ∀ j, j < m → y.mb j ≠ y.mb m) {es : Array MapEntry} {clk : Nat} (hm : w5.heap[y.mb m]? = some (.map es clk))
    (bM : w5.heap[M]? = some (.cells #[.bool true, .slice y.ca st.now.length y.cc, .slice y.ka (m + 1) y.kc] 63 (0, 0))) (bX : w5.heap[X]? = some (.cells #[.map (some (y.mb (m + 1)))] 78 (0, 0))) (bXb : w5.heap[Xb]? = some (.cells #[.map (some (y.mb m))] 78 (0, 0)))
    (rows : RowsAt y w5 pr st.now) (own : OwnE id w5 0 78 (.slice y.ka (m + 2) y.kc) (marksV y (m + 2))) (low : ∀ j, j < m → ∃ L, MapL Try.prog 73 ik iv w5 (y.mb j) L ∧ ∀ p, lk L p = diffP (snapAt st j) (snapAt st (j + 1)) p) (kept : Kept pr w w5)
    (w6 : World) (hk : ∀ (b : Nat) (o : Obj), w5.heap[b]? = some o → b ≠ y.mb m → w6.heap[b]? = some o) (hL2 : ∃ L2, MapL Try.prog 73 ik iv w6 (y.mb m) L2 ∧ ∀ p, lk L2 p = if p ∈ dn.map Prod.fst then diffP (snapAt st m) st.now p else diffP (snapAt st m) (snapAt st (m + 1)) p) (hkp : Kept pr w5 w6) :
    KeepR y w w6 pr M st m X Xb r L ∧ (w6.iterSeen r).size = dn.length := by
  have hc : ∀ (b : Nat) cs e f, w5.heap[b]? = some (Obj.cells cs e f) → w6.heap[b]? = some (Obj.cells cs e f) := fun b cs e f h => hk b _ h (fun e => by subst e; rw [hm] at h; cases h)
  have hR6 : RangeL ik iv w6 r (y.mb (m + 1)) L dn := by
    refine hR.keep fun c o ho hcr => hk c o ho ?_
    rcases hcr with rfl | rfl
    · exact hap
    · obtain ⟨a, s, e, k, h⟩ := hR.iter
      intro e; rw [e, hm] at h; cases h
  obtain ⟨L2, hL, hl⟩ := hL2
  refine ⟨⟨⟨dn, L2, hR6, hL, hl⟩, hc _ _ _ _ bM, hc _ _ _ _ bX, hc _ _ _ _ bXb, rows.keep (fun b cs fr h => (hc _ _ _ _ h).trans h.symm) (fun b cs fr h => (hc _ _ _ _ h).trans h.symm), own.same (fun g cur fr h _ => (hc _ _ _ _ h).trans h.symm), ?_, kept.trans hkp⟩, hR6.seen⟩
  intro j hj
  obtain ⟨Lj, h1, h2⟩ := low j hj
  obtain ⟨es', c', ho⟩ := h1.obj
  exact ⟨Lj, h1.same ((hk _ _ ho (hlow j hj)).trans ho.symm), h2⟩

set_option maxRecDepth 100000 in
theorem keep_any {y : Lay} {w : World} {pr : Nat → Prop} {M : Nat} {st : St} (h : MemL y w pr M st) :
    Calls Try.prog 20 #[.pointer (some ⟨M, 0, none⟩)] w fun e w' => e = .returned (.tuple #[.int .i64 (popN st), .int .i64 (popE st)]) ∧ MemAt w' pr M (keepS st) ∧ Kept pr w w' := by
  rcases hn : st.marks.length with _ | n
  · have hnil : st.marks = [] := List.length_eq_zero_iff.1 hn
    have e1 : popN st = 0 := by unfold popN; rw [if_pos hnil]
    have e2 : popE st = 213 := by unfold popE; rw [if_pos hnil]
    have e3 : keepS st = st := by unfold keepS; rw [if_pos hnil]
    rw [e1, e2, e3]
    have H0 := pop_none h hn
    have HM := Hd.mk h
    clear h hn hnil e1 e2 e3
    go_enter Try.func20, Try.ntmps20
    go_wp2_with fail
    refine H0.mono ?_
    rintro e w1 ⟨rfl, hB⟩
    have HB := Hd.mk (hB.alloc hB.size (.cells #[.map none] 78))
    clear hB
    go_wp2_with fail
    refine bodyPost_ret (results_tmp2 Try.results20 _ _ _) rfl ?_
    exact ⟨rfl, ⟨y, Ext.mem HB.out HM.out⟩, HM.out.kept HB.out⟩
  · have hne : st.marks ≠ [] := fun e => by rw [e] at hn; cases hn
    have H0 := pop_ok h hn
    have hsn : snapAt st (n + 1) = st.now := by unfold snapAt; rw [List.getElem?_eq_none (by omega)]; rfl
    have hbase : baseV st = snapAt st n := by
      unfold baseV snapAt
      rw [List.getLast?_eq_getElem?, hn, Nat.add_sub_cancel, List.getElem?_eq_getElem (by omega)]
      rfl
    have hlen : ∀ L : List ((Int × Int) × Int), (L.map Prod.fst).Nodup → (∀ p, lk L p = diffP (snapAt st n) st.now p) → L.length = (changesV st).length := by
      intro L h1 h2
      unfold changesV
      rw [hbase]
      exact len_diff h1 (snapAt_shape h.ok n) h2
    have hsh := snapAt_shape h.ok n
    obtain ⟨c, hc⟩ : ∃ c, (changesV st).length = c := ⟨_, rfl⟩
    rw [hc] at hlen
    have e1 : popN st = (c : Int) := by unfold popN; rw [if_neg hne, hc]
    have e2 : popE st = 0 := by unfold popE; rw [if_neg hne]
    have e3 : keepS st = { now := st.now, marks := st.marks.dropLast } := by unfold keepS; rw [if_neg hne]
    have hok := h.ok.keep
    rw [e3] at hok
    rw [e1, e2, e3]
    have HM := Hd.mk h
    have HN := Hd.mk hn
    have HOK := Hd.mk hok
    have HLEN := Hd.mk hlen
    have HSN := Hd.mk hsn
    have HSH := Hd.mk hsh
    have m64 := h.ok.many
    rw [hn] at m64
    clear h hn hne hlen e1 e2 e3 hok hbase hsn hc hsh
    go_enter Try.func20, Try.ntmps20
    go_wp2_with fail
    refine H0.mono ?_
    rintro e w1 ⟨rfl, hP, hK1⟩
    have HP := Hd.mk hP
    have HK1 := Hd.mk hK1
    obtain ⟨hp, L, hL, hd⟩ := hP.marks.maps n (by rw [HN.out]; omega)
    rw [HSN.out] at hd
    have hlc := HLEN.out L hL.nodup hd
    subst hlc
    have hB2 := (Below.refl w1.heap.size w1).alloc (Nat.le_refl _) (.cells #[.map (some (y.mb n))] 78)
    have hbx2 := heap_alloc_new w1 (.cells #[.map (some (y.mb n))] 78)
    have hL2 : MapL Try.prog 73 ik iv (w1.alloc (.cells #[.map (some (y.mb n))] 78)) (y.mb n) L := hL.same (heap_alloc_old _ _ hL.lt)
    have HD := Hd.mk hd
    have HND := Hd.mk hL.nodup
    clear hP hK1 H0 hL hd hp
    go_upto_region 4 with fail
    obtain ⟨w2, hw2⟩ : ∃ W, (w1.alloc (.cells #[.map (some (y.mb n))] 78)) = W := ⟨_, rfl⟩
    rw [hw2] at hB2 hbx2 hL2 ⊢
    have HS2 : Hd (w2.heap.size = w1.heap.size + 1) := ⟨by rw [← hw2]; simp⟩
    clear hw2
    have hE2 := Ext.of hB2
    have hM2 := hE2 _ _ HP.out.bM
    have c2 := cells_cell hM2 2
    have cx := cells_cell hbx2 0
    simp only [List.getElem?_toArray, List.getElem?_cons_zero, List.getElem?_cons_succ] at cx c2
    have HE2 := Hd.mk hE2
    have HB2 := Hd.mk hB2
    have HBX2 := Hd.mk hbx2
    have HL2 := Hd.mk hL2
    have HM2 := Hd.mk hM2
    rcases n with _ | m
    · have hlen := hL2.len (ty := 3) Try.underlying76
      clear hE2 hM2 hbx2 hB2 hL2
      go_wp2_with fail
      refine bodyPost_ret (results_tmp2 Try.results20 _ _ _) rfl ?_
      refine ⟨rfl, ⟨y, HOK.out, fun k hk => Nat.lt_of_lt_of_le (HP.out.prs k hk) HB2.out.size, ?_, HM.out.pM, HE2.out.rows HP.out.rows, ?_⟩, HK1.out.trans (Kept.of HB2.out HP.out.prs)⟩
      · have hl2 : st.marks.dropLast.length = 0 := by rw [List.length_dropLast, HN.out]
        simp only [hl2]
        exact HM2.out
      · exact (HE2.out.marks HP.out.marks).drop HN.out rfl (fun j hj => by omega)
    · obtain ⟨K, hK, hpK, cK⟩ := (hE2.marks HP.out.marks).at m (by rw [HN.out]; omega)
      rw [hK] at c2
      have i0 : (0 : Int) < ((m + 1 : Nat) : Int) := by omega
      have i1 : IntKind.i64.wrap (m : Int) = (m : Int) := IntWalk.i64_in _ ⟨by omega, by omega⟩
      clear hE2 hM2 hbx2 hB2 hL2 hpK
      go_upto_region 7 with fail
      have hB3 := (Below.refl w2.heap.size w2).alloc (Nat.le_refl _) (.cells #[.map (some (y.mb m))] 78)
      have hbx3 := heap_alloc_new w2 (.cells #[.map (some (y.mb m))] 78)
      obtain ⟨w3, hw3⟩ : ∃ W, (w2.alloc (.cells #[.map (some (y.mb m))] 78)) = W := ⟨_, rfl⟩
      rw [hw3] at hB3 hbx3 ⊢
      have HS3 : Hd (w3.heap.size = w2.heap.size + 1) := ⟨by rw [← hw3]; simp⟩
      clear hw3 c2 cK cx
      have hE3 := Ext.of hB3
      have hL3 : MapL Try.prog 73 ik iv w3 (y.mb (m + 1)) L := by
        obtain ⟨es, c, ho⟩ := HL2.out.obj
        exact HL2.out.same ((hE3 _ _ ho).trans ho.symm)
      have hX3 := hE3 _ _ HBX2.out
      have cx := cells_cell hX3 0
      simp only [List.getElem?_toArray, List.getElem?_cons_zero] at cx
      obtain ⟨w4, hrun, hR4, hg4, hs4⟩ := hL3.range Try.underlying76
      have hmp : ∀ j, j < m + 2 → ¬ pr (y.mb j) ∧ ∃ L, MapL Try.prog 73 ik iv w1 (y.mb j) L ∧ ∀ p, lk L p = diffP (snapAt st j) (snapAt st (j + 1)) p := fun j hj => HP.out.marks.maps j (by rw [HN.out]; omega)
      have HAP : Hd (y.mb (m + 1) ≠ y.mb m) := ⟨fun e => by have := HP.out.marks.apart _ _ (by rw [HN.out]; omega) (by rw [HN.out]; omega) e; omega⟩
      have HLOW : Hd (∀ j, j < m → y.mb j ≠ y.mb m) := ⟨fun j hj e => by have := HP.out.marks.apart _ _ (by rw [HN.out]; omega) (by rw [HN.out]; omega) e; omega⟩
      have HPM : Hd (¬ pr (y.mb m)) := ⟨(hmp m (by omega)).1⟩
      have HREL : Hd (KeepR y w w4 pr M st m w1.heap.size w2.heap.size w3.heap.size L) := by
        have hx4 : Below w3.heap.size w3 w4 := ⟨hg4.os, hg4.tape, hg4.output, hg4.size, fun k hk => hg4.block k hk (by simp)⟩
        have hx14 : Below w1.heap.size w1 w4 := HB2.out.trans ((hB3.mono (by rw [HS2.out]; omega)).trans (hx4.mono (by rw [HS3.out, HS2.out]; omega)))
        have hE := Ext.of hx14
        have hE4 := Ext.of hx4
        have hml : ∀ j, j < m + 2 → ∃ L, MapL Try.prog 73 ik iv w4 (y.mb j) L ∧ ∀ p, lk L p = diffP (snapAt st j) (snapAt st (j + 1)) p := by
          intro j hj
          obtain ⟨_, Lj, h1, h2⟩ := hmp j hj
          obtain ⟨es, c, ho⟩ := h1.obj
          exact ⟨Lj, h1.same ((hE _ _ ho).trans ho.symm), h2⟩
        obtain ⟨L2, hl2, hd2⟩ := hml m (by omega)
        have hown := HP.out.marks.own
        rw [HN.out] at hown
        exact ⟨⟨[], L2, hR4, hl2, fun p => by rw [hd2]; simp⟩, hE _ _ HP.out.bM, hE4 _ _ hX3, hE4 _ _ hbx3, hE.rows HP.out.rows, hown.same (fun g cur fr h _ => (hE _ _ h).trans h.symm), fun j hj => hml j (by omega), HK1.out.trans (Kept.of hx14 HP.out.prs)⟩
      have HLT : Hd (w1.heap.size < w3.heap.size ∧ w2.heap.size < w3.heap.size ∧ w1.heap.size < w2.heap.size) := ⟨by have h2 := HS2.out; have h3 := HS3.out; omega⟩
      clear hmp hR4 hg4 hs4 hL3 hX3 hE3 hbx3 hB3
      go_wp2_with fail
      clear cx hrun
      go_loopw [] (fun W => Hd (KeepR y w W pr M st m w1.heap.size w2.heap.size w3.heap.size L)) (fun W => L.length - (W.iterSeen w3.heap.size).size)
      case atStart => exact HREL
      case round =>
        obtain ⟨⟨⟨dn, L2, hR, hL2, hl2⟩, hbM, hbX, hbXb, hrows, hown, hlow, hkp⟩⟩ := hrel
        have HR := Hd.mk hR
        have HLL := Hd.mk hL2
        have HLK := Hd.mk hl2
        have HROWS := Hd.mk hrows
        have HBM := Hd.mk hbM
        have HBX := Hd.mk hbX
        have HBXB := Hd.mk hbXb
        have HOWN := Hd.mk hown
        have HLOWS := Hd.mk hlow
        have HKP := Hd.mk hkp
        have lr : w3.heap.size < wr.heap.size := hR.lt
        have HSEEN := Hd.mk hR.seen
        clear hR hL2 hl2 hbM hbX hbXb hrows hown hlow hkp
        go_wp2_with (at_next; refine wpList_next_pairs rfl _ rfl rfl HR.out ?_ ?_)
        · intro hall
          have hlen := HR.out.len (P := Try.prog) (ty := 3) Try.underlying76
          have cX := cells_cell HBX.out 0
          simp only [List.getElem?_toArray, List.getElem?_cons_zero] at cX
          have HALL := Hd.mk hall
          clear hall
          go_wp2_with fail
          refine bodyPost_ret (results_tmp2 Try.results20 _ _ _) rfl ?_
          have hl2 : st.marks.dropLast.length = m + 1 := by rw [List.length_dropLast, HN.out]; rfl
          have e1 : ∀ j, j < m + 1 → snapAt { now := st.now, marks := st.marks.dropLast } j = snapAt st j := by
            intro j hj
            unfold snapAt
            simp only
            rw [List.getElem?_dropLast, if_pos (by rw [HN.out]; omega), List.getElem?_eq_getElem (by rw [HN.out]; omega)]
          have e2 : snapAt { now := st.now, marks := st.marks.dropLast } (m + 1) = st.now := by
            unfold snapAt
            simp only
            rw [List.getElem?_eq_none (by rw [hl2]; omega)]; rfl
          have hnp := HP.out.marks
          refine ⟨rfl, ⟨y, HOK.out, fun k hk => Nat.lt_of_lt_of_le (HM.out.prs k hk) HKP.out.size, ?_, HM.out.pM, HROWS.out, ?_⟩, HKP.out⟩
          · simp only [hl2]
            exact HBM.out
          · refine ⟨?_, hnp.ownP, ?_, ?_⟩
            · have hlen : (marksV y (m + 2)).length = m + 2 := by simp [marksV]
              have := OwnE.shrink (xs := marksV y (m + 2)) (m := m + 1) (by rw [hlen]; exact HOWN.out) (by omega)
              rw [marksV_take y _ _ (by omega)] at this
              simp only [hl2]; exact this
            · intro j hj
              simp only [hl2] at hj
              refine ⟨(hnp.maps j (by rw [HN.out]; omega)).1, ?_⟩
              rw [e1 j hj]
              by_cases hjm : j < m
              · rw [e1 (j + 1) (by omega)]
                exact HLOWS.out j hjm
              · have hjm2 : j = m := by omega
                subst hjm2
                rw [e2]
                refine ⟨L2, HLL.out, fun p => ?_⟩
                rw [HLK.out p]
                split
                · rfl
                · rename_i hm
                  have h1 : lk L p = none := by
                    cases h1 : lk L p with
                    | none => rfl
                    | some v => exact absurd (List.mem_map.2 ⟨((p.1, p.2), v), HALL.out _ _ _ ((lk_some HND.out).1 h1), rfl⟩) hm
                  have h2 := HD.out p
                  rw [h1] at h2
                  have h3 : at2 (snapAt st (j + 1)) p = at2 st.now p := by
                    unfold diffP at h2
                    split at h2
                    · assumption
                    · have h4 := at2_isSome HSH.out p
                      rw [← h2] at h4 ⊢
                      cases h5 : at2 st.now p with
                      | none => rfl
                      | some q => rw [h5] at h4; cases h4
                  unfold diffP
                  rw [h3]
            · intro i j hi hj e
              simp only [hl2] at hi hj
              exact hnp.apart i j (by rw [HN.out]; omega) (by rw [HN.out]; omega) e
        · intro x z v w5 hmem hnot hR5 hg5 hs5 hen
          have h1 := (lk_some HND.out).2 hmem
          have hd := HD.out (x, z)
          rw [h1] at hd
          unfold diffP at hd
          split at hd
          · cases hd
          rename_i hnow
          obtain ⟨i, k, hi0, hk0, e, ex⟩ := at2_some hd.symm
          simp only [Prod.mk.injEq] at e
          obtain ⟨rfl, rfl⟩ := e
          have hi : i < st.now.length := by rw [← shape_len HSH.out]; exact hi0
          have hk : k < st.now[i].length := by rw [← shape_at HSH.out i hi0 hi]; exact hk0
          have hx : at2 st.now ((i : Int) + 1, (k : Int)) = some st.now[i][k] := at2_get hi hk
          have n16 := HM.out.ok.owners
          have hl1 := HM.out.ok.cells _ (List.getElem_mem hi)
          -- the place has not come before
          have hnk : ((i : Int) + 1, (k : Int)) ∉ dn.map Prod.fst := by
            intro hm
            obtain ⟨q, hq, e⟩ := List.mem_map.1 hm
            have h2 := (lk_some HND.out).2 (HR.out.sub q hq)
            rw [e, h1] at h2
            cases h2
            exact hnot (by rw [← e]; exact hq)
          obtain ⟨sv, hsv⟩ : ∃ s, at2 (snapAt st m) ((i : Int) + 1, (k : Int)) = some s := by
            have h2 := at2_isSome (snapAt_shape HM.out.ok m) ((i : Int) + 1, (k : Int))
            rw [hx] at h2
            exact Option.isSome_iff_exists.1 h2
          have hlk := HLK.out ((i : Int) + 1, (k : Int))
          rw [if_neg hnk] at hlk
          unfold diffP at hlk
          rw [hsv, ← hd] at hlk
          -- the world with the box
          have hk5 : ∀ (b : Nat) (o : Obj), wr.heap[b]? = some o → (∀ m s e k, o ≠ .mapIter m s e k) → w5.heap[b]? = some o := fun b o ho hne => iter_keep HR.out hg5 ho hne
          have hB6 : Below w5.heap.size w5 (w5.alloc (.cells #[.int .i64 ((i : Int) + 1), .int .i64 (k : Int)] 73)) := (Below.refl w5.heap.size w5).alloc (Nat.le_refl _) _
          have hbx6 := heap_alloc_new w5 (.cells #[.int .i64 ((i : Int) + 1), .int .i64 (k : Int)] 73)
          obtain ⟨w6, hw6⟩ : ∃ W, (w5.alloc (.cells #[.int .i64 ((i : Int) + 1), .int .i64 (k : Int)] 73)) = W := ⟨_, rfl⟩
          rw [hw6] at hB6 hbx6
          have hE6 := Ext.of hB6
          have hk6 : ∀ (b : Nat) (o : Obj), wr.heap[b]? = some o → (∀ m s e k, o ≠ .mapIter m s e k) → w6.heap[b]? = some o := fun b o ho hne => hE6 _ _ (hk5 b o ho hne)
          have hrows6 : RowsAt y w6 pr st.now := HROWS.out.keep (fun b cs fr hb => (hk6 b _ hb (fun _ _ _ _ e => by cases e)).trans hb.symm) (fun b cs fr hb => (hk6 b _ hb (fun _ _ _ _ e => by cases e)).trans hb.symm)
          have hown6 := HOWN.out.same (w' := w6) (fun g cur fr h _ => (hk6 _ _ h (fun _ _ _ _ e => by cases e)).trans h.symm)
          have hM6 := hk6 M _ HBM.out (fun _ _ _ _ e => by cases e)
          have hX6 := hk6 w1.heap.size _ HBX.out (fun _ _ _ _ e => by cases e)
          have hXb6 := hk6 w2.heap.size _ HBXB.out (fun _ _ _ _ e => by cases e)
          have hL6 : MapL Try.prog 73 ik iv w6 (y.mb m) L2 := by
            obtain ⟨es, c, ho⟩ := HLL.out.obj
            exact HLL.out.same ((hk6 _ _ ho (fun _ _ _ _ e => by cases e)).trans ho.symm)
          have hlow6 : ∀ j, j < m → ∃ L, MapL Try.prog 73 ik iv w6 (y.mb j) L ∧ ∀ p, lk L p = diffP (snapAt st j) (snapAt st (j + 1)) p := by
            intro j hj
            obtain ⟨Lj, q1, q2⟩ := HLOWS.out j hj
            obtain ⟨es, c, ho⟩ := q1.obj
            exact ⟨Lj, q1.same ((hk6 _ _ ho (fun _ _ _ _ e => by cases e)).trans ho.symm), q2⟩
          have hR6 : RangeL ik iv w6 w3.heap.size (y.mb (m + 1)) L ((((i : Int) + 1, (k : Int)), v) :: dn) :=
            RangeL.keep (show RangeL ik iv w5 w3.heap.size (y.mb (m + 1)) L ((((i : Int) + 1, (k : Int)), v) :: dn) from hR5) (fun c o ho _ => hE6 _ _ ho)
          have hlt6 : dn.length + 1 ≤ L.length := by have := hR6.fits; simpa using this
          have hkp6 : Kept pr w w6 := by
            refine HKP.out.trans ((Kept.grown hg5 (fun q hq => Nat.lt_of_lt_of_le (HM.out.prs q hq) HKP.out.size) ?_).trans (Kept.of hB6 fun q hq => ?_))
            · intro q hq hp
              cases hq
              have h2 := HP.out.prs _ hp
              have := HLT.out.1
              omega
            · have := HM.out.prs _ hq
              have := HKP.out.size
              omega
          obtain ⟨es6, clk6, hmo⟩ := hL6.obj
          have hturn := KeepR.turn hR6 HAP.out HLOW.out hmo hM6 hX6 hXb6 hrows6 hown6 hlow6 hkp6
          obtain ⟨kl, hkl⟩ := key73 ((i : Int) + 1) (k : Int) (WalkArith.wf_i64 ⟨by omega, by omega⟩) (WalkArith.wf_i64 ⟨by omega, by omega⟩)
          have hlook := hL6.look keyed73 ik_inj Try.underlying76 (Try.zeroValue2 w6) _ hkl true
          obtain ⟨g, cur, hg, hpg, hb, hc, hm, hcell⟩ := hrows6.row i hi (by omega)
          obtain ⟨C, hC, hpC, cC⟩ := hrows6.at i hi
          have c1 := cells_cell hM6 1
          have cXb := cells_cell hXb6 0
          have p0 := cells_cell hbx6 0
          have p1 := cells_cell hbx6 1
          simp only [List.getElem?_toArray, List.getElem?_cons_zero, List.getElem?_cons_succ] at c1 cXb p0 p1
          rw [hC] at c1
          rw [hg] at cC
          have ck : w6.cell? ⟨g, k, none⟩ = some (.int .i64 st.now[i][k]) := by rw [cells_cell hb, hcell k hk]; rfl
          -- what is told of the map behind the round
          have hmemk : ∀ p, (p ∈ ((((i : Int) + 1, (k : Int)), v) :: dn).map Prod.fst) ↔ (p = ((i : Int) + 1, (k : Int)) ∨ p ∈ dn.map Prod.fst) := fun p => by rw [List.map_cons, List.mem_cons]
          have hdn : ∀ Lx : List ((Int × Int) × Int), (∀ p, p ≠ ((i : Int) + 1, (k : Int)) → lk Lx p = lk L2 p) → lk Lx ((i : Int) + 1, (k : Int)) = diffP (snapAt st m) st.now ((i : Int) + 1, (k : Int)) →
              ∀ p, lk Lx p = if p ∈ ((((i : Int) + 1, (k : Int)), v) :: dn).map Prod.fst then diffP (snapAt st m) st.now p else diffP (snapAt st m) (snapAt st (m + 1)) p := by
            intro Lx ho hs p
            by_cases hp : p = ((i : Int) + 1, (k : Int))
            · rw [if_pos ((hmemk p).2 (.inl hp)), hp]; exact hs
            · rw [ho p hp, HLK.out p]
              have : (p ∈ ((((i : Int) + 1, (k : Int)), v) :: dn).map Prod.fst) ↔ p ∈ dn.map Prod.fst := ⟨fun h => ((hmemk p).1 h).resolve_left hp, fun h => (hmemk p).2 (.inr h)⟩
              simp only [this]
          have hdnow : diffP (snapAt st m) st.now ((i : Int) + 1, (k : Int)) = if sv = st.now[i][k] then none else some sv := by
            unfold diffP
            rw [hsv, hx]
            simp only [Option.some.injEq]
          obtain ⟨x, hxx⟩ : ∃ o, st.now[i][k] = o := ⟨_, rfl⟩
          rw [hxx] at ck hdnow hx
          obtain ⟨len, hlen⟩ : ∃ m, st.now[i].length = m := ⟨_, rfl⟩
          rw [hlen] at cC hk hl1
          obtain ⟨N, hN⟩ : ∃ n, st.now.length = n := ⟨_, rfl⟩
          rw [hN] at c1 hi n16
          have hvx : v ≠ x := fun e => hnow (by rw [← hd, hx, e])
          have hks6 : w.heap.size ≤ w6.heap.size := hkp6.size
          have HTURN := Hd.mk hturn
          have HDN := Hd.mk hdn
          have HDNOW := Hd.mk hdnow
          have HL6 := Hd.mk hL6
          have HKL := Hd.mk hkl
          have HVX := Hd.mk hvx
          have HLTN := Hd.mk hlt6
          clear hturn hdn hdnow hmemk hL6 hkl hvx hlt6 hb hcell hc hm hpg hpC hC hg hR6 hX6 hXb6 hM6 hown6 hlow6 hrows6 hk6 hE6 hbx6 hB6 hk5 hR5 hg5 hs5 hmem hnot h1 hd hlen hi0 hk0 ex hkp6 hmo hN hxx hx hnow hnk
          rcases hlook with ⟨hl, hrun⟩ | ⟨at0, hl, hrun⟩
          · rw [hl] at hlk
            have hsvv : sv = v := by
              by_cases e : sv = v
              · exact e
              · rw [if_neg (by simpa using e)] at hlk; cases hlk
            obtain ⟨w7, hr7, hL7, hg7, hs7⟩ := HL6.out.put keyed73 ik_inj Try.underlying76 _ HKL.out v
            have hfin := HTURN.out w7 (fun b o hb hne => by rw [hg7.block b (Array.getElem?_eq_some_iff.1 hb).1 (by simpa using hne)]; exact hb) ⟨_, hL7, HDN.out _ (fun p hp => by rw [lk_put, if_neg hp]) (by rw [lk_put, if_pos rfl, HDNOW.out, hsvv, if_neg HVX.out])⟩
              (Kept.grown hg7 (fun q hq => by have := HM.out.prs q hq; have := HL6.out.lt; exact Nat.lt_of_lt_of_le (HM.out.prs q hq) hks6) (fun q hq => by cases hq; exact HPM.out))
            have HFIN := Hd.mk hfin
            simp only [ik, iv, if_true] at hrun hr7
            clear hfin hL7 hg7 hs7 hl hlk hsvv
            go_wp2_with fail
            go_roundw
            case rel => exact ⟨HFIN.out.1⟩
            case measure =>
              rw [HFIN.out.2, HSEEN.out]
              have := HLTN.out
              simp only [List.length_cons]
              omega
          · rw [hl] at hlk
            have hsvv : at0 = sv ∧ sv ≠ v := by
              by_cases e : sv = v
              · rw [if_pos (by rw [e])] at hlk; cases hlk
              · rw [if_neg (by simpa using e)] at hlk; exact ⟨Option.some.inj hlk, e⟩
            by_cases hax : at0 = x
            · have t1 : (at0 == x) = true := by simpa using hax
              have HSV := Hd.mk hsvv
              have HAX := Hd.mk hax
              simp only [if_true, ik, iv] at hrun
              clear hl hlk hsvv hax
              go_upto_region 13 with fail
              go_quiet (fail)
              obtain ⟨w8, hw8⟩ : ∃ W, w6.drewN nq = W := ⟨_, rfl⟩
              have h8 : w8.heap = w6.heap := by rw [← hw8]; rfl
              have hk8 : Kept pr w6 w8 := by rw [← hw8]; exact ⟨rfl, rfl, rfl, Nat.le_refl _, fun _ _ => rfl⟩
              have hL8 : MapL Try.prog 73 ik iv w8 (y.mb m) L2 := HL6.out.same (by rw [h8])
              have cXb8 : w8.cell? ⟨w2.heap.size, 0, none⟩ = some (.map (some (y.mb m))) := by rw [← cXb, ← hw8]; rfl
              have p08 : w8.cell? ⟨w5.heap.size, 0, none⟩ = some (.int .i64 ((i : Int) + 1)) := by rw [← p0, ← hw8]; rfl
              have p18 : w8.cell? ⟨w5.heap.size, 1, none⟩ = some (.int .i64 (k : Int)) := by rw [← p1, ← hw8]; rfl
              rw [hw8]
              obtain ⟨w7, hr7, hL7, hg7, hs7⟩ := hL8.del (ty := 0) keyed73 ik_inj Try.underlying76 _ HKL.out
              have hfin := HTURN.out w7 (fun b o hb hne => by rw [hg7.block b (by rw [h8]; exact (Array.getElem?_eq_some_iff.1 hb).1) (by simpa using hne), h8]; exact hb) ⟨_, hL7, HDN.out _ (fun p hp => by rw [lk_del, if_neg hp]) (by rw [lk_del, if_pos rfl, HDNOW.out, ← HSV.out.1, if_pos HAX.out])⟩
                (hk8.trans (Kept.grown hg7 (fun q hq => by rw [h8]; exact Nat.lt_of_lt_of_le (HM.out.prs q hq) hks6) (fun q hq => by cases hq; exact HPM.out)))
              have HFIN := Hd.mk hfin
              simp only [ik] at hr7
              clear hfin hL7 hg7 hs7 hL8 hk8 h8 hw8
              go_wp2_with fail
              go_roundw
              case rel => exact ⟨HFIN.out.1⟩
              case measure =>
                rw [HFIN.out.2, HSEEN.out]
                have := HLTN.out
                simp only [List.length_cons]
                omega
            · have t1 : (at0 == x) = false := by simpa using hax
              have HSV := Hd.mk hsvv
              have HAX := Hd.mk hax
              have HL0 := Hd.mk hl
              simp only [if_true, ik, iv] at hrun
              clear hl hlk hsvv hax
              go_upto_region 13 with fail
              go_quiet (fail)
              obtain ⟨w8, hw8⟩ : ∃ W, w6.drewN nq = W := ⟨_, rfl⟩
              have h8 : w8.heap = w6.heap := by rw [← hw8]; rfl
              have hk8 : Kept pr w6 w8 := by rw [← hw8]; exact ⟨rfl, rfl, rfl, Nat.le_refl _, fun _ _ => rfl⟩
              rw [hw8]
              have hfin := HTURN.out w8 (fun b o hb hne => by rw [h8]; exact hb) ⟨_, HL6.out.same (by rw [h8]), HDN.out _ (fun p hp => rfl) (by rw [HL0.out, HDNOW.out, ← HSV.out.1, if_neg HAX.out])⟩ hk8
              have HFIN := Hd.mk hfin
              clear hfin hk8 h8 hw8
              go_wp2_with fail
              go_roundw
              case rel => exact ⟨HFIN.out.1⟩
              case measure =>
                rw [HFIN.out.2, HSEEN.out]
                have := HLTN.out
                simp only [List.length_cons]
                omega
end Go.Proofs.Ytnhkadknibinfaa
