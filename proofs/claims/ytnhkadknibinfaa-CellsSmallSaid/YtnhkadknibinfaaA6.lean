/- Back. -/
import Derived.Test.YtnhkadknibinfaaA5
namespace Go.Proofs.Ytnhkadknibinfaa
open Go.RowKit
set_option linter.unusedVariables false
set_option linter.unusedSimpArgs false

/-- What an iterator's step leaves as it was. -/
theorem iter_keep {w w' : World} {r b : Nat} {α β : Type} {ek : α → Value} {ev : β → Value} {L dn : List (α × β)} (h : RangeL ek ev w r b L dn) (hg : w.grownBy w' (some r)) {c : Nat} {o : Obj} (ho : w.heap[c]? = some o) (hne : ∀ m s e k, o ≠ .mapIter m s e k) : w'.heap[c]? = some o := by
  obtain ⟨es, clock, seen, since, c0, h1, h2, _⟩ := h
  rw [hg.block c (Array.getElem?_eq_some_iff.1 ho).1 ?_, ho]
  intro e
  cases e
  rw [h2] at ho
  cases ho
  exact hne _ _ _ _ rfl

/-- What stands in a round over the last mark's values. -/
structure BackR (y : Lay) (w W : World) (pr : Nat → Prop) (M : Nat) (st : St) (n X r : Nat) (L : List ((Int × Int) × Int)) : Prop where
  ex : ∃ dn a, RangeL ik iv W r (y.mb n) L dn ∧ RowsAt y W pr a ∧ shape a = shape st.now ∧ ∀ p, at2 a p = if p ∈ dn.map Prod.fst then lk L p else at2 st.now p
  bM : W.heap[M]? = some (.cells #[.bool true, .slice y.ca st.now.length y.cc, .slice y.ka n y.kc] 63 (0, 0))
  marks : MarksAt y W pr st
  bX : W.heap[X]? = some (.cells #[.map (some (y.mb n))] 78 (0, 0))
  kept : Kept pr w W

theorem BackR.drew {y : Lay} {w W : World} {pr : Nat → Prop} {M : Nat} {st : St} {n X r : Nat} {L : List ((Int × Int) × Int)} (h : BackR y w W pr M st n X r L) : BackR y w W.drew pr M st n X r L := by
  obtain ⟨⟨dn, a, hR, hrows, hs⟩, h1, h2, h3, h4⟩ := h
  exact ⟨⟨dn, a, hR.same rfl rfl, hrows.keep (fun _ _ _ _ => rfl) (fun _ _ _ _ => rfl), hs⟩, h1, h2.keep (fun _ _ _ _ => rfl) (fun _ _ _ _ => rfl), h3, ⟨h4.os, h4.tape, h4.output, h4.size, h4.block⟩⟩

set_option maxRecDepth 100000 in
theorem back_any {y : Lay} {w : World} {pr : Nat → Prop} {M : Nat} {st : St} (h : MemL y w pr M st) :
    Calls Try.prog 17 #[.pointer (some ⟨M, 0, none⟩)] w fun e w' => e = .returned (.tuple #[.int .i64 (popN st), .int .i64 (popE st)]) ∧ MemAt w' pr M (backS st) ∧ Kept pr w w' := by
  rcases hn : st.marks.length with _ | n
  · have hnil : st.marks = [] := List.length_eq_zero_iff.1 hn
    have e1 : popN st = 0 := by unfold popN; rw [if_pos hnil]
    have e2 : popE st = 213 := by unfold popE; rw [if_pos hnil]
    have e3 : backS st = st := by unfold backS; rw [if_pos hnil]
    rw [e1, e2, e3]
    have H0 := pop_none h hn
    have HM := Hd.mk h
    clear h hn hnil e1 e2 e3
    go_enter Try.func17, Try.ntmps17
    go_wp2_with fail
    refine H0.mono ?_
    rintro e w1 ⟨rfl, hB⟩
    have HB := Hd.mk (hB.alloc hB.size (.cells #[.map none] 78))
    clear hB
    go_wp2_with fail
    refine bodyPost_ret (results_tmp2 Try.results17 _ _ _) rfl ?_
    exact ⟨rfl, ⟨y, Ext.mem HB.out HM.out⟩, HM.out.kept HB.out⟩
  · have hne : st.marks ≠ [] := fun e => by rw [e] at hn; cases hn
    have H0 := pop_ok h hn
    have hsn : snapAt st (n + 1) = st.now := by unfold snapAt; rw [List.getElem?_eq_none (by omega)]; rfl
    have hbase : baseV st = snapAt st n := by
      unfold baseV snapAt
      rw [List.getLast?_eq_getElem?, hn, Nat.add_sub_cancel, List.getElem?_eq_getElem (by omega)]
      rfl
    have hlen : ∀ L : List ((Int × Int) × Int), (L.map Prod.fst).Nodup → (∀ p, lk L p = diffP (snapAt st n) st.now p) → L.length = (changesV st).length := by
      intro L h1 h2
      unfold changesV
      rw [hbase]
      exact len_diff h1 (snapAt_shape h.ok n) h2
    have hsh := snapAt_shape h.ok n
    obtain ⟨c, hc⟩ : ∃ c, (changesV st).length = c := ⟨_, rfl⟩
    rw [hc] at hlen
    have e1 : popN st = (c : Int) := by unfold popN; rw [if_neg hne, hc]
    have e2 : popE st = 0 := by unfold popE; rw [if_neg hne]
    have e3 : backS st = { now := snapAt st n, marks := st.marks.dropLast } := by unfold backS; rw [if_neg hne, hbase]
    have hok := h.ok.back
    rw [e3] at hok
    rw [e1, e2, e3]
    have HM := Hd.mk h
    have HN := Hd.mk hn
    have HOK := Hd.mk hok
    have HLEN := Hd.mk hlen
    have HSN := Hd.mk hsn
    have HSH := Hd.mk hsh
    clear h hn hne hlen e1 e2 e3 hok hbase hsn hc hsh
    go_enter Try.func17, Try.ntmps17
    go_wp2_with fail
    refine H0.mono ?_
    rintro e w1 ⟨rfl, hP, hK1⟩
    have HP := Hd.mk hP
    have HK1 := Hd.mk hK1
    obtain ⟨hp, L, hL, hd⟩ := hP.marks.maps n (by rw [HN.out]; omega)
    rw [HSN.out] at hd
    have hlc := HLEN.out L hL.nodup hd
    subst hlc
    have hB2 := (Below.refl w1.heap.size w1).alloc (Nat.le_refl _) (.cells #[.map (some (y.mb n))] 78)
    have hbx2 := heap_alloc_new w1 (.cells #[.map (some (y.mb n))] 78)
    have hL2 : MapL Try.prog 73 ik iv (w1.alloc (.cells #[.map (some (y.mb n))] 78)) (y.mb n) L := hL.same (heap_alloc_old _ _ hL.lt)
    have HD := Hd.mk hd
    have HND := Hd.mk hL.nodup
    clear hP hK1 H0 hL hd hp
    go_upto_region 4 with fail
    obtain ⟨w2, hw2⟩ : ∃ W, (w1.alloc (.cells #[.map (some (y.mb n))] 78)) = W := ⟨_, rfl⟩
    rw [hw2] at hB2 hbx2 hL2 ⊢
    have HS2 : Hd (w2.heap.size = w1.heap.size + 1) := ⟨by rw [← hw2]; simp⟩
    clear hw2
    have cx := cells_cell hbx2 0
    simp only [List.getElem?_toArray, List.getElem?_cons_zero] at cx
    obtain ⟨w3, hrun, hR3, hg3, hs3⟩ := hL2.range Try.underlying76
    have HREL : Hd (BackR y w w3 pr M st n w1.heap.size w2.heap.size L) := by
      have hx3 : Below w2.heap.size w2 w3 := ⟨hg3.os, hg3.tape, hg3.output, hg3.size, fun k hk => hg3.block k hk (by simp)⟩
      have hx13 : Below w1.heap.size w1 w3 := hB2.trans (hx3.mono (by rw [HS2.out]; omega))
      have hE := Ext.of hx13
      refine ⟨⟨⟨[], st.now, hR3, hE.rows HP.out.rows, rfl, fun p => by simp⟩, hE _ _ HP.out.bM, hE.marks HP.out.marks, Ext.of hx3 _ _ hbx2, HK1.out.trans (Kept.of hx13 HP.out.prs)⟩⟩
    have HL2 := Hd.mk hL2
    clear hL2 hR3 hg3 hs3 hbx2 hB2
    go_wp2_with fail
    have HX2 := Hd.mk cx
    clear cx hrun
    go_loopw [] (fun W => Hd (BackR y w W pr M st n w1.heap.size w2.heap.size L)) (fun W => L.length - (W.iterSeen w2.heap.size).size)
    case atStart => exact HREL
    case round =>
      obtain ⟨⟨⟨dn, a, hR, hrows, hsh, hat⟩, hbM, hmk, hbX, hkp⟩⟩ := hrel
      have HR := Hd.mk hR
      have HROWS := Hd.mk hrows
      have HSHA := Hd.mk hsh
      have HAT := Hd.mk hat
      have HBM := Hd.mk hbM
      have HMK := Hd.mk hmk
      have HBX := Hd.mk hbX
      have HKP := Hd.mk hkp
      have lr : w2.heap.size < wr.heap.size := hR.lt
      have hseen := hR.seen
      have HSEEN := Hd.mk hseen
      clear hR hrows hsh hat hbM hmk hbX hkp hseen
      go_wp2_with (at_next; refine wpList_next_pairs rfl _ rfl rfl HR.out ?_ ?_)
      · intro hall
        obtain ⟨hpB, L2, hL2, hd2⟩ := HMK.out.maps n (by rw [HN.out]; omega)
        rw [HSN.out] at hd2
        have hlc := HLEN.out L2 hL2.nodup hd2
        have hlen := hL2.len (ty := 3) Try.underlying76
        rw [hlc] at hlen
        have cX := cells_cell HBX.out 0
        simp only [List.getElem?_toArray, List.getElem?_cons_zero] at cX
        have HALL := Hd.mk hall
        clear hall hpB hL2 hd2 hlc
        go_wp2_with fail
        refine bodyPost_ret (results_tmp2 Try.results17 _ _ _) rfl ?_
        have ha : a = snapAt st n := by
          refine ext2 (HSHA.out.trans HSH.out.symm) fun p => ?_
          rw [HAT.out p]
          have hd := HD.out p
          unfold diffP at hd
          split
          · rename_i hm
            obtain ⟨q, hq, rfl⟩ := List.mem_map.1 hm
            have hqL : q ∈ L := by
              obtain ⟨_, _, _, _, _, _, _, _, _, _, _, _, _, _, _, hs, _⟩ := HR.out
              exact hs q hq
            have h1 : lk L q.1 = some q.2 := (lk_some HND.out).2 hqL
            rw [h1] at hd ⊢
            split at hd
            · cases hd
            · exact hd
          · rename_i hm
            cases h1 : lk L p with
            | some v =>
              exfalso
              have := (lk_some HND.out).1 h1
              exact hm (List.mem_map.2 ⟨((p.1, p.2), v), HALL.out _ _ _ this, rfl⟩)
            | none =>
              rw [h1] at hd
              split at hd
              · rename_i he; exact he.symm
              · have h2 := at2_isSome HSH.out p
                rw [← hd] at h2 ⊢
                cases h3 : at2 st.now p with
                | none => rfl
                | some z => rw [h3] at h2; cases h2
        refine ⟨rfl, ⟨y, HOK.out, ?_, ?_, HM.out.pM, ?_, ?_⟩, HKP.out⟩
        · exact fun k hk => Nat.lt_of_lt_of_le (HM.out.prs k hk) HKP.out.size
        · have hl : (snapAt st n).length = st.now.length := shape_len HSH.out
          have hl2 : st.marks.dropLast.length = n := by rw [List.length_dropLast, HN.out]; rfl
          simp only [hl, hl2]
          exact HBM.out
        · rw [← ha]; exact HROWS.out
        · refine HMK.out.drop HN.out rfl ?_
          intro j hj
          obtain ⟨_, Lj, hLj, hdj⟩ := HMK.out.maps j (by rw [HN.out]; omega)
          rw [hj] at hdj
          exact ⟨Lj, hLj, hdj⟩
      · intro x z v w4 hmem hnot hR4 hg4 hs4 hen
        have h1 := (lk_some HND.out).2 hmem
        have hd := HD.out (x, z)
        rw [h1] at hd
        unfold diffP at hd
        split at hd
        · cases hd
        obtain ⟨i, k, hi0, hk0, e, ex⟩ := at2_some hd.symm
        simp only [Prod.mk.injEq] at e
        obtain ⟨rfl, rfl⟩ := e
        have hsh2 : shape (snapAt st n) = shape a := HSH.out.trans HSHA.out.symm
        have hi : i < a.length := by rw [← shape_len hsh2]; exact hi0
        have hk : k < a[i].length := by rw [← shape_at hsh2 i hi0 hi]; exact hk0
        have hla : a.length = st.now.length := shape_len HSHA.out
        have n16 := HM.out.ok.owners
        have hl1 := HM.out.ok.cells _ (List.getElem_mem (show i < st.now.length by rw [← hla]; exact hi))
        rw [← shape_at HSHA.out i hi (by rw [← hla]; exact hi)] at hl1
        have hk4 : ∀ (b : Nat) (o : Obj), wr.heap[b]? = some o → (∀ m s e k, o ≠ .mapIter m s e k) → w4.heap[b]? = some o := fun b o ho hne => iter_keep HR.out hg4 ho hne
        have hB5 : Below w4.heap.size w4 (w4.alloc (.cells #[.int .i64 ((i : Int) + 1), .int .i64 (k : Int)] 73)) := (Below.refl w4.heap.size w4).alloc (Nat.le_refl _) _
        have hbx5 := heap_alloc_new w4 (.cells #[.int .i64 ((i : Int) + 1), .int .i64 (k : Int)] 73)
        obtain ⟨w5, hw5⟩ : ∃ W, (w4.alloc (.cells #[.int .i64 ((i : Int) + 1), .int .i64 (k : Int)] 73)) = W := ⟨_, rfl⟩
        rw [hw5] at hB5 hbx5
        have hE5 := Ext.of hB5
        have hk5 : ∀ (b : Nat) (o : Obj), wr.heap[b]? = some o → (∀ m s e k, o ≠ .mapIter m s e k) → w5.heap[b]? = some o := fun b o ho hne => hE5 _ _ (hk4 b o ho hne)
        have hrows5 : RowsAt y w5 pr a := HROWS.out.keep (fun b cs fr hb => (hk5 b _ hb (fun _ _ _ _ e => by cases e)).trans hb.symm) (fun b cs fr hb => (hk5 b _ hb (fun _ _ _ _ e => by cases e)).trans hb.symm)
        have hmk5 : MarksAt y w5 pr st := HMK.out.keep (fun b cs fr hb => (hk5 b _ hb (fun _ _ _ _ e => by cases e)).trans hb.symm) (fun b es cl hb => (hk5 b _ hb (fun _ _ _ _ e => by cases e)).trans hb.symm)
        have hM5 := hk5 M _ HBM.out (fun _ _ _ _ e => by cases e)
        have hX5 := hk5 w1.heap.size _ HBX.out (fun _ _ _ _ e => by cases e)
        have hR5 : RangeL ik iv w5 w2.heap.size (y.mb n) L ((((i : Int) + 1, (k : Int)), v) :: dn) := by
          have hR4' : RangeL ik iv w4 w2.heap.size (y.mb n) L ((((i : Int) + 1, (k : Int)), v) :: dn) := hR4
          obtain ⟨es, clock, seen, since, c0, q1, q2, _⟩ := id hR4'
          exact hR4'.same ((hE5 _ _ q1).trans q1.symm) ((hE5 _ _ q2).trans q2.symm)
        have hlt5 : dn.length + 1 ≤ L.length := by have := hR5.fits; simpa using this
        have hs5 : wr.heap.size ≤ w5.heap.size := by have := hB5.size; omega
        obtain ⟨g, cur, hg, hpg, hb, hc, hm, hcell⟩ := hrows5.row i hi (by omega)
        obtain ⟨C, hC, hpC, cC⟩ := hrows5.at i hi
        have c1 := cells_cell hM5 1
        simp only [List.getElem?_toArray, List.getElem?_cons_zero, List.getElem?_cons_succ] at c1
        rw [hC, ← hla] at c1
        rw [hg] at cC
        have ck : w5.cell? ⟨g, k, none⟩ = some (.int .i64 a[i][k]) := by rw [cells_cell hb, hcell k hk]; rfl
        have fk : w5.frozen? ⟨g, k, none⟩ = false := cells_free hb k
        have p0 := cells_cell hbx5 0
        have p1 := cells_cell hbx5 1
        simp only [List.getElem?_toArray, List.getElem?_cons_zero, List.getElem?_cons_succ] at p0 p1
        have hkp5 : Kept pr w w5 := by
          refine HKP.out.trans ((Kept.grown hg4 (fun q hq => Nat.lt_of_lt_of_le (HM.out.prs q hq) HKP.out.size) ?_).trans (Kept.of hB5 fun q hq => ?_))
          · intro q hq hp
            cases hq
            have := HM.out.prs _ hp
            have h1 := HP.out.prs _ hp
            have := HS2.out
            omega
          · have := HM.out.prs _ hq
            have := HKP.out.size
            omega
        have hset5 := hrows5.set hi hk v hg hb (cells_set hb (iv v)) (grown_cell w5 g k (iv v)) (fun q hq => Nat.lt_of_lt_of_le (HM.out.prs q hq) hkp5.size)
        have hgr5 := grown_cell w5 g k (iv v)
        have hb5 := cells_set (o := k) hb (iv v)
        simp only [iv] at hset5 hgr5 hb5
        have hnew : Hd (BackR y w (w5.setCell ⟨g, k, none⟩ (.int .i64 v)).drew pr M st n w1.heap.size w2.heap.size L) := by
          obtain ⟨w6, hw6⟩ : ∃ W, w5.setCell ⟨g, k, none⟩ (.int .i64 v) = W := ⟨_, rfl⟩
          rw [hw6] at hset5 hgr5 hb5 ⊢
          have ho : ∀ (b : Nat) (o : Obj), w5.heap[b]? = some o → (∀ c f, o ≠ Obj.cells c 2 f) → w6.heap[b]? = some o := fun b o hbb hne => other_block hb hgr5 hbb hne
          refine ⟨BackR.drew ⟨⟨(((i : Int) + 1, (k : Int)), v) :: dn, _, ?_, hset5, (shape_set2 _ _ _).trans HSHA.out, ?_⟩, ho _ _ hM5 (fun c f e => by simp at e), ?_, ho _ _ hX5 (fun c f e => by simp at e), ?_⟩⟩
          · obtain ⟨es, clock, seen, since, c0, q1, q2, _⟩ := id hR5
            exact hR5.same ((ho _ _ q1 (fun c f e => by cases e)).trans q1.symm) ((ho _ _ q2 (fun c f e => by cases e)).trans q2.symm)
          · intro p
            rw [at2_set2 v (by rw [at2_get hi hk]; rfl), HAT.out p]
            by_cases hp : p = ((i : Int) + 1, (k : Int))
            · rw [if_pos hp, if_pos (by rw [hp]; simp), hp, h1]
            · rw [if_neg hp]
              have : (p ∈ ((((i : Int) + 1, (k : Int)), v) :: dn).map Prod.fst) ↔ p ∈ dn.map Prod.fst := by
                rw [List.map_cons, List.mem_cons]
                exact ⟨fun h => h.resolve_left hp, .inr⟩
              simp only [this]
          · exact hmk5.keep (fun b cs fr hbb => (ho b _ hbb (fun c f e => by simp at e)).trans hbb.symm) (fun b es cl hbb => (ho b _ hbb (fun c f e => by cases e)).trans hbb.symm)
          · exact hkp5.trans (Kept.grown hgr5 (fun q hq => Nat.lt_of_lt_of_le (HM.out.prs q hq) hkp5.size) (fun q hq => by cases hq; exact hpg))
        have HNEW := hnew
        have HLT := Hd.mk hlt5
        obtain ⟨m, hm'⟩ : ∃ m, a[i].length = m := ⟨_, rfl⟩
        rw [hm'] at cC hk hl1
        obtain ⟨N, hN⟩ : ∃ n, a.length = n := ⟨_, rfl⟩
        rw [hN] at c1 hi hla
        rw [← hla] at n16
        have HMD : Hd ((World.iterSeen (w5.setCell ⟨g, k, none⟩ (.int .i64 v)).drew w2.heap.size).size = ((((i : Int) + 1, (k : Int)), v) :: dn).length) := ⟨by
          obtain ⟨es, clock, seen, since, c0, q1, q2, _⟩ := id hR5
          have ho := other_block hb hgr5 q2 (fun c f e => by cases e)
          have e1 : ∀ W : World, W.heap[w2.heap.size]? = w5.heap[w2.heap.size]? → W.iterSeen w2.heap.size = w5.iterSeen w2.heap.size := fun W h => by unfold World.iterSeen; rw [h]
          rw [e1 (w5.setCell ⟨g, k, none⟩ (.int .i64 v)).drew (show (w5.setCell ⟨g, k, none⟩ (.int .i64 v)).heap[w2.heap.size]? = _ from ho.trans q2.symm)]
          exact hR5.seen⟩
        obtain ⟨old, hold⟩ : ∃ o, a[i][k] = o := ⟨_, rfl⟩
        rw [hold] at ck
        clear hnew hlt5 hset5 hgr5 hb5 hkp5 hb hcell hc hm hpg hpC hC hg hR5 hX5 hM5 hmk5 hrows5 hk5 hE5 hbx5 hB5 hk4 hR4 hg4 hs4 hmem hnot h1 hd hsh2 hm' hold hi0 hk0 hs5 ex
        go_upto_region 7 with fail
        go_region
        go_roundw
        case rel => exact ⟨_, _, _, _, _, _, _, _, _, _, _, _, _, _, _, _, _, _, _, _,  HNEW, rfl⟩
        case measure =>
          rw [HMD.out, HSEEN.out]
          have := HLT.out
          simp only [List.length_cons]
          omega
end Go.Proofs.Ytnhkadknibinfaa
