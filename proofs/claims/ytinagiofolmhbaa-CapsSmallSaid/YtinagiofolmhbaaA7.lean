/- slices.AppendSeq, Collect, Sorted over the keys of the table's map; All. -/
import Derived.Test.YtinagiofolmhbaaA6
namespace Go.Proofs.Ytinagiofolmhbaa
open Go.RowKit Go.Shelf
attribute [local go_sem] Oper.semAt_some
set_option linter.unusedVariables false
set_option linter.unusedSimpArgs false

theorem bl_alloc {w W : World} {o : Obj} (h : Below w.heap.size w W) : Below w.heap.size w (W.alloc o) := h.alloc h.size o
/-- What stands in a round of AppendSeq over Values. -/
structure AppQ (w : World) (r : Loop) (l : List Int) (W : World) : Prop where
  out : ∃ v, W.heap[w.heap.size]? = some (.cells #[v] 30 (0, 0)) ∧ AppI W (w.heap.size + 4) v l
  dfr : BlockIs W (w.heap.size + 1) (.deferred (some []))
  lp : W.heap[w.heap.size + 2]? = some (.loop r)
  bel : Below w.heap.size w W
  sz : w.heap.size + 4 ≤ W.heap.size

theorem lt_of_heap {W : World} {x : Nat} {o : Obj} (h : W.heap[x]? = some o) : x < W.heap.size := (Array.getElem?_eq_some_iff.1 h).1
theorem own_ne {W : World} {base g : Nat} {v : Value} {l : List Int} (h : AppI W base v l) (hg : g < base) : v.ownBlock = none ∨ v.ownBlock ≠ some g := by
  rcases ho : v.ownBlock with _ | k
  · exact .inl rfl
  · right
    have := (World.ownsRow.lt h k ho).1
    intro e; cases e; omega

theorem AppQ.step {w : World} {r : Loop} {l : List Int} {W : World} (h : AppQ w r l W) (x : Int) (hl : l.length ≤ 100000) :
    ∃ v v' w2, (busyW W (w.heap.size + 2) r).heap[w.heap.size]? = some (.cells #[v] 30 (0, 0)) ∧
      (Builtin.append_ #[30, 30] 30 #[v, .slice (some ⟨(busyW W (w.heap.size + 2) r).heap.size, 0, none⟩) 1 1]).run Try.prog ((busyW W (w.heap.size + 2) r).alloc (.cells #[.int .i64 x] 3)) = .ok v' w2 ∧
      w2.cell? ⟨w.heap.size, 0, none⟩ = some v ∧ w2.frozen? ⟨w.heap.size, 0, none⟩ = false ∧
      (w2.setCell ⟨w.heap.size, 0, none⟩ v').heap[w.heap.size + 2]? = some (.loop { r with state := .busy }) ∧
      AppQ w r (l ++ [x]) (readyW (w2.setCell ⟨w.heap.size, 0, none⟩ v') (w.heap.size + 2) r) ∧ (∃ a' n' c', v' = .slice a' n' c') ∧ (readyW (w2.setCell ⟨w.heap.size, 0, none⟩ v') (w.heap.size + 2) r).heap[w.heap.size + 3]? = W.heap[w.heap.size + 3]? := by
  obtain ⟨v, hv, ho⟩ := h.out
  have hlp := lt_of_heap h.lp
  have hgb : W.grownBy (busyW W (w.heap.size + 2) r) (some (w.heap.size + 2)) := ⟨rfl, rfl, rfl, by simp [busyW], fun i hi hn => World.putObj_heap_other (fun e => hn (by rw [e]))⟩
  have hv1 : (busyW W (w.heap.size + 2) r).heap[w.heap.size]? = some (.cells #[v] 30 (0, 0)) := (World.putObj_heap_other (by omega)).trans hv
  have ho1 : AppI (busyW W (w.heap.size + 2) r) (w.heap.size + 4) v l := OwnE.kept ho hgb (own_ne ho (by omega))
  have hs1 : (busyW W (w.heap.size + 2) r).heap.size = W.heap.size := by simp [busyW]
  have hd1 : BlockIs (busyW W (w.heap.size + 2) r) (w.heap.size + 1) (.deferred (some [])) := (World.putObj_heap_other (by omega)).trans h.dfr
  have hl1 : (busyW W (w.heap.size + 2) r).heap[w.heap.size + 2]? = some (.loop { r with state := .busy }) := World.putObj_heap_same hlp
  have hb1 : Below w.heap.size w (busyW W (w.heap.size + 2) r) := putObj_below h.bel (by omega)
  have hi1 : (busyW W (w.heap.size + 2) r).heap[w.heap.size + 3]? = W.heap[w.heap.size + 3]? := World.putObj_heap_other (by omega)
  have hsz := h.sz
  generalize busyW W (w.heap.size + 2) r = W1 at *
  obtain ⟨v', w2, hr, ho2, hB2, hg2⟩ := push_i (W0 := W1) x ho1 (Below.refl _ _) (by omega) hl
  have hne : ∀ z, z < w.heap.size + 4 → z < W1.heap.size → w2.heap[z]? = W1.heap[z]? := fun z hx hxs => by
    refine (hg2.block z (by simp; omega) (fun e => ?_)).trans (Below.heap_alloc _ _ _ hxs)
    have := (World.ownsRow.lt ho1 z e.symm).1; omega
  have hv2 := (hne w.heap.size (by omega) (by omega)).trans hv1
  have hl2 := (hne (w.heap.size + 2) (by omega) (by omega)).trans hl1
  have hd2 : BlockIs w2 (w.heap.size + 1) (.deferred (some [])) := (hne (w.heap.size + 1) (by omega) (by omega)).trans hd1
  have hb2 : Below w.heap.size w w2 := hb1.trans ⟨hB2.os, hB2.tape, hB2.output, hB2.size, fun x hx => hB2.block x (by omega)⟩
  have hset : ∀ z, z ≠ w.heap.size → (w2.setCell ⟨w.heap.size, 0, none⟩ v').heap[z]? = w2.heap[z]? := fun z hx => Below.heap_setCell _ _ _ _ hx
  have hgs : w2.grownBy (w2.setCell ⟨w.heap.size, 0, none⟩ v') (some w.heap.size) := grown_setI _ _ _ _
  have ho3 : AppI (w2.setCell ⟨w.heap.size, 0, none⟩ v') (w.heap.size + 4) v' (l ++ [x]) := OwnE.kept ho2 hgs (own_ne ho2 (by omega))
  have hl3 := (hset (w.heap.size + 2) (by omega)).trans hl2
  have hgr : (w2.setCell ⟨w.heap.size, 0, none⟩ v').grownBy (readyW (w2.setCell ⟨w.heap.size, 0, none⟩ v') (w.heap.size + 2) r) (some (w.heap.size + 2)) := ⟨rfl, rfl, rfl, by simp [readyW], fun i hi hn => World.putObj_heap_other (fun e => hn (by rw [e]))⟩
  refine ⟨v, v', w2, hv1, hr, cells_cell hv2 0, cells_free hv2 0, hl3, ⟨⟨v', ?_, OwnE.kept ho3 hgr (own_ne ho3 (by omega))⟩, ?_, World.putObj_heap_same (lt_of_heap hl3), putObj_below (hb2.setCell (Nat.le_refl _) _) (by omega), ?_⟩, ?_, ?_⟩
  · exact (World.putObj_heap_other (by omega)).trans (cells_set hv2 v')
  · exact (World.putObj_heap_other (by omega)).trans ((hset _ (by omega)).trans hd2)
  · have := hgr.size; have := hgs.size; have := hB2.size; omega
  · rcases ho2.cases with ⟨h, _⟩ | ⟨g, cap, h, _⟩ <;> exact ⟨_, _, _, h⟩
  · exact (World.putObj_heap_other (by omega)).trans ((hset _ (by omega)).trans ((hne _ (by omega) (by omega)).trans hi1))
theorem wpListIn_append_run {F : Fence} {nF : Nat} {P : Program} {ops : Array Oper} {rest : List Oper} {o : Oper} {a : Act} {Q : Exit → Act → World → Prop} {w w' : World} {v sv v' : Value} (hg : o.guard = none) (s x : Operand) (t : TypeId)
    (ho : o.op = .call { callee := .builtin .append, args := #[s, x], argTypes := #[t, t] }) (hs : a.eval s = v) (hx : a.eval x = sv)
    (hr : (Builtin.append_ #[t, t] o.type #[v, sv]).run P w = .ok v' w') (h : wpListIn F nF P ops Q rest (a.put o.dst v') w') : wpListIn F nF P ops Q (o :: rest) a w := by
  refine wpListIn_plain hg fun K hK' => ?_
  unfold Oper.wpIn
  refine ⟨?_, ?_⟩
  · simp [Oper.about, ho, resolve, Target.leads, Sem.run_pure]
  · rw [Oper.semAt_plain F _ _ (by rw [ho]; intro c hc'; cases hc')]
    simp [execOp, ho, resolve, invoke, builtin, hs, hx, hr, Result.andThen]
    exact hK' _ _ h

theorem AppI.lower {w : World} {base base' : Nat} {v : Value} {l : List Int} (h : AppI w base v l) (hb : base' ≤ base) : AppI w base' v l := by
  obtain ⟨h1, h2⟩ := h
  rcases h2 with h2 | ⟨g, cap, cur, hv, hg, h3⟩
  · exact ⟨h1, .inl h2⟩
  · exact ⟨h1, .inr ⟨g, cap, cur, hv, Nat.le_trans hb hg, h3⟩⟩

set_option maxRecDepth 100000 in
set_option maxHeartbeats 1000000 in
theorem appseq_keys (B mb : Nat) (L : List (Int × Hn)) (w : World) (hB : w.heap[B]? = some (.cells #[.map (some mb)] 66 (0, 0))) (hs : MapL Try.prog 3 kI hV w mb L) (hl : L.length ≤ 1000) :
    Calls Try.prog 74 #[.slice none 0 0, .func (.func 57) #[] #[.pointer (some ⟨B, 0, none⟩)]] w fun e w' => ∃ v' l, e = .returned v' ∧ AppI w' w.heap.size v' l ∧ l.Perm (L.map Prod.fst) ∧ Below w.heap.size w w' := by
  have HBX := Hd.mk hB
  have HS := Hd.mk hs
  have HBL := Hd.mk (lt_of_heap hB)
  have HNL : Hd (L.Nodup) := ⟨List.Pairwise.of_map Prod.fst (fun a b hab e => hab (by rw [e])) hs.nodup⟩
  clear hB hs
  refine (callsIn_wide (n := 0)).1 ?_
  refine callsIn_of_wp_marks Try.func74 rfl trivial ?_
  simp only [Try.ntmps74, List.size_toArray, List.length_cons, List.length_nil, Nat.reduceAdd, Nat.reduceSub, Array.replicate_succ, Array.replicate_zero, List.push_toArray, List.append_toArray, List.nil_append, List.cons_append]
  gi_wp2_with fail
  refine range_enter 57 #[.pointer (some ⟨B, 0, none⟩)] rfl (enters_of Try.func57 (by kernel_rfl) rfl) ?_
  intro r hr
  simp only [World.size_alloc]
  obtain ⟨W0, hW0⟩ : ∃ W, ((w.alloc (.cells #[.slice none 0 0] 30)).alloc (.deferred (some []))).alloc (.loop r) = W := ⟨_, rfl⟩
  have hsz0 : W0.heap.size = w.heap.size + 3 := by rw [← hW0]; simp
  have hB0 : Below w.heap.size w W0 := by rw [← hW0]; exact bl_alloc (bl_alloc (bl_alloc (Below.refl _ _)))
  have e1 : ∀ (w : World) (o : Obj), (w.alloc o).heap = w.heap.push o := fun _ _ => rfl
  have hq0 : W0.heap[w.heap.size]? = some (.cells #[.slice none 0 0] 30 (0, 0)) := by
    rw [← hW0]
    simp only [e1, Array.getElem?_push, Array.size_push]
    rw [if_neg (by omega), if_neg (by omega), if_pos trivial]
  have hq1 : BlockIs W0 (w.heap.size + 1) (.deferred (some [])) := by
    rw [← hW0]
    show (_ : Option Obj) = _
    simp only [e1, Array.getElem?_push, Array.size_push]
    rw [if_neg (by omega), if_pos trivial]
  have hq2 : W0.heap[w.heap.size + 2]? = some (.loop r) := by
    rw [← hW0]
    simp only [e1, Array.getElem?_push, Array.size_push]
    rw [if_pos trivial]
  rw [hW0]
  clear hW0 e1
  refine (keys1 B (w.heap.size + 2) mb (w.heap.size + 3) L (fun dn W => dn.Nodup ∧ (∀ p ∈ dn, p ∈ L) ∧ AppQ w r (dn.reverse.map Prod.fst) W) W0 hsz0 ((hB0.block B HBL.out).trans HBX.out) (HS.out.same (hB0.block mb HS.out.lt))
    (fun dn W h => (h.2.2.bel.block mb HS.out.lt).trans (hB0.block mb HS.out.lt).symm) ?_ ?_ ?_).mono ?_
  · intro W hg hs
    have hb : Below W0.heap.size W0 W := ⟨hg.os, hg.tape, hg.output, hg.size, fun k hk => hg.block k hk (by simp)⟩
    exact ⟨by simp, by simp, ⟨.slice none 0 0, (hb.block _ (lt_of_heap hq0)).trans hq0, OwnE.nil _ _ _ _⟩, (hb.block _ (lt_of_heap hq1)).trans hq1, (hb.block _ (lt_of_heap hq2)).trans hq2, hB0.trans (hb.mono hB0.size), by omega⟩
  · rintro dn W W' ⟨hn, hsub, h⟩ hg hs
    have hk : ∀ k, k < W.heap.size → k ≠ w.heap.size + 3 → W'.heap[k]? = W.heap[k]? := fun k hk hne => hg.block k hk (fun e => by cases e; exact hne rfl)
    have hsz := h.sz
    refine ⟨hn, hsub, ?_, (hk _ (by omega) (by omega)).trans h.dfr, (hk _ (by omega) (by omega)).trans h.lp, ⟨hg.os.trans h.bel.os, hg.tape.trans h.bel.tape, hg.output.trans h.bel.output, Nat.le_trans h.bel.size hg.size, fun k hkl => (hk k (Nat.lt_of_lt_of_le hkl h.bel.size) (by omega)).trans (h.bel.block k hkl)⟩, by omega⟩
    obtain ⟨v, h1, h2⟩ := h.out
    exact ⟨v, (hk _ (by omega) (by omega)).trans h1, OwnE.kept h2 hg (own_ne h2 (by omega))⟩
  · rintro p dn W hpL hpn ⟨hn, hsub, hI⟩
    have hdl : (p :: dn).length ≤ L.length := nodup_le (p :: dn) L (List.nodup_cons.2 ⟨hpn, hn⟩) (fun q hq => by
      rcases List.mem_cons.1 hq with rfl | hq
      · exact hpL
      · exact hsub q hq)
    simp only [List.length_cons] at hdl
    have HND : Hd ((p :: dn).Nodup ∧ ∀ q ∈ p :: dn, q ∈ L) := ⟨List.nodup_cons.2 ⟨hpn, hn⟩, fun q hq => by
      rcases List.mem_cons.1 hq with rfl | hq
      · exact hpL
      · exact hsub q hq⟩
    clear hpL hpn hn hsub
    refine yield_at hr hI.lp rfl ?_
    have HI := Hd.mk hI
    have HLP := Hd.mk hI.lp
    obtain ⟨v, v', w2, h1, hrun, h2, h3, h4, h5, ⟨a', n', c', rfl⟩, h6⟩ := hI.step p.1 (by simp only [List.length_map, List.length_reverse]; omega)
    rw [show dn.reverse.map Prod.fst ++ [p.1] = (p :: dn).reverse.map Prod.fst from by simp] at h5
    have HL4 := Hd.mk h4
    have HFIN := Hd.mk (And.intro h5 h6)
    obtain ⟨x, hX⟩ : ∃ x, p.1 = x := ⟨_, rfl⟩
    rw [hX] at hrun ⊢
    clear hI hX h4 h5 h6 hdl
    gi_wp2_with fail
    refine ⟨HLP.out, ?_⟩
    obtain ⟨Wb, hWb⟩ : ∃ Wb, busyW W (w.heap.size + 2) r = Wb := ⟨_, rfl⟩
    rw [hWb] at h1 hrun ⊢
    have c0 := cells_cell h1 0
    clear hWb
    gi_wp2_with (gi_at_builtin; refine wpListIn_append_run rfl _ _ _ rfl rfl rfl hrun ?_; clear hrun)
    exact ⟨HL4.out, rfl, ⟨by simpa using HND.out.1, by simpa using HND.out.2, by simpa using HFIN.out.1⟩, HFIN.out.2⟩
  · rintro e W ⟨hv, dn, ⟨hn, hsub, hW⟩, -, -, hall⟩
    · refine ⟨hv, .ready, none, by simp, ?_, ?_⟩
      · rw [hW.lp, hr.same]
      · obtain ⟨v, hv1, ho⟩ := hW.out
        have hper : (dn.reverse.map Prod.fst).Perm (L.map Prod.fst) := ((List.reverse_perm dn).trans ((List.perm_ext_iff_of_nodup hn HNL.out).2 fun q => ⟨hsub q, hall q⟩)).map _
        have HPER := Hd.mk hper
        obtain ⟨l, hl2⟩ : ∃ l, dn.reverse.map Prod.fst = l := ⟨_, rfl⟩
        rw [hl2] at ho HPER
        clear hl2 hper hn hsub hall
        have hgb : W.grownBy (W.putObj (w.heap.size + 2) (.loop { r with state := .exhausted, pending := none })) (some (w.heap.size + 2)) := ⟨rfl, rfl, rfl, by simp, fun i hi hn => World.putObj_heap_other (fun e => hn (by rw [e]))⟩
        have hv2 : (W.putObj (w.heap.size + 2) (.loop { r with state := .exhausted, pending := none })).heap[w.heap.size]? = some (.cells #[v] 30 (0, 0)) := (World.putObj_heap_other (by omega)).trans hv1
        have ho2 : AppI (W.putObj (w.heap.size + 2) (.loop { r with state := .exhausted, pending := none })) (w.heap.size + 4) v l := OwnE.kept ho hgb (own_ne ho (by omega))
        have hD : BlockIs (W.putObj (w.heap.size + 2) (.loop { r with state := .exhausted, pending := none })) (w.heap.size + 1) (.deferred (some [])) := (World.putObj_heap_other (by omega)).trans hW.dfr
        have hBb : Below w.heap.size w (W.putObj (w.heap.size + 2) (.loop { r with state := .exhausted, pending := none })) := putObj_below hW.bel (by omega)
        generalize W.putObj (w.heap.size + 2) (.loop { r with state := .exhausted, pending := none }) = W2 at hv2 ho2 hD hBb ⊢
        have c0 := cells_cell hv2 0
        have HO := Hd.mk ho2
        have HD := Hd.mk hD
        have HBb := Hd.mk hBb
        have HW := Hd.mk hv2
        clear hv1 ho hgb hv2 ho2 hD hBb hW
        simp only [Act.marked]
        gi_wp2_with fail
        refine ⟨by simp, .inl ⟨_, _, rfl, run_takeDeferred HD.out, ?_⟩⟩
        have hg3 : ∀ o, W2.grownBy (W2.putObj (w.heap.size + 1) o) (some (w.heap.size + 1)) := fun o => ⟨rfl, rfl, rfl, by simp, fun i hi hn => World.putObj_heap_other (fun e => hn (by rw [e]))⟩
        have hfin : AppI (W2.putObj (w.heap.size + 1) (.deferred none)) w.heap.size v l := AppI.lower (OwnE.kept HO.out (hg3 _) (own_ne HO.out (by omega))) (by omega)
        have hbf : Below w.heap.size w (W2.putObj (w.heap.size + 1) (.deferred none)) := putObj_below HBb.out (by omega)
        exact ⟨_, results_tmp rfl _ _ _, v, rfl, l, hfin, HPER.out, hbf⟩

theorem collect_keys (B mb : Nat) (L : List (Int × Hn)) (w : World) (hB : w.heap[B]? = some (.cells #[.map (some mb)] 66 (0, 0))) (hs : MapL Try.prog 3 kI hV w mb L) (hl : L.length ≤ 1000) :
    Calls Try.prog 56 #[.func (.func 57) #[] #[.pointer (some ⟨B, 0, none⟩)]] w fun e w' => ∃ v' l, e = .returned v' ∧ AppI w' w.heap.size v' l ∧ l.Perm (L.map Prod.fst) ∧ Below w.heap.size w w' := by
  have HX := Hd.mk (appseq_keys B mb L w hB hs hl)
  clear hB hs
  go_enter Try.func56, Try.ntmps56
  go_wp2_with fail
  refine HX.out.mono ?_
  rintro e w1 ⟨v', l, rfl, hO, hP, hB⟩
  have HP := Hd.mk hP
  have HO := Hd.mk hO
  have HB := Hd.mk hB
  clear hO hB hP
  go_wp2_with fail
  go_ret
  exact ⟨_, l, rfl, HO.out, HP.out, HB.out⟩

theorem sorted_keys (B mb : Nat) (L : List (Int × Hn)) (r : List Int) (w : World) (hB : w.heap[B]? = some (.cells #[.map (some mb)] 66 (0, 0))) (hs : MapL Try.prog 3 kI hV w mb L) (hl : L.length ≤ 1000)
    (hr : r.Pairwise (· ≤ ·)) (hp : (L.map Prod.fst).Perm r) :
    Calls Try.prog 40 #[.func (.func 57) #[] #[.pointer (some ⟨B, 0, none⟩)]] w fun e w' => ∃ v', e = .returned v' ∧ OwnI w' w.heap.size v' r ∧ Below w.heap.size w w' := by
  have HX := Hd.mk (collect_keys B mb L w hB hs hl)
  have HR := Hd.mk hr
  have HP := Hd.mk hp
  clear hB hs hr hp
  go_enter Try.func40, Try.ntmps40
  go_wp2_with fail
  refine HX.out.mono ?_
  rintro e w1 ⟨v', l, rfl, hO, hP, hB⟩
  have hl2 : l.length ≤ 100000 := by have := hP.length_eq; simp at this; omega
  have HP2 := Hd.mk (hP.trans HP.out)
  have HL2 := Hd.mk hl2
  have HO := Hd.mk (OwnI.of hO)
  have HB := Hd.mk hB
  clear hO hB hP hl2
  obtain ⟨a', c', rfl⟩ := HO.out.src.shape
  go_wp2_with fail
  refine (sort_own HO.out HR.out HP2.out HL2.out HB.out.size).mono ?_
  rintro e w2 ⟨⟨x, rfl⟩, hO2, hB2⟩
  have HO2 := Hd.mk hO2
  have HB2 := Hd.mk (HB.out.trans hB2)
  clear hO2 hB2
  go_wp2_with fail
  go_ret
  exact ⟨_, rfl, HO2.out, HB2.out⟩
end Go.Proofs.Ytinagiofolmhbaa
