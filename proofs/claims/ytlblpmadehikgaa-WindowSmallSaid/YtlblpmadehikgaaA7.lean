/- slices.AppendSeq, Collect and Sorted over slices.Values: the walks. -/
import Derived.Test.YtlblpmadehikgaaA6
namespace Go.Proofs.Ytlblpmadehikgaa
open Go.RowKit Go.Shelf
attribute [local go_sem] Oper.semAt_some
set_option linter.unusedVariables false

theorem wpListIn_append_run {F : Fence} {nF : Nat} {P : Program} {ops : Array Oper} {rest : List Oper} {o : Oper} {a : Act} {Q : Exit → Act → World → Prop} {w w' : World} {v sv v' : Value} (hg : o.guard = none) (s x : Operand) (t : TypeId)
    (ho : o.op = .call { callee := .builtin .append, args := #[s, x], argTypes := #[t, t] }) (hs : a.eval s = v) (hx : a.eval x = sv)
    (hr : (Builtin.append_ #[t, t] o.type #[v, sv]).run P w = .ok v' w') (h : wpListIn F nF P ops Q rest (a.put o.dst v') w') : wpListIn F nF P ops Q (o :: rest) a w := by
  refine wpListIn_plain hg fun K hK' => ?_
  unfold Oper.wpIn
  refine ⟨?_, ?_⟩
  · simp [Oper.about, ho, resolve, Target.leads, Sem.run_pure]
  · rw [Oper.semAt_plain F _ _ (by rw [ho]; intro c hc'; cases hc')]
    simp [execOp, ho, resolve, invoke, builtin, hs, hx, hr, Result.andThen]
    exact hK' _ _ h

theorem AppI.lower {w : World} {base base' : Nat} {v : Value} {l : List Int} (h : AppI w base v l) (hb : base' ≤ base) : AppI w base' v l := by
  obtain ⟨h1, h2⟩ := h
  rcases h2 with h2 | ⟨g, cap, cur, hv, hg, h3⟩
  · exact ⟨h1, .inl h2⟩
  · exact ⟨h1, .inr ⟨g, cap, cur, hv, Nat.le_trans hb hg, h3⟩⟩

set_option maxRecDepth 100000 in
set_option maxHeartbeats 1000000 in
theorem appseq_vals (B : Nat) (a : Option Addr) (c : Nat) (l : List Int) (w : World) (hB : w.heap[B]? = some (.cells #[.slice a l.length c] 24 (0, 0))) (hs : SrcI w (.slice a l.length c) l) (hl : l.length ≤ 100000) :
    Calls Try.prog 58 #[.slice none 0 0, .func (.func 57) #[] #[.pointer (some ⟨B, 0, none⟩)]] w fun e w' => ∃ v', e = .returned v' ∧ AppI w' w.heap.size v' l ∧ Below w.heap.size w w' := by
  have HBX := Hd.mk hB
  have HS := Hd.mk hs
  have HBL := Hd.mk (lt_of_heap hB)
  clear hB hs
  refine (callsIn_wide (n := 0)).1 ?_
  refine callsIn_of_wp_marks Try.func58 rfl trivial ?_
  simp only [Try.ntmps58, List.size_toArray, List.length_cons, List.length_nil, Nat.reduceAdd, Nat.reduceSub, Array.replicate_succ, Array.replicate_zero, List.push_toArray, List.append_toArray, List.nil_append, List.cons_append]
  gi_wp2_with fail
  refine range_enter 57 #[.pointer (some ⟨B, 0, none⟩)] rfl (enters_of Try.func57 (by kernel_rfl) rfl) ?_
  intro r hr
  simp only [World.size_alloc]
  have H0 : AppQ w r l 0 (((w.alloc (.cells #[.slice none 0 0] 24)).alloc (.deferred (some []))).alloc (.loop r)) := by
    have e1 : ∀ (w : World) (o : Obj), (w.alloc o).heap = w.heap.push o := fun _ _ => rfl
    refine ⟨⟨.slice none 0 0, ?_, OwnE.nil _ _ _ _⟩, ?_, ?_, ?_⟩
    · simp only [e1, Array.getElem?_push, Array.size_push]
      rw [if_neg (by omega), if_neg (by omega), if_pos trivial]
    · show (_ : Option Obj) = _
      simp only [e1, Array.getElem?_push, Array.size_push]
      rw [if_neg (by omega), if_pos trivial]
    · simp only [e1, Array.getElem?_push, Array.size_push]
      rw [if_pos trivial]
    · exact bl_alloc (bl_alloc (bl_alloc (Below.refl _ _)))
  refine (vals1 B (w.heap.size + 2) a c l (fun k W => AppQ w r l k W) (fun _ => False)
    (fun k W h => ⟨(h.bel.block B HBL.out).trans HBX.out, HS.out.below h.bel⟩) (by omega) ?_ _ H0).mono ?_
  · intro k W hk hI
    refine yield_at hr hI.lp rfl ?_
    have HI := Hd.mk hI
    have HLP := Hd.mk hI.lp
    obtain ⟨v, v', w2, h1, hrun, h2, h3, h4, h5, a', n', c', rfl⟩ := hI.step hk hl
    have HL4 := Hd.mk h4
    have HFIN := Hd.mk h5
    obtain ⟨x, hX⟩ : ∃ x, l[k] = x := ⟨_, rfl⟩
    rw [hX] at hrun ⊢
    clear hI hX h4 h5
    gi_wp2_with fail
    refine ⟨HLP.out, ?_⟩
    obtain ⟨Wb, hWb⟩ : ∃ Wb, busyW W (w.heap.size + 2) r = Wb := ⟨_, rfl⟩
    rw [hWb] at h1 hrun ⊢
    have c0 := cells_cell h1 0
    clear hWb
    gi_wp2_with (gi_at_builtin; refine wpListIn_append_run rfl _ _ _ rfl rfl rfl hrun ?_; clear hrun)
    exact ⟨HL4.out, rfl, HFIN.out⟩
  · rintro e W ⟨hv, hW | hW⟩
    · refine ⟨hv, .ready, none, by simp, ?_, ?_⟩
      · rw [hW.lp, hr.same]
      · obtain ⟨v, hv1, ho⟩ := hW.out
        rw [List.take_length] at ho
        have hgb : W.grownBy (W.putObj (w.heap.size + 2) (.loop { r with state := .exhausted, pending := none })) (some (w.heap.size + 2)) := ⟨rfl, rfl, rfl, by simp, fun i hi hn => World.putObj_heap_other (fun e => hn (by rw [e]))⟩
        have hv2 : (W.putObj (w.heap.size + 2) (.loop { r with state := .exhausted, pending := none })).heap[w.heap.size]? = some (.cells #[v] 24 (0, 0)) := (World.putObj_heap_other (by omega)).trans hv1
        have ho2 : AppI (W.putObj (w.heap.size + 2) (.loop { r with state := .exhausted, pending := none })) (w.heap.size + 3) v l := OwnE.kept ho hgb (own_ne ho (by omega))
        have hD : BlockIs (W.putObj (w.heap.size + 2) (.loop { r with state := .exhausted, pending := none })) (w.heap.size + 1) (.deferred (some [])) := (World.putObj_heap_other (by omega)).trans hW.dfr
        have hBb : Below w.heap.size w (W.putObj (w.heap.size + 2) (.loop { r with state := .exhausted, pending := none })) := putObj_below hW.bel (by omega)
        generalize W.putObj (w.heap.size + 2) (.loop { r with state := .exhausted, pending := none }) = W2 at hv2 ho2 hD hBb ⊢
        have c0 := cells_cell hv2 0
        have HO := Hd.mk ho2
        have HD := Hd.mk hD
        have HBb := Hd.mk hBb
        have HW := Hd.mk hv2
        clear hv1 ho hgb hv2 ho2 hD hBb hW
        simp only [Act.marked]
        gi_wp2_with fail
        refine ⟨by simp, .inl ⟨_, _, rfl, run_takeDeferred HD.out, ?_⟩⟩
        have hg3 : ∀ o, W2.grownBy (W2.putObj (w.heap.size + 1) o) (some (w.heap.size + 1)) := fun o => ⟨rfl, rfl, rfl, by simp, fun i hi hn => World.putObj_heap_other (fun e => hn (by rw [e]))⟩
        have hfin : AppI (W2.putObj (w.heap.size + 1) (.deferred none)) w.heap.size v l := AppI.lower (OwnE.kept HO.out (hg3 _) (own_ne HO.out (by omega))) (by omega)
        have hbf : Below w.heap.size w (W2.putObj (w.heap.size + 1) (.deferred none)) := putObj_below HBb.out (by omega)
        exact ⟨_, results_tmp rfl _ _ _, v, rfl, hfin, hbf⟩
    · exact hW.elim

theorem collect_vals (B : Nat) (a : Option Addr) (c : Nat) (l : List Int) (w : World) (hB : w.heap[B]? = some (.cells #[.slice a l.length c] 24 (0, 0))) (hs : SrcI w (.slice a l.length c) l) (hl : l.length ≤ 100000) :
    Calls Try.prog 55 #[.func (.func 57) #[] #[.pointer (some ⟨B, 0, none⟩)]] w fun e w' => ∃ v', e = .returned v' ∧ AppI w' w.heap.size v' l ∧ Below w.heap.size w w' := by
  have HX := Hd.mk (appseq_vals B a c l w hB hs hl)
  clear hB hs
  go_enter Try.func55, Try.ntmps55
  go_wp2_with fail
  refine HX.out.mono ?_
  rintro e w1 ⟨v', rfl, hO, hB⟩
  have HO := Hd.mk hO
  have HB := Hd.mk hB
  clear hO hB
  go_wp2_with fail
  go_ret
  exact ⟨_, rfl, HO.out, HB.out⟩

theorem sorted_vals (B : Nat) (a : Option Addr) (c : Nat) (l r : List Int) (w : World) (hB : w.heap[B]? = some (.cells #[.slice a l.length c] 24 (0, 0))) (hs : SrcI w (.slice a l.length c) l) (hl : l.length ≤ 100000)
    (hr : r.Pairwise (· ≤ ·)) (hp : l.Perm r) :
    Calls Try.prog 48 #[.func (.func 57) #[] #[.pointer (some ⟨B, 0, none⟩)]] w fun e w' => ∃ v', e = .returned v' ∧ OwnI w' w.heap.size v' r ∧ Below w.heap.size w w' := by
  have HX := Hd.mk (collect_vals B a c l w hB hs hl)
  have HR := Hd.mk hr
  have HP := Hd.mk hp
  clear hB hs hr hp
  go_enter Try.func48, Try.ntmps48
  go_wp2_with fail
  refine HX.out.mono ?_
  rintro e w1 ⟨v', rfl, hO, hB⟩
  have HO := Hd.mk (OwnI.of hO)
  have HB := Hd.mk hB
  clear hO hB
  obtain ⟨a', c', rfl⟩ := HO.out.src.shape
  go_wp2_with fail
  refine (sort_own HO.out HR.out HP.out hl HB.out.size).mono ?_
  rintro e w2 ⟨⟨x, rfl⟩, hO2, hB2⟩
  have HO2 := Hd.mk hO2
  have HB2 := Hd.mk (HB.out.trans hB2)
  clear hO2 hB2
  go_wp2_with fail
  go_ret
  exact ⟨_, rfl, HO2.out, HB2.out⟩
end Go.Proofs.Ytlblpmadehikgaa
