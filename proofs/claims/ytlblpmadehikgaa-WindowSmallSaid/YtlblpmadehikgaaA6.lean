/- slices.AppendSeq, Collect and Sorted over slices.Values. -/
import Derived.Test.YtlblpmadehikgaaA5
namespace Go.Proofs.Ytlblpmadehikgaa
open Go.RowKit Go.Shelf
attribute [local go_sem] Oper.semAt_some
set_option linter.unusedVariables false

/-- What stands in a round of AppendSeq over Values. -/
structure AppQ (w : World) (r : Loop) (l : List Int) (k : Nat) (W : World) : Prop where
  out : ∃ v, W.heap[w.heap.size]? = some (.cells #[v] 24 (0, 0)) ∧ AppI W (w.heap.size + 3) v (l.take k)
  dfr : BlockIs W (w.heap.size + 1) (.deferred (some []))
  lp : W.heap[w.heap.size + 2]? = some (.loop r)
  bel : Below w.heap.size w W

theorem lt_of_heap {W : World} {x : Nat} {o : Obj} (h : W.heap[x]? = some o) : x < W.heap.size := (Array.getElem?_eq_some_iff.1 h).1
theorem own_ne {W : World} {base g : Nat} {v : Value} {l : List Int} (h : AppI W base v l) (hg : g < base) : v.ownBlock = none ∨ v.ownBlock ≠ some g := by
  rcases ho : v.ownBlock with _ | k
  · exact .inl rfl
  · right
    have := (World.ownsRow.lt h k ho).1
    intro e; cases e; omega

theorem AppQ.step {w : World} {r : Loop} {l : List Int} {k : Nat} {W : World} (h : AppQ w r l k W) (hk : k < l.length) (hl : l.length ≤ 100000) :
    ∃ v v' w2, (busyW W (w.heap.size + 2) r).heap[w.heap.size]? = some (.cells #[v] 24 (0, 0)) ∧
      (Builtin.append_ #[24, 24] 24 #[v, .slice (some ⟨(busyW W (w.heap.size + 2) r).heap.size, 0, none⟩) 1 1]).run Try.prog ((busyW W (w.heap.size + 2) r).alloc (.cells #[.int .i64 l[k]] 3)) = .ok v' w2 ∧
      w2.cell? ⟨w.heap.size, 0, none⟩ = some v ∧ w2.frozen? ⟨w.heap.size, 0, none⟩ = false ∧
      (w2.setCell ⟨w.heap.size, 0, none⟩ v').heap[w.heap.size + 2]? = some (.loop { r with state := .busy }) ∧
      AppQ w r l (k + 1) (readyW (w2.setCell ⟨w.heap.size, 0, none⟩ v') (w.heap.size + 2) r) ∧ ∃ a' n' c', v' = .slice a' n' c' := by
  obtain ⟨v, hv, ho⟩ := h.out
  have hlp := lt_of_heap h.lp
  have hgb : W.grownBy (busyW W (w.heap.size + 2) r) (some (w.heap.size + 2)) := ⟨rfl, rfl, rfl, by simp [busyW], fun i hi hn => World.putObj_heap_other (fun e => hn (by rw [e]))⟩
  have hv1 : (busyW W (w.heap.size + 2) r).heap[w.heap.size]? = some (.cells #[v] 24 (0, 0)) := (World.putObj_heap_other (by omega)).trans hv
  have ho1 : AppI (busyW W (w.heap.size + 2) r) (w.heap.size + 3) v (l.take k) := OwnE.kept ho hgb (own_ne ho (by omega))
  have hs1 : (busyW W (w.heap.size + 2) r).heap.size = W.heap.size := by simp [busyW]
  have hd1 : BlockIs (busyW W (w.heap.size + 2) r) (w.heap.size + 1) (.deferred (some [])) := (World.putObj_heap_other (by omega)).trans h.dfr
  have hl1 : (busyW W (w.heap.size + 2) r).heap[w.heap.size + 2]? = some (.loop { r with state := .busy }) := World.putObj_heap_same hlp
  have hb1 : Below w.heap.size w (busyW W (w.heap.size + 2) r) := putObj_below h.bel (by omega)
  generalize busyW W (w.heap.size + 2) r = W1 at *
  obtain ⟨v', w2, hr, ho2, hB2, hg2⟩ := push_i (W0 := W1) l[k] ho1 (Below.refl _ _) (by omega) (by rw [List.length_take]; omega)
  have hne : ∀ x, x < w.heap.size + 3 → x < W1.heap.size → w2.heap[x]? = W1.heap[x]? := fun x hx hxs => by
    refine (hg2.block x (by simp; omega) (fun e => ?_)).trans (Below.heap_alloc _ _ _ hxs)
    have := (World.ownsRow.lt ho1 x e.symm).1; omega
  have hv2 := (hne w.heap.size (by omega) (by omega)).trans hv1
  have hl2 := (hne (w.heap.size + 2) (by omega) (by omega)).trans hl1
  have hd2 : BlockIs w2 (w.heap.size + 1) (.deferred (some [])) := (hne (w.heap.size + 1) (by omega) (by omega)).trans hd1
  have hb2 : Below w.heap.size w w2 := hb1.trans ⟨hB2.os, hB2.tape, hB2.output, hB2.size, fun x hx => hB2.block x (by omega)⟩
  have hset : ∀ x, x ≠ w.heap.size → (w2.setCell ⟨w.heap.size, 0, none⟩ v').heap[x]? = w2.heap[x]? := fun x hx => Below.heap_setCell _ _ _ _ hx
  have hgs : w2.grownBy (w2.setCell ⟨w.heap.size, 0, none⟩ v') (some w.heap.size) := grown_set _ _ _ _
  have ho3 : AppI (w2.setCell ⟨w.heap.size, 0, none⟩ v') (w.heap.size + 3) v' (l.take (k + 1)) := by
    rw [List.take_succ_eq_append_getElem hk]; exact OwnE.kept ho2 hgs (own_ne ho2 (by omega))
  have hl3 := (hset (w.heap.size + 2) (by omega)).trans hl2
  have hgr : (w2.setCell ⟨w.heap.size, 0, none⟩ v').grownBy (readyW (w2.setCell ⟨w.heap.size, 0, none⟩ v') (w.heap.size + 2) r) (some (w.heap.size + 2)) := ⟨rfl, rfl, rfl, by simp [readyW], fun i hi hn => World.putObj_heap_other (fun e => hn (by rw [e]))⟩
  refine ⟨v, v', w2, hv1, hr, cells_cell hv2 0, cells_free hv2 0, hl3, ⟨⟨v', ?_, OwnE.kept ho3 hgr (own_ne ho3 (by omega))⟩, ?_, World.putObj_heap_same (lt_of_heap hl3), putObj_below (hb2.setCell (Nat.le_refl _) _) (by omega)⟩, ?_⟩
  · exact (World.putObj_heap_other (by omega)).trans (cells_set hv2 v')
  · exact (World.putObj_heap_other (by omega)).trans ((hset _ (by omega)).trans hd2)
  · rcases ho2.cases with ⟨h, _⟩ | ⟨g, cap, h, _⟩ <;> exact ⟨_, _, _, h⟩
end Go.Proofs.Ytlblpmadehikgaa
