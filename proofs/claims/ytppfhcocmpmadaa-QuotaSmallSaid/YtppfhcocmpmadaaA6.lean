/- Walk of quota.Barrier. -/
import Derived.Test.YtppfhcocmpmadaaA5
namespace Go.Proofs.Ytppfhcocmpmadaa
open Go.RowKit Go.Shelf
attribute [local go_sem] Oper.semAt_some
set_option linter.unusedVariables false

theorem sum_any (v : Value) (cs : List (Int × Int)) (w : World) (hs : SrcC w v cs) : Calls Try.prog 18 #[v] w fun e w' => e = .returned (.tuple #[.agg (ar (if chkV cs = 0 then useK zf cs cs.length else zf)), .int .i64 (chkV cs)]) ∧ Below w.heap.size w w' := by
  by_cases h : chkV cs = 0
  · rw [if_pos h]; rw [h]; exact sum_yes v cs w hs h
  · rw [if_neg h]; exact sum_no v cs w hs h

/-- Four numbers, stored one by one into a book. -/
@[reducible] def set4u (W : World) (g : Nat) (f : Nat → Int) : World := (((W.setCell ⟨g, 4, none⟩ (.int .i64 (f 0))).setCell ⟨g, 5, none⟩ (.int .i64 (f 1))).setCell ⟨g, 6, none⟩ (.int .i64 (f 2))).setCell ⟨g, 7, none⟩ (.int .i64 (f 3))

/-- What stands in Barrier's loop. -/
structure BarI (w w1 : World) (l : Value) (r : Loop) (L : Nat → Int) (U : Nat → Nat → Int) (j k : Nat) (W : World) : Prop where
  book : W.heap[w.heap.size]? = some (.cells (bk L (U j)) 27 (0, 0))
  res : W.heap[w.heap.size + 1]? = some (.cells (bk zf zf) 27 (0, 0))
  use : W.heap[w1.heap.size]? = some (.cells (ar (U k)) 25 (0, 0))
  box : W.heap[w1.heap.size + 1]? = some (.cells #[l] 28 (0, 0))
  dfr : W.heap[w1.heap.size + 2]? = some (.deferred (some []))
  lp : W.heap[w1.heap.size + 3]? = some (.loop r)
  bel : Below w.heap.size w W
theorem BarI.grown {w w1 : World} {l : Value} {r : Loop} {L : Nat → Int} {U : Nat → Nat → Int} {j k : Nat} {W W' : World} (h : BarI w w1 l r L U j k W) (hz : w.heap.size + 2 ≤ w1.heap.size) (hg : W.grownBy W' (some (w1.heap.size)))
    (hG : W'.heap[w1.heap.size]? = some (.cells (ar (U (k + 1))) 25 (0, 0))) : BarI w w1 l r L U j (k + 1) W' := by
  have mv : ∀ {g : Nat} {o : Obj}, W.heap[g]? = some o → g ≠ w1.heap.size → W'.heap[g]? = some o := fun h hne => (hg.block _ (lt_of_heap h) (by simpa using hne)).trans h
  exact ⟨mv h.book (by omega), mv h.res (by omega), hG, mv h.box (by omega), mv h.dfr (by omega), mv h.lp (by omega), h.bel.trans ⟨hg.os, hg.tape, hg.output, hg.size, fun i hi => hg.block i (Nat.lt_of_lt_of_le hi h.bel.size) (by simp; omega)⟩⟩
theorem BarI.fin {w w1 : World} {l : Value} {r : Loop} {L : Nat → Int} {U : Nat → Nat → Int} {k : Nat} {W : World} (h : BarI w w1 l r L U k (k + 1) W) (hz : w.heap.size + 2 ≤ w1.heap.size) (W3 : World) (ho : ∀ x, x < W.heap.size → x ≠ w1.heap.size + 3 → x ≠ w.heap.size → W3.heap[x]? = W.heap[x]?)
    (hT : W3.heap[w.heap.size]? = some (.cells (bk L (U (k + 1))) 27 (0, 0))) (hl : W3.heap[w1.heap.size + 3]? = some (.loop { r with state := .busy })) (hb : Below w.heap.size w W3) : BarI w w1 l r L U (k + 1) (k + 1) (readyW W3 (w1.heap.size + 3) r) := by
  have hm : ∀ x, x < W.heap.size → x ≠ w1.heap.size + 3 → x ≠ w.heap.size → (readyW W3 (w1.heap.size + 3) r).heap[x]? = W.heap[x]? := fun x hx h1 h2 => (World.putObj_heap_other (by omega)).trans (ho x hx h1 h2)
  exact ⟨(World.putObj_heap_other (by omega)).trans hT,
    (hm _ (lt_of_heap h.res) (by omega) (by omega)).trans h.res,
    (hm _ (lt_of_heap h.use) (by omega) (by omega)).trans h.use,
    (hm _ (lt_of_heap h.box) (by omega) (by omega)).trans h.box,
    (hm _ (lt_of_heap h.dfr) (by omega) (by omega)).trans h.dfr,
    World.putObj_heap_same (lt_of_heap hl),
    putObj_below hb (by omega)⟩

set_option maxRecDepth 100000 in
set_option maxHeartbeats 4000000 in
theorem barrier_no (L U : Nat → Int) (v : Value) (cs : List (Int × Int)) (w : World) (hs : SrcC w v cs) (hc : ¬ bothV L U cs = 0) : Calls Try.prog 17 #[.agg (bk L U), v] w fun e w' => e = .returned (.tuple #[.agg (bk zf zf), .int .i64 (-1), .int .i64 (bothV L U cs)]) ∧ Below w.heap.size w w' := by
  have HS := Hd.mk hs
  obtain ⟨n, hn⟩ : ∃ n, bothV L U cs = n := ⟨_, rfl⟩
  rw [hn] at hc ⊢
  have HN := Hd.mk hn
  clear hs hn
  have HW0 : Hd (Below w.heap.size w ((w.alloc (.cells (bk L U) 27)).alloc (.cells (bk zf zf) 27))) := ⟨((Below.refl _ _).alloc (Nat.le_refl _) _).alloc (by simp) _⟩
  go_enter Try.func17, Try.ntmps17
  go_wp2_with (refine wpList_load_row rfl 27 _ rfl _ rfl 27 (bk L U) (0, 0) _ ((Below.heap_alloc _ _ _ (by simp)).trans (World.alloc_heap_new w _)) Try.underlying27 rfl (by kernel_rfl) ?_)
  refine (both_any L U v cs _ (HS.out.below HW0.out)).mono ?_
  rintro e w1 ⟨rfl, hB⟩
  rw [HN.out]
  have hb1 : w1.heap[w.heap.size + 1]? = some (.cells (bk zf zf) 27 (0, 0)) := (hB.block _ (by simp)).trans (two_new w _ _)
  have HB1 := Hd.mk (HW0.out.trans (hB.mono (by simp; omega)))
  obtain ⟨⟨c0, c1, c2, c3, c4, c5, c6, c7⟩, ⟨f0, f1, f2, f3, f4, f5, f6, f7⟩⟩ := bk_cells hb1
  have HB0 := Hd.mk hb1
  clear hb1 hB
  go_wp2_with fail
  refine bodyPost_ret (results_cell_row3 Try.results17 _ _ _ 27 (bk zf zf) (0, 0) _ rfl ?_ Try.underlying27 rfl (by kernel_rfl)) rfl ?_
  · exact cells_set (cells_set (cells_set (cells_set (cells_set (cells_set (cells_set (cells_set (HB0.out) _) _) _) _) _) _) _) _
  · exact ⟨rfl, ((((((((HB1.out).setCell (by simp) _).setCell (by simp) _).setCell (by simp) _).setCell (by simp) _).setCell (by simp) _).setCell (by simp) _).setCell (by simp) _).setCell (by simp) _⟩
end Go.Proofs.Ytppfhcocmpmadaa
