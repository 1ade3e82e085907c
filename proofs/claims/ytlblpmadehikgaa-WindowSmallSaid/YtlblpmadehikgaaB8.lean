/- Next. -/
import Derived.Test.YtlblpmadehikgaaB7
import Derived.BigRegionIn
namespace Go.Proofs.Ytlblpmadehikgaa
open Go.RowKit Go.Shelf
attribute [local go_sem] Oper.semAt_some
set_option linter.unusedVariables false

def nxE (ah h : Int) (l : List Int) : Int := if wrE l ah h = 0 then (if winsV ah h l = [] then 6 else 0) else wrE l ah h
def nxW (ah h : Int) (l : List Int) : Int × Int := if wrE l ah h = 0 then (winsV ah h l).headD (0, 0) else (0, 0)
/-- The indexes below k of the times before e. -/
def inL (l : List Int) (e : Int) (k : Nat) : List Int := ((List.range k).filter (fun i => decide (l.getD i 0 < e))).map (fun i : Nat => (i : Int))
theorem inL_zero (l : List Int) (e : Int) : inL l e 0 = [] := rfl
theorem inL_yes {l : List Int} {e : Int} {k : Nat} (h : l.getD k 0 < e) : inL l e (k + 1) = inL l e k ++ [(k : Int)] := by
  rw [inL, List.range_succ, List.filter_append, List.map_append, List.filter_cons_of_pos (by exact decide_eq_true h)]; rfl
theorem inL_no {l : List Int} {e : Int} {k : Nat} (h : ¬ l.getD k 0 < e) : inL l e (k + 1) = inL l e k := by
  rw [inL, List.range_succ, List.filter_append, List.map_append, List.filter_cons_of_neg (by rw [decide_eq_false h]; exact Bool.false_ne_true)]; simp [inL]
theorem inL_len (l : List Int) (e : Int) (k : Nat) : (inL l e k).length ≤ k := by
  rw [inL, List.length_map]
  exact Nat.le_trans (List.length_filter_le _ _) (by simp)
def nxI (ah h : Int) (l : List Int) : List Int := if nxE ah h l = 0 then inL l (nxW ah h l).2 l.length else []

theorem results_win {fn : Func} {p q r : Tmp} (h : fn.results = #[.cell p 28, .cell q 24, .cell r 29]) (tmps : Array Value) (w : World) (g : Nat) (x y : Int) (v e : Value)
    (hp : tmps.getD p undef = .pointer (some ⟨g, 0, none⟩)) (hq : tmps.getD q undef = .pointer (some ⟨g + 1, 0, none⟩)) (hr : tmps.getD r undef = .pointer (some ⟨g + 2, 0, none⟩))
    (h1 : w.heap[g]? = some (.cells #[.int .i64 x, .int .i64 y] 28 (0, 0))) (h2 : w.cell? ⟨g + 1, 0, none⟩ = some v) (h3 : w.cell? ⟨g + 2, 0, none⟩ = some e) :
    (results fn tmps).run Try.prog w = .ok (.tuple #[.agg #[.int .i64 x, .int .i64 y], v, e]) w := by
  have hp' : tmps[p]?.getD undef = .pointer (some ⟨g, 0, none⟩) := by simpa using hp
  have hq' : tmps[q]?.getD undef = .pointer (some ⟨g + 1, 0, none⟩) := by simpa using hq
  have hr' : tmps[r]?.getD undef = .pointer (some ⟨g + 2, 0, none⟩) := by simpa using hr
  have a24 : (isAgg 24).run Try.prog w = .ok false w := by
    unfold isAgg
    rw [Sem.run_bind, run_underlying Try.underlying24 w]
    rfl
  have a29 : (isAgg 29).run Try.prog w = .ok false w := by
    unfold isAgg
    rw [Sem.run_bind, run_underlying Try.underlying29 w]
    rfl
  have r0 := run_loadVar_row w g 28 28 #[.int .i64 x, .int .i64 y] (0, 0) _ h1 Try.underlying28 rfl (by kernel_rfl)
  have r1 : (loadVar 24 ⟨g + 1, 0, none⟩).run Try.prog w = .ok v w := by simp [loadVar, Sem.run_bind, a24, h2]
  have r2 : (loadVar 29 ⟨g + 2, 0, none⟩).run Try.prog w = .ok e w := by simp [loadVar, Sem.run_bind, a29, h3]
  simp [results, h, hp', hq', hr', asAddr, r0, r1, r2]

/-- The stores of Next's results. -/
def res4 (W : World) (g : Nat) (x y v e : Value) : World := (((W.setCell ⟨g, 0, none⟩ x).setCell ⟨g, 1, none⟩ y).setCell ⟨g + 1, 0, none⟩ v).setCell ⟨g + 1 + 1, 0, none⟩ e
theorem res4_other (W : World) {g z : Nat} (x y v e : Value) (h1 : z ≠ g) (h2 : z ≠ g + 1) (h3 : z ≠ g + 2) : (res4 W g x y v e).heap[z]? = W.heap[z]? :=
  (Below.heap_setCell _ _ _ _ h3).trans ((Below.heap_setCell _ _ _ _ h2).trans ((Below.heap_setCell _ _ _ _ h1).trans (Below.heap_setCell _ _ _ _ h1)))
theorem res4_below {W w : World} {B g : Nat} (h : Below B w W) (hg : B ≤ g) (x y v e : Value) : Below B w (res4 W g x y v e) :=
  (((h.setCell hg _).setCell hg _).setCell (by simp; omega) _).setCell (by simp; omega) _
theorem res4_get {W : World} {g : Nat} {a b : Value} {c d : Value} (h1 : W.heap[g]? = some (.cells #[a, b] 28 (0, 0))) (h2 : W.heap[g + 1]? = some (.cells #[c] 24 (0, 0))) (h3 : W.heap[g + 1 + 1]? = some (.cells #[d] 29 (0, 0))) (x y v e : Value) :
    (res4 W g x y v e).heap[g]? = some (.cells #[x, y] 28 (0, 0)) ∧ (res4 W g x y v e).heap[g + 1]? = some (.cells #[v] 24 (0, 0)) ∧ (res4 W g x y v e).heap[g + 2]? = some (.cells #[e] 29 (0, 0)) := by
  have e1 := set2_heap h1 x y
  refine ⟨?_, ?_, ?_⟩
  · exact (Below.heap_setCell _ _ _ _ (by simp; omega)).trans ((Below.heap_setCell _ _ _ _ (by simp)).trans e1)
  · have : ((W.setCell ⟨g, 0, none⟩ x).setCell ⟨g, 1, none⟩ y).heap[g + 1]? = some (.cells #[c] 24 (0, 0)) := (Below.heap_setCell _ _ _ _ (by simp)).trans ((Below.heap_setCell _ _ _ _ (by simp)).trans h2)
    exact (Below.heap_setCell _ _ _ _ (by simp)).trans (cells_set this v)
  · have : (((W.setCell ⟨g, 0, none⟩ x).setCell ⟨g, 1, none⟩ y).setCell ⟨g + 1, 0, none⟩ v).heap[g + 1 + 1]? = some (.cells #[d] 29 (0, 0)) :=
      (Below.heap_setCell _ _ _ _ (by simp)).trans ((Below.heap_setCell _ _ _ _ (by simp; omega)).trans ((Below.heap_setCell _ _ _ _ (by simp; omega)).trans h3))
    exact cells_set this e

set_option maxRecDepth 100000 in
set_option maxHeartbeats 2000000 in
theorem next_bad (v : Value) (l : List Int) (ah h : Int) (w : World) (hs : SrcI w v l) (E : Int) (hE : wrE l ah h = E) (hz : ¬ E = 0) : Calls Try.prog 14 #[v, .int .i64 ah, .int .i64 h] w fun e w' =>
    e = .returned (.tuple #[.agg #[.int .i64 0, .int .i64 0], .slice none 0 0, .int .i64 E]) ∧ Below w.heap.size w w' := by
  have HW := Hd.mk (fun (w : World) (hs : SrcI w v l) => wrong_any v l ah h w hs)
  have HS := Hd.mk hs
  obtain ⟨a, c, rfl⟩ := hs.shape
  clear hs
  rw [hE] at HW
  have hc : E = 2 ∨ E = 5 := by have := wr_cases l ah h; omega
  clear hE hz
  go_enter Try.func14, Try.ntmps14
  go_wp2_with fail
  obtain ⟨w0, hw0⟩ : ∃ x, ((((w.alloc (.cells #[.slice a l.length c] 24)).alloc (.cells #[.int .i64 0, .int .i64 0] 28)).alloc (.cells #[.slice none 0 0] 24)).alloc (.cells #[.int .i64 0] 29)) = x := ⟨_, rfl⟩
  obtain ⟨-, q0, q1, q2, q3⟩ := push4 w (.cells #[.slice a l.length c] 24) (.cells #[.int .i64 0, .int .i64 0] 28) (.cells #[.slice none 0 0] 24) (.cells #[.int .i64 0] 29)
  have hB0 : Below w.heap.size w w0 := by rw [← hw0]; exact bl_alloc (bl_alloc (bl_alloc (bl_alloc (Below.refl _ _))))
  have hz0 : w0.heap.size = w.heap.size + 4 := by rw [← hw0]; simp
  rw [hw0] at q0 q1 q2 q3 ⊢
  clear hw0
  refine (HW.out _ (HS.out.below hB0)).mono ?_
  rintro e w1 ⟨rfl, hB⟩
  have q0' := (hB.block _ (by omega)).trans q0
  have q1' : w1.heap[w.heap.size + 1]? = _ := (hB.block _ (by omega)).trans q1
  have q2' : w1.heap[w.heap.size + 1 + 1]? = _ := (hB.block (w.heap.size + 2) (by omega)).trans q2
  have q3' : w1.heap[w.heap.size + 1 + 1 + 1]? = _ := (hB.block (w.heap.size + 3) (by omega)).trans q3
  have HB1 := Hd.mk (ch4 hB0 hB)
  have HZ1 : Hd (w.heap.size + 4 ≤ w1.heap.size) := ⟨by rw [← hz0]; exact hB.size⟩
  have HQ0 := Hd.mk q0'
  have HQ1 := Hd.mk q1'
  have HQ2 := Hd.mk q2'
  have HQ3 := Hd.mk q3'
  clear q0 q1 q2 q3 q0' q1' q2' q3' hB hB0 hz0 HW
  have c1 := cells_cell HQ1.out 0
  have c2 := cells_cell HQ1.out 1
  have c3 := cells_cell HQ2.out 0
  have c4 := cells_cell HQ3.out 0
  have f1 := cells_free HQ1.out 0
  have f2 := cells_free HQ1.out 1
  have f3 := cells_free HQ2.out 0
  have f4 := cells_free HQ3.out 0
  rcases hc with rfl | rfl
  · go_wp2_with fail
    obtain ⟨r1, r2, r3⟩ := res4_get HQ1.out HQ2.out HQ3.out (.int .i64 0) (.int .i64 0) (.slice none 0 0) (.int .i64 2)
    refine bodyPost_ret (results_win Try.results14 _ _ (w.heap.size + 1) 0 0 (.slice none 0 0) (.int .i64 2) rfl rfl rfl r1 (cells_cell r2 0) (cells_cell r3 0)) rfl ?_
    exact ⟨rfl, res4_below HB1.out (by omega) _ _ _ _⟩
  · go_wp2_with fail
    obtain ⟨r1, r2, r3⟩ := res4_get HQ1.out HQ2.out HQ3.out (.int .i64 0) (.int .i64 0) (.slice none 0 0) (.int .i64 5)
    refine bodyPost_ret (results_win Try.results14 _ _ (w.heap.size + 1) 0 0 (.slice none 0 0) (.int .i64 5) rfl rfl rfl r1 (cells_cell r2 0) (cells_cell r3 0)) rfl ?_
    exact ⟨rfl, res4_below HB1.out (by omega) _ _ _ _⟩
end Go.Proofs.Ytlblpmadehikgaa
