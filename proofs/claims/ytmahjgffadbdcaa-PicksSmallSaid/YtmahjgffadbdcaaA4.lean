/- Walks of picks.least and before: loops over those that are left. -/
import Derived.Test.YtmahjgffadbdcaaA3
namespace Go.Proofs.Ytmahjgffadbdcaa
open Go.RowKit Go.Shelf
attribute [local go_sem] Oper.semAt_some
set_option linter.unusedVariables false

/-- What stands while those that are left are gone through. -/
structure FrA (G B D : Nat) (S : List Int) (r : Loop) (W : World) : Prop where
  left : W.heap[G]? = some (.cells (lf S) 51 (0, 0))
  box : W.heap[B]? = some (.cells #[.pointer (some ⟨G, 0, none⟩)] 69 (0, 0))
  dfr : W.heap[D]? = some (.deferred (some []))
  lp : W.heap[D + 1]? = some (.loop r)

theorem range_all (G B : Nat) (S : List Int) (hS : asc S) (hr : ∀ p ∈ S, 1 ≤ p ∧ p ≤ 16) {g : Operand} {ps : Array Tmp} {assign body : Code} {Q : Exit → Act → World → Prop} {a : Act} {w : World} (c : Code)
    (hg : a.eval g = .func (.func 47) #[] #[.pointer (some ⟨B, 0, none⟩)])
    (hG : w.heap[G]? = some (.cells (lf S) 51 (0, 0))) (hB : w.heap[B]? = some (.cells #[.pointer (some ⟨G, 0, none⟩)] 69 (0, 0)))
    (K : Nat → World → Prop) (J : World → Prop)
    (hK0 : ∀ o o', K 0 ((w.alloc o).alloc o'))
    (hround : ∀ (r : Loop), IsRec r a.tmps ps assign body → ∀ i W (h : i < S.length), FrA G B w.heap.size S r W → K i W → YieldAt Fence.wide 0 Try.prog (w.heap.size + 1) #[.int .i64 S[i]] W (fun e W'' =>
      (e = .returned (.bool true) ∧ FrA G B w.heap.size S r W'' ∧ K (i + 1) W'') ∨
      (e = .returned (.bool false) ∧ W''.heap[w.heap.size]? = some (.deferred (some [])) ∧ W''.heap[w.heap.size + 1]? = some (.loop { r with state := .done, pending := some c }) ∧ J W'')))
    (hdone : ∀ (r : Loop) W, FrA G B w.heap.size S r W → K S.length W → Q .normal (Act.marked a w.heap.size) (W.putObj (w.heap.size + 1) (.loop { r with state := .exhausted, pending := none })))
    (hexit : ∀ (r : Loop) W, W.heap[w.heap.size]? = some (.deferred (some [])) → J W → c.wpIn Fence.wide 0 Try.prog Q (Act.marked a w.heap.size) (W.putObj (w.heap.size + 1) (.loop { r with state := .exhausted, pending := some c }))) :
    (Code.rangeFunc g ps assign body).wpIn Fence.wide 0 Try.prog Q a w := by
  have hGl := cells_lt hG
  have hBl := cells_lt hB
  refine range_enter 47 _ hg (enters_of Try.func47 (by kernel_rfl) rfl) ?_
  intro r hrec
  have H0 : FrA G B w.heap.size S r ((w.alloc (.deferred (some []))).alloc (.loop r)) := by
    refine ⟨?_, ?_, ?_, two_new w _ _⟩
    · exact ((Below.heap_alloc _ _ _ (by simp; omega)).trans (Below.heap_alloc _ _ _ hGl)).trans hG
    · exact ((Below.heap_alloc _ _ _ (by simp; omega)).trans (Below.heap_alloc _ _ _ hBl)).trans hB
    · exact (Below.heap_alloc _ _ _ (by simp)).trans (World.alloc_heap_new w _)
  refine (all1 G B (w.heap.size + 1) S hS hr (fun i W => FrA G B w.heap.size S r W ∧ K i W)
    (fun W => W.heap[w.heap.size]? = some (.deferred (some [])) ∧ W.heap[w.heap.size + 1]? = some (.loop { r with state := .done, pending := some c }) ∧ J W)
    (fun i W h => ⟨h.1.left, h.1.box⟩) (fun i W hi h => hround r hrec i W hi h.1 h.2) _ ⟨H0, hK0 _ _⟩).mono ?_
  rintro e W ⟨hv, ⟨hF, hK⟩ | ⟨h1, h2, h3⟩⟩
  · exact ⟨hv, .ready, none, by simp, by rw [hF.lp, hrec.same], hdone r W hF hK⟩
  · exact ⟨hv, .done, some c, by simp, h2, hexit r W h1 h3⟩

theorem results_cell_int {fn : Func} {p : Tmp} (h : fn.results = #[.cell p 3]) (tmps : Array Value) (w : World) (g : Nat) (v : Value)
    (hp : tmps.getD p undef = .pointer (some ⟨g, 0, none⟩)) (hc : w.cell? ⟨g, 0, none⟩ = some v) : (results fn tmps).run Try.prog w = .ok v w := by
  have hp' : tmps[p]?.getD undef = .pointer (some ⟨g, 0, none⟩) := by simpa using hp
  have hagg : (isAgg 3).run Try.prog w = .ok false w := by
    unfold isAgg
    rw [Sem.run_bind, run_underlying Try.underlying3 w]
    rfl
  simp [results, h, hp', asAddr, loadVar, Sem.run_bind, hagg, hc]

theorem busy_other {W : World} {l g : Nat} {r : Loop} (h : g ≠ l) : (busyW W l r).heap[g]? = W.heap[g]? := World.putObj_heap_other h
theorem done_other {W : World} {l g : Nat} {r : Loop} {c : Code} (h : g ≠ l) : (doneW W l r c).heap[g]? = W.heap[g]? := World.putObj_heap_other h
theorem ready_other {W : World} {l g : Nat} {r : Loop} (h : g ≠ l) : (readyW W l r).heap[g]? = W.heap[g]? := World.putObj_heap_other h

theorem FrA.ready {G B D : Nat} {S : List Int} {r : Loop} {W : World} (hG : G ≠ D + 1) (hB : B ≠ D + 1) (h1 : W.heap[G]? = some (.cells (lf S) 51 (0, 0))) (h2 : W.heap[B]? = some (.cells #[.pointer (some ⟨G, 0, none⟩)] 69 (0, 0)))
    (h3 : W.heap[D]? = some (.deferred (some []))) (h4 : W.heap[D + 1]? = some (.loop { r with state := .busy })) : FrA G B D S r (readyW W (D + 1) r) :=
  ⟨(ready_other hG).trans h1, (ready_other hB).trans h2, (ready_other (by omega)).trans h3, World.putObj_heap_same (cells_lt h4)⟩

set_option maxRecDepth 100000 in
set_option maxHeartbeats 1000000 in
theorem least_any (G : Nat) (S : List Int) (hS : asc S) (hr : ∀ p ∈ S, 1 ≤ p ∧ p ≤ 16) (w : World) (hG : w.heap[G]? = some (.cells (lf S) 51 (0, 0))) :
    Calls Try.prog 32 #[.pointer (some ⟨G, 0, none⟩)] w fun e w' => e = .returned (.int .i64 (S.headD 0)) ∧ Below w.heap.size w w' := by
  obtain ⟨z, hz⟩ : ∃ z, S.headD 0 = z := ⟨_, rfl⟩
  rw [hz]
  have HZ := Hd.mk hz
  clear hz
  have HS := Hd.mk hS
  have HR := Hd.mk hr
  have HG := Hd.mk hG
  have HGL := Hd.mk (cells_lt hG)
  clear hS hr hG
  refine (callsIn_wide (n := 0)).1 ?_
  refine callsIn_of_wp_marks Try.func32 rfl trivial ?_
  simp only [Try.ntmps32, List.size_toArray, List.length_cons, List.length_nil, Nat.reduceAdd, Nat.reduceSub, Array.replicate_succ, Array.replicate_zero, List.push_toArray, List.append_toArray, List.nil_append, List.cons_append]
  gi_wp2_with fail
  refine (callsIn_wide.2 (all_any _ _)).mono ?_
  rintro e w2 ⟨rfl, rfl⟩
  gi_wp2_with fail
  have hgl := HGL.out
  obtain ⟨w2, hw2⟩ : ∃ w2, w2 = (w.alloc (.cells #[.int .i64 0] 3)).alloc (.cells #[.pointer (some ⟨G, 0, none⟩)] 69) := ⟨_, rfl⟩
  have hsz : w2.heap.size = w.heap.size + 2 := by rw [hw2]; simp
  have hB2 : Below w.heap.size w w2 := by rw [hw2]; exact ((Below.refl _ _).alloc (Nat.le_refl _) _).alloc (by simp) _
  have hR2 : w2.heap[w.heap.size]? = some (.cells #[.int .i64 0] 3 (0, 0)) := by rw [hw2]; exact (Below.heap_alloc _ _ _ (by simp)).trans (World.alloc_heap_new w _)
  have hX2 : w2.heap[w.heap.size + 1]? = some (.cells #[.pointer (some ⟨G, 0, none⟩)] 69 (0, 0)) := by rw [hw2]; exact two_new w _ _
  rw [← hw2]
  clear hw2
  have HLT := Hd.mk (show w.heap.size + 1 < w2.heap.size by omega)
  have HB2 := Hd.mk hB2
  have HGG := Hd.mk ((hB2.block _ hgl).trans HG.out)
  have HR2 := Hd.mk hR2
  have HX2 := Hd.mk hX2
  clear hB2 hR2 hX2
  refine range_all G (w.heap.size + 1) S HS.out HR.out .ret rfl HGG.out HX2.out
    (fun i W => i = 0 ∧ Below w.heap.size w W ∧ W.heap[w.heap.size]? = some (.cells #[.int .i64 0] 3 (0, 0)))
    (fun W => Below w.heap.size w W ∧ W.heap[w.heap.size]? = some (.cells #[.int .i64 z] 3 (0, 0))) ?_ ?_ ?_ ?_
  all_goals obtain ⟨D, hD⟩ : ∃ D, w2.heap.size = D := ⟨_, rfl⟩
  · intro o o'
    have := HLT.out
    exact ⟨rfl, (HB2.out.alloc (by omega) _).alloc (by simp; omega) _, ((Below.heap_alloc _ _ _ (by simp; omega)).trans (Below.heap_alloc _ _ _ (by omega))).trans HR2.out⟩
  · rintro r hr i W hi hF ⟨rfl, hB, hR⟩
    have hx : S[0] = z := by rw [← HZ.out]; cases S with | nil => simp at hi | cons x t => rfl
    rw [hx]
    rw [hD] at HLT hF ⊢
    have hsz := HLT.out
    refine yield_at hr hF.lp rfl ?_
    have HF := Hd.mk hF
    have HB := Hd.mk hB
    have HRR := Hd.mk hR
    clear hF hB hR hx hD hsz
    gi_wp2_with fail
    refine ⟨HF.out.lp, ?_⟩
    have hsz := HLT.out
    have hlp : (busyW W (D + 1) r).heap[D + 1]? = some (.loop { r with state := .busy }) := World.putObj_heap_same (cells_lt HF.out.lp)
    have hdf : (busyW W (D + 1) r).heap[D]? = some (.deferred (some [])) := (busy_other (by omega)).trans HF.out.dfr
    have hre : (busyW W (D + 1) r).heap[w.heap.size]? = some (.cells #[.int .i64 0] 3 (0, 0)) := (busy_other (by omega)).trans HRR.out
    have hbe : Below w.heap.size w (busyW W (D + 1) r) := putObj_below HB.out (by omega)
    generalize busyW W (D + 1) r = Wb at hlp hdf hre hbe ⊢
    have hc := cells_cell hre 0
    have hf := cells_free hre 0
    have HLP := Hd.mk hlp
    have HDF := Hd.mk hdf
    have HRE := Hd.mk hre
    have HBE := Hd.mk hbe
    clear hlp hdf hre hbe HF HB HRR hsz
    gi_wp2_with fail
    have hsz := HLT.out
    refine ⟨(Below.heap_setCell _ _ _ _ (by simp; omega)).trans HLP.out, rfl, ?_, ?_, ?_, ?_⟩
    · exact (done_other (by omega)).trans ((Below.heap_setCell _ _ _ _ (by simp; omega)).trans HDF.out)
    · exact World.putObj_heap_same (by have := cells_lt HLP.out; simpa [World.setCell] using this)
    · exact putObj_below (HBE.out.setCell (Nat.le_refl _) _) (by omega)
    · exact (done_other (by omega)).trans (cells_set HRE.out _)
  · rintro r W hF ⟨h0, hB, hR⟩
    have HHD : Hd (z = 0) := ⟨by rw [← HZ.out]; cases S with | nil => rfl | cons x t => simp at h0⟩
    rw [hD] at HLT hF ⊢
    have hsz := HLT.out
    have hdf : (W.putObj (D + 1) (.loop { r with state := .exhausted, pending := none })).heap[D]? = some (.deferred (some [])) := (World.putObj_heap_other (by omega)).trans hF.dfr
    have hre : (W.putObj (D + 1) (.loop { r with state := .exhausted, pending := none })).heap[w.heap.size]? = some (.cells #[.int .i64 0] 3 (0, 0)) := (World.putObj_heap_other (by omega)).trans hR
    have hbe : Below w.heap.size w (W.putObj (D + 1) (.loop { r with state := .exhausted, pending := none })) := putObj_below hB (by omega)
    generalize W.putObj (D + 1) (.loop { r with state := .exhausted, pending := none }) = Wb at hdf hre hbe ⊢
    have hc := cells_cell hre 0
    have hf := cells_free hre 0
    have HDF := Hd.mk hdf
    have HRE := Hd.mk hre
    have HBE := Hd.mk hbe
    clear hdf hre hbe hF hB hR h0 hD hsz
    simp only [Act.marked]
    gi_wp2_with fail
    have hsz := HLT.out
    refine ⟨by simp, .inl ⟨_, _, rfl, run_takeDeferred ((Below.heap_setCell _ _ _ _ (by simp; omega)).trans HDF.out), ?_⟩⟩
    refine ⟨_, results_cell_int Try.results32 _ _ w.heap.size (.int .i64 0) rfl ?_, by rw [HHD.out], putObj_below (HBE.out.setCell (Nat.le_refl _) _) (by omega)⟩
    exact cells_cell ((World.putObj_heap_other (by omega)).trans (cells_set HRE.out _)) 0
  · rintro r W hD1 ⟨hB, hR⟩
    rw [hD] at HLT hD1 ⊢
    have hsz := HLT.out
    have hdf : (W.putObj (D + 1) (.loop { r with state := .exhausted, pending := some .ret })).heap[D]? = some (.deferred (some [])) := (World.putObj_heap_other (by omega)).trans hD1
    have hre : (W.putObj (D + 1) (.loop { r with state := .exhausted, pending := some .ret })).heap[w.heap.size]? = some (.cells #[.int .i64 z] 3 (0, 0)) := (World.putObj_heap_other (by omega)).trans hR
    have hbe : Below w.heap.size w (W.putObj (D + 1) (.loop { r with state := .exhausted, pending := some .ret })) := putObj_below hB (by omega)
    generalize W.putObj (D + 1) (.loop { r with state := .exhausted, pending := some .ret }) = Wb at hdf hre hbe ⊢
    have HDF := Hd.mk hdf
    have HRE := Hd.mk hre
    have HBE := Hd.mk hbe
    clear hdf hre hbe hD1 hB hR hD hsz
    simp only [Act.marked]
    gi_wp2_with fail
    have hsz := HLT.out
    refine ⟨by simp, .inl ⟨_, _, rfl, run_takeDeferred HDF.out, ?_⟩⟩
    refine ⟨_, results_cell_int Try.results32 _ _ w.heap.size (.int .i64 z) rfl ?_, rfl, putObj_below HBE.out (by omega)⟩
    exact cells_cell ((World.putObj_heap_other (by omega)).trans HRE.out) 0
end Go.Proofs.Ytmahjgffadbdcaa
