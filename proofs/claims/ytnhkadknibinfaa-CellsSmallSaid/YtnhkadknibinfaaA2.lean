/- How the memory's parts stand while others turn. -/
import Derived.Test.YtnhkadknibinfaaA1
namespace Go.Proofs.Ytnhkadknibinfaa
open Go.RowKit
set_option linter.unusedVariables false
set_option linter.unusedSimpArgs false

theorem OwnE.same {α : Type} {enc : α → Value} {w w' : World} {base e : Nat} {v : Value} {xs : List α} (h : OwnE enc w base e v xs) (hs : ∀ g cur fr, w.heap[g]? = some (.cells cur e fr) → v.ownBlock = some g → w'.heap[g]? = w.heap[g]?) : OwnE enc w' base e v xs := by
  obtain ⟨h1, h2⟩ := h
  rcases h2 with h2 | ⟨g, cap, cur, hv, hg, hh, hc, hm, hs', ht⟩
  · exact ⟨h1, .inl h2⟩
  · exact ⟨h1, .inr ⟨g, cap, cur, hv, hg, (hs g cur _ hh (by rw [hv]; rfl)).trans hh, hc, hm, hs', ht⟩⟩

theorem RowsAt.keep {y : Lay} {w w' : World} {pr : Nat → Prop} {a : List (List Int)} (h : RowsAt y w pr a)
    (h28 : ∀ (b : Nat) cs fr, w.heap[b]? = some (Obj.cells cs 28 fr) → w'.heap[b]? = w.heap[b]?) (h2 : ∀ (b : Nat) cs fr, w.heap[b]? = some (Obj.cells cs 2 fr) → w'.heap[b]? = w.heap[b]?) : RowsAt y w' pr a := by
  refine ⟨h.own.same fun g cur fr hg _ => h28 g cur fr hg, h.ownP, ?_, h.apart, h.caps⟩
  intro i hi h0
  obtain ⟨g, cur, hr, hp, hg, h1⟩ := h.row i hi h0
  exact ⟨g, cur, hr, hp, (h2 g cur _ hg).trans hg, h1⟩

theorem MarksAt.keep {y : Lay} {w w' : World} {pr : Nat → Prop} {st : St} (h : MarksAt y w pr st)
    (h78 : ∀ (b : Nat) cs fr, w.heap[b]? = some (Obj.cells cs 78 fr) → w'.heap[b]? = w.heap[b]?) (hm : ∀ (b : Nat) es cl, w.heap[b]? = some (Obj.map es cl) → w'.heap[b]? = w.heap[b]?) : MarksAt y w' pr st := by
  refine ⟨h.own.same fun g cur fr hg _ => h78 g cur fr hg, h.ownP, ?_, h.apart⟩
  intro j hj
  obtain ⟨hp, L, hL, hl⟩ := h.maps j hj
  refine ⟨hp, L, hL.same ?_, hl⟩
  obtain ⟨es, clock, hb, _⟩ := hL
  exact hm _ es clock hb

theorem grown_cell (w : World) (b i : Nat) (v : Value) : w.grownBy (w.setCell ⟨b, i, none⟩ v) (some b) :=
  ⟨rfl, rfl, rfl, by simp [World.setCell], fun k _ hn => Below.heap_setCell _ _ _ _ (fun e => hn (by rw [e]))⟩
theorem grown_refl (w : World) (r : Option Nat) : w.grownBy w r := ⟨rfl, rfl, rfl, Nat.le_refl _, fun _ _ _ => rfl⟩
theorem grown_trans {w w1 w2 : World} {r : Option Nat} (h : w.grownBy w1 r) (k : w1.grownBy w2 r) : w.grownBy w2 r :=
  ⟨k.os.trans h.os, k.tape.trans h.tape, k.output.trans h.output, Nat.le_trans h.size k.size, fun i hi hn => (k.block i (Nat.lt_of_lt_of_le hi h.size) hn).trans (h.block i hi hn)⟩

/-- A cell is written. -/
theorem RowsAt.set {y : Lay} {w w' : World} {pr : Nat → Prop} {a : List (List Int)} (h : RowsAt y w pr a) {i k g : Nat} (hi : i < a.length) (hk : k < a[i].length) (v : Int) (hg : y.ra i = some ⟨g, 0, none⟩) {cur : Array Value}
    (hb : w.heap[g]? = some (.cells cur 2 (0, 0))) (hb' : w'.heap[g]? = some (.cells (cur.setIfInBounds k (iv v)) 2 (0, 0))) (hgr : w.grownBy w' (some g)) (hprs : ∀ k, pr k → k < w.heap.size) : RowsAt y w' pr (set2 a ((i : Int) + 1, (k : Int)) v) := by
  have hsh := shape_set2 a ((i : Int) + 1, (k : Int)) v
  have hlen : (set2 a ((i : Int) + 1, (k : Int)) v).length = a.length := shape_len hsh
  have lt : ∀ {b : Nat} {o : Obj}, w.heap[b]? = some o → b < w.heap.size := fun h => (Array.getElem?_eq_some_iff.1 h).1
  have e2 : ((i : Int) + 1).toNat - 1 = i := by omega
  have hget : ∀ j (hj : j < (set2 a ((i : Int) + 1, (k : Int)) v).length) (hj' : j < a.length), (set2 a ((i : Int) + 1, (k : Int)) v)[j] = if i = j then a[j].set k v else a[j] := by
    intro j hj hj'
    unfold set2
    simp only [e2, Int.toNat_natCast, List.getElem_modify]
  have hrl : ∀ j (hj : j < (set2 a ((i : Int) + 1, (k : Int)) v).length) (hj' : j < a.length), (set2 a ((i : Int) + 1, (k : Int)) v)[j].length = a[j].length := fun j hj hj' => shape_at hsh j hj hj'
  have hrows : rowsV y (set2 a ((i : Int) + 1, (k : Int)) v) = rowsV y a := by
    unfold rowsV
    rw [hlen]
    refine List.map_congr_left fun j hj => ?_
    have hj' : j < a.length := List.mem_range.1 hj
    have hj2 : j < (set2 a ((i : Int) + 1, (k : Int)) v).length := by rw [hlen]; exact hj'
    have := hrl j hj2 hj'
    simp only [List.getD_eq_getElem?_getD, List.getElem?_eq_getElem hj', List.getElem?_eq_getElem hj2, Option.getD_some, this]
  refine ⟨?_, h.ownP, ?_, ?_, ?_⟩
  · rw [hlen, hrows]
    refine h.own.same fun b cs fr hbb _ => hgr.block b (lt hbb) ?_
    intro e
    cases e
    rw [hb] at hbb
    simp at hbb
  · intro j hj h0
    have hj' : j < a.length := by rw [← hlen]; exact hj
    have h0' : 0 < a[j].length := by rw [← hrl j hj hj']; exact h0
    obtain ⟨g', cur', hr, hp, hg', hc, hm, hcell⟩ := h.row j hj' h0'
    by_cases hij : i = j
    · subst hij
      rw [hg] at hr
      cases hr
      rw [hb] at hg'
      cases hg'
      refine ⟨g, _, hg, hp, hb', by rw [hrl i hj hj']; exact hc, hm, ?_⟩
      intro m hm'
      have hm2 : m < a[i].length := by rw [← hrl i hj hj']; exact hm'
      have hcm := hcell m hm2
      have hms : m < cur.size := (Array.getElem?_eq_some_iff.1 hcm).1
      rw [Array.getElem?_setIfInBounds]
      have e3 : (set2 a ((i : Int) + 1, (k : Int)) v)[i][m] = (a[i].set k v)[m]'(by simpa using hm2) := by
        have := hget i hj hj'
        simp only [if_true] at this
        simp only [this]
      rw [e3, List.getElem_set]
      by_cases hkm : k = m
      · subst hkm; simp [hms]
      · simp [hkm, hcm]
    · have hne : g' ≠ g := by
        intro e
        subst e
        exact hij (h.apart i j _ hi hj' (by omega) h0' hg hr)
      refine ⟨g', cur', hr, hp, (hgr.block g' (lt hg') (by simpa using hne)).trans hg', by rw [hrl j hj hj']; exact hc, hm, ?_⟩
      intro m hm'
      have hm2 : m < a[j].length := by rw [← hrl j hj hj']; exact hm'
      have e3 : (set2 a ((i : Int) + 1, (k : Int)) v)[j][m] = a[j][m] := by
        have := hget j hj hj'
        simp only [hij, if_false] at this
        simp only [this]
      rw [e3]; exact hcell m hm2
  · intro p q d hp hq h0 h1 hdp hdq
    have hp' : p < a.length := by rw [← hlen]; exact hp
    have hq' : q < a.length := by rw [← hlen]; exact hq
    exact h.apart p q d hp' hq' (by rw [← hrl p hp hp']; exact h0) (by rw [← hrl q hq hq']; exact h1) hdp hdq
  · intro j hj
    have hj' : j < a.length := by rw [← hlen]; exact hj
    rw [hrl j hj hj']; exact h.caps j hj'

/-- The top mark's map is another. -/
theorem MarksAt.top {y : Lay} {w w' : World} {pr : Nat → Prop} {st st' : St} (h : MarksAt y w pr st) (hm : st'.marks = st.marks)
    (h78 : ∀ (b : Nat) cs fr, w.heap[b]? = some (Obj.cells cs 78 fr) → w'.heap[b]? = w.heap[b]?)
    (hmaps : ∀ j, j + 1 < st.marks.length → w'.heap[y.mb j]? = w.heap[y.mb j]?)
    (htop : ∀ j, j + 1 = st.marks.length → ∃ L, MapL Try.prog 73 ik iv w' (y.mb j) L ∧ ∀ p, lk L p = diffP (snapAt st j) st'.now p) : MarksAt y w' pr st' := by
  refine ⟨by rw [hm]; exact h.own.same fun g cur fr hg _ => h78 g cur fr hg, h.ownP, ?_, by rw [hm]; exact h.apart⟩
  intro j hj
  rw [hm] at hj
  obtain ⟨hp, L, hL, hl⟩ := h.maps j hj
  refine ⟨hp, ?_⟩
  have e1 : snapAt st' j = snapAt st j := by unfold snapAt; rw [hm, List.getElem?_eq_getElem hj]; rfl
  rw [e1]
  by_cases h1 : j + 1 < st.marks.length
  · refine ⟨L, hL.same (hmaps j h1), ?_⟩
    have e2 : snapAt st' (j + 1) = snapAt st (j + 1) := by unfold snapAt; rw [hm, List.getElem?_eq_getElem h1]; rfl
    rw [e2]; exact hl
  · have h2 : j + 1 = st.marks.length := by omega
    have e2 : snapAt st' (j + 1) = st'.now := by unfold snapAt; rw [hm, h2]; simp
    rw [e2]
    exact htop j h2

theorem diff_same {s a b : List (List Int)} (h : ∀ p, at2 a p = at2 b p) (p : Int × Int) : diffP s a p = diffP s b p := by unfold diffP; rw [h]

/-- What becomes of the differences when a cell is written. -/
theorem diff_set {s a : List (List Int)} {q : Int × Int} {old v : Int} (ha : at2 a q = some old) (p : Int × Int) :
    diffP s (set2 a q v) p = if p = q then (if at2 s q = some v then none else at2 s q) else diffP s a p := by
  unfold diffP
  rw [at2_set2 v (by rw [ha]; rfl)]
  by_cases hp : p = q
  · subst hp; simp
  · simp [hp]

theorem keyed73 : Go.Maps.Keyed Try.prog 73 := Go.Maps.Keyed.of_law (deep_law_laid (m := 2) (by kernel_rfl) (by omega) (of_decide_eq_true (by kernel_rfl)) (by kernel_rfl) (by kernel_rfl))
/-- A struct of two ints as a key. -/
theorem key_pair {P : Program} {t : TypeId} {fs : Array Field} (hu : P.underlying t = some (.struct fs)) (h3 : P.underlying 3 = some (.int .i64)) (hk : P.keyType t = true) (hc : P.cellsOf t = 2) (hc3 : P.cellsOf 3 = 1) (hs : 0 < P.types.size)
    (hf : ∃ a b : Field, fs.toList = [a, b] ∧ a.name ≠ "_" ∧ b.name ≠ "_" ∧ a.type = 3 ∧ b.type = 3 ∧ a.offset = 0 ∧ b.offset = 1)
    (o i : Int) (ho : (Lit.int .i64 o).wf = true) (hi : (Lit.int .i64 i).wf = true) : ∃ l, keyOf P t (.agg #[.int .i64 o, .int .i64 i]) = some l := by
  obtain ⟨a, b, e, n1, n2, t1, t2, o1, o2⟩ := hf
  have hfm : (Value.agg #[.int .i64 o, .int .i64 i]).formed P t = true := by simp [Value.formed, hu, hc]
  obtain ⟨m, hm⟩ : ∃ m, P.types.size = m + 1 := ⟨P.types.size - 1, by omega⟩
  have hall : fs.all (·.name != "_") = true := by rw [← Array.all_toList, e]; simp [n1, n2]
  have hi3 : ∀ n : Int, (Lit.int .i64 n).wf = true → P.keyLits (m + 1) 3 [.int .i64 n] = some [.int .i64 n] := by
    intro n hn
    unfold Program.keyLits
    simp [h3, hn]
  have hl : P.keyLits (P.types.size + 1) t [.int .i64 o, .int .i64 i] = some [.int .i64 o, .int .i64 i] := by
    rw [hm]
    unfold Program.keyLits
    simp only [hu]
    rw [if_pos ⟨by rw [hc]; rfl, hall⟩, e]
    simp [t1, t2, o1, o2, hc3, hi3 o ho, hi3 i hi]
  refine ⟨.string (keyBytes [.int .i64 o, .int .i64 i]), ?_⟩
  unfold keyOf
  simp only [hu, hk, hfm, Bool.and_self, if_true]
  rw [show (Value.agg #[.int .i64 o, .int .i64 i]).cells.toList = [.int .i64 o, .int .i64 i] from rfl, hl]
  rfl
theorem key73 (o i : Int) (ho : (Lit.int .i64 o).wf = true) (hi : (Lit.int .i64 i).wf = true) : ∃ l, keyOf Try.prog 73 (ik (o, i)) = some l :=
  key_pair Try.underlying73 Try.underlying3 (by kernel_rfl) (by kernel_rfl) (by kernel_rfl) (of_decide_eq_true (by kernel_rfl)) ⟨_, _, rfl, by decide, by decide, rfl, rfl, rfl, rfl⟩ o i ho hi
end Go.Proofs.Ytnhkadknibinfaa
