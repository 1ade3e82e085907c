/- What stands behind add, and behind what takes handles away. -/
import Derived.Test.YtinagiofolmhbaaA8
namespace Go.Proofs.Ytinagiofolmhbaa
open Go.RowKit
set_option linter.unusedVariables false
set_option linter.unusedSimpArgs false

theorem setCell_other {w : World} {b i k : Nat} {v : Value} (h : k ≠ b) : (w.setCell ⟨b, i, none⟩ v).heap[k]? = w.heap[k]? := Below.heap_setCell _ _ _ _ h
theorem push_s {W : World} {v : Value} {xs : List Int} (h : AppI W 0 v xs) (hn : xs.length ≤ 300) (x : Int) {X : Nat} (hX : W.heap[X]? = some (.cells #[.int .i64 x] 3 (0, 0))) :
    ∃ K cap W', (Builtin.append_ #[30, 30] 30 #[v, .slice (some ⟨X, 0, none⟩) 1 1]).run Try.prog W = .ok (.slice (some ⟨K, 0, none⟩) (xs.length + 1) cap) W' ∧ AppI W' 0 (.slice (some ⟨K, 0, none⟩) (xs.length + 1) cap) (xs ++ [x]) ∧
      W.grownBy W' v.ownBlock ∧ (v.ownBlock = some K ∨ K = W.heap.size) := by
  obtain ⟨i, z, hi, hz, hzs, hsz, hby⟩ := info3
  obtain ⟨v', W', hr, ho, hg, h4, h5⟩ := run_append_own_at (P := Try.prog) W 0 30 30 3 i _ 1 8 Try.underlying30 hi hz hsz hby hzs (by decide) v xs.length (xs.map fun n : Int => Value.int .i64 n) h ⟨X, 0, none⟩ 1 1 [.int .i64 x] rfl
    (by
      intro j u hj
      cases j with
      | zero => simp at hj; subst hj; rw [plain_add, cells_cell hX]; rfl
      | succ j => simp at hj)
    (by intro u hu; simp at hu; subst hu; rfl) (by simp only [maxLen]; omega) (by omega) (Nat.zero_le _)
  rcases ho.2 with ⟨h6, h7⟩ | ⟨g, cap, cur, hv, hg', hh, hc, hm, hs, ht⟩
  · omega
  · subst hv
    refine ⟨g, cap, W', hr, ?_, hg, ?_⟩
    · unfold AppI OwnE
      rw [List.length_append, List.map_append]
      exact ho
    · rcases h5 with h5 | h5
      · exact .inl h5.symm
      · exact .inr (by simpa [Value.ownBlock] using h5)
theorem getL_app {l : List Hn} {x : Hn} (hx : ∀ h ∈ l, h.ser ≠ x.ser) (s : Int) : getL (l ++ [x]) s = if s = x.ser then some x else getL l s := by
  unfold getL
  rw [List.find?_append]
  by_cases e : s = x.ser
  · subst e
    have : l.find? (fun h => decide (h.ser = x.ser)) = none := by
      rw [List.find?_eq_none]
      intro h hh
      simpa using hx h hh
    rw [this, if_pos rfl]
    simp
  · rw [if_neg e]
    cases h : l.find? (fun h => decide (h.ser = s)) with
    | some z => simp
    | none =>
      have : ¬ x.ser = s := fun h => e h.symm
      simp [this]
theorem own_some {a : Option Addr} {n c k : Nat} (h : (Value.slice a n c).ownBlock = some k) : ∃ d, a = some d ∧ d.block = k := by
  cases a with
  | none => simp [Value.ownBlock] at h
  | some d => simp [Value.ownBlock] at h; exact ⟨d, rfl, h⟩
/-- What stands behind add. -/
theorem TabL.added {y : Lay} {w W : World} {pr : Nat → Prop} {M : Nat} {st : St} (h : TabL y w pr M st) (x : Hn) (i : Nat) (hi : i < 17) (hx : x.hol = (i : Int)) (he : addE st x.hol = 0) (hok : Ok (addS st x)) {L : List (Int × Hn)} {K cap : Nat}
    (hl : ∀ s, lk L s = getL (liveS st) s)
    (hM : W.heap[M]? = some (.cells ((y.cs.setIfInBounds 1 (.int .i64 (st.next + 1))).setIfInBounds (3 + i) (.slice (some ⟨K, 0, none⟩) ((placesS st i).length + 1) cap)) 69 (0, 0)))
    (hm : MapL Try.prog 3 kI hV W y.mb (putL L st.next { x with ser := st.next })) (hr : AppI W 0 (.slice (some ⟨K, 0, none⟩) ((placesS st i).length + 1) cap) (placesS st i ++ [st.next]))
    (hK : (∃ d, y.pa i = some d ∧ d.block = K) ∨ w.heap.size ≤ K) (ho : ∀ k, k < w.heap.size → k ≠ M → k ≠ y.mb → (∀ d, y.pa i = some d → d.block ≠ k) → W.heap[k]? = w.heap[k]?)
    (hs : w.heap.size ≤ W.heap.size) (hos : W.os = w.os ∧ W.tape = w.tape ∧ W.output = w.output) : TabAt W pr M (addS st x) ∧ Kept pr w W := by
  have hown : ∀ who, placesS (addS st x) who = placesS st who ++ (if x.hol = who then [st.next] else []) := own_add he
  have hlive := live_add he
  have hnext : (addS st x).next = st.next + 1 := by unfold addS; rw [if_pos he]
  have hfoot := h.foot
  have hkept : Kept pr w W := ⟨hos.1, hos.2.1, hos.2.2, hs, fun k hk => ho k (h.prs k hk) (fun e => h.pM (e ▸ hk)) (fun e => h.pB (e ▸ hk)) (fun d hd e => h.rowP i hi d hd (e ▸ hk))⟩
  refine ⟨⟨⟨(y.cs.setIfInBounds 1 (.int .i64 (st.next + 1))).setIfInBounds (3 + i) (.slice (some ⟨K, 0, none⟩) ((placesS st i).length + 1) cap), y.mb, fun j => if j = i then some ⟨K, 0, none⟩ else y.pa j, fun j => if j = i then cap else y.pc j⟩, hok, fun k hk => Nat.lt_of_lt_of_le (h.prs k hk) hs, hM, ?_, ?_, ?_, ?_, ?_, h.pM, h.pB, ?_, ?_, ?_, ?_⟩, hkept⟩
  · simp [h.csz]
  · show ((y.cs.setIfInBounds 1 _).setIfInBounds (3 + i) _)[0]? = _
    rw [Array.getElem?_setIfInBounds, if_neg (by omega), Array.getElem?_setIfInBounds, if_neg (by omega)]; exact h.c0
  · show ((y.cs.setIfInBounds 1 _).setIfInBounds (3 + i) _)[1]? = _
    rw [Array.getElem?_setIfInBounds, if_neg (by omega), Array.getElem?_setIfInBounds, if_pos rfl, if_pos (by have := h.csz; omega), hnext]
  · show ((y.cs.setIfInBounds 1 _).setIfInBounds (3 + i) _)[2]? = _
    rw [Array.getElem?_setIfInBounds, if_neg (by omega), Array.getElem?_setIfInBounds, if_neg (by omega)]; exact h.c2
  · intro j hj
    show ((y.cs.setIfInBounds 1 _).setIfInBounds (3 + i) _)[3 + j]? = some (.slice (if j = i then some ⟨K, 0, none⟩ else y.pa j) (placesS (addS st x) j).length (if j = i then cap else y.pc j))
    rw [Array.getElem?_setIfInBounds, hown]
    by_cases e : j = i
    · subst e
      rw [if_pos rfl, if_pos (by simp [h.csz]; omega), if_pos rfl, if_pos rfl, if_pos hx]
      simp
    · rw [if_neg (by omega), Array.getElem?_setIfInBounds, if_neg (by omega), if_neg e, if_neg e, if_neg (by rw [hx]; omega), List.append_nil]
      exact h.cr j hj
  · refine ⟨_, hm, fun s => ?_⟩
    rw [lk_put, hlive, getL_app (fun z hz e => ?_), hl]
    have := h.ok.lo _ (live_mem.1 hz)
    simp only at this e
    omega
  · intro j hj
    show AppI W 0 (.slice (if j = i then some ⟨K, 0, none⟩ else y.pa j) (placesS (addS st x) j).length (if j = i then cap else y.pc j)) (placesS (addS st x) j)
    rw [hown]
    by_cases e : j = i
    · subst e
      rw [if_pos rfl, if_pos rfl, if_pos hx]
      simpa using hr
    · rw [if_neg e, if_neg e, if_neg (by rw [hx]; omega), List.append_nil]
      refine OwnE.same (h.rows j hj) fun g cur fr hg hv => ?_
      obtain ⟨d, hd, hdk⟩ := own_some hv
      refine ho g (lt_of_heap hg) ?_ ?_ ?_
      · intro e2; subst e2; rw [h.bM] at hg; cases hg
      · intro e2; subst e2
        obtain ⟨L2, ⟨es, clock, hb, _⟩, _⟩ := h.map
        rw [hb] at hg; cases hg
      · intro d2 hd2 e2
        exact e (h.apart j i d d2 hj hi hd hd2 (by omega))
  · intro j hj d hd
    have hd : (if j = i then some ⟨K, 0, none⟩ else y.pa j) = some d := hd
    by_cases e : j = i
    · subst e
      rw [if_pos rfl] at hd
      cases hd
      rcases hK with ⟨d, h1, h2⟩ | hK
      · show ¬ pr K
        rw [← h2]; exact h.rowP j hj d h1
      · intro hp; have := h.prs _ hp; simp only at this; omega
    · rw [if_neg e] at hd
      exact h.rowP j hj d hd
  · intro j k d e hj hk hd he2 hb
    have hd : (if j = i then some ⟨K, 0, none⟩ else y.pa j) = some d := hd
    have he2 : (if k = i then some ⟨K, 0, none⟩ else y.pa k) = some e := he2
    have key : ∀ (m : Nat) (f : Addr), m < 17 → m ≠ i → y.pa m = some f → f.block = K → False := by
      intro m f hm hne hf hfk
      rcases hK with ⟨d, h1, h2⟩ | hK
      · exact hne (h.apart m i f d hm hi hf h1 (by omega))
      · have := (hfoot f.block (.inr (.inr ⟨m, hm, f, hf, rfl⟩))).2
        omega
    by_cases e1 : j = i
    · rw [if_pos e1] at hd
      cases hd
      by_cases e3 : k = i
      · omega
      · rw [if_neg e3] at he2
        exact (key k e hk e3 he2 hb.symm).elim
    · rw [if_neg e1] at hd
      by_cases e3 : k = i
      · rw [if_pos e3] at he2
        cases he2
        exact (key j d hj e1 hd hb).elim
      · rw [if_neg e3] at he2
        exact h.apart j k d e hj hk hd he2 hb
/-- What stands when handles are gone: the map alone has turned. -/
theorem TabL.taken {y : Lay} {w W : World} {pr : Nat → Prop} {M : Nat} {st : St} (h : TabL y w pr M st) (p : List Int) {L : List (Int × Hn)} (hm : MapL Try.prog 3 kI hV W y.mb L) (hl : ∀ s, lk L s = if s ∈ p then none else getL (liveS st) s)
    (hg : w.grownBy W (some y.mb)) : TabL y W pr M (takeS st p) := by
  have hb : ∀ k, k < w.heap.size → k ≠ y.mb → W.heap[k]? = w.heap[k]? := fun k hk hne => hg.block k hk (fun e => by cases e; exact hne rfl)
  have hmb : ∀ {k : Nat} {cs e fr}, w.heap[k]? = some (.cells cs e fr) → k ≠ y.mb := by
    intro k cs e fr hk e2
    subst e2
    obtain ⟨L2, ⟨es, clock, hb2, _⟩, _⟩ := h.map
    rw [hb2] at hk; cases hk
  refine ⟨h.ok.take p, fun k hk => Nat.lt_of_lt_of_le (h.prs k hk) hg.size, (hb M (lt_of_heap h.bM) (hmb h.bM)).trans h.bM, h.csz, h.c0, h.c1, h.c2, ?_, h.pM, h.pB, ⟨L, hm, fun s => ?_⟩, ?_, h.rowP, h.apart⟩
  · intro i hi; rw [own_take]; exact h.cr i hi
  · rw [hl, live_take]
    by_cases hs : s ∈ p
    · rw [if_pos hs]
      symm
      refine getL_none.2 fun z hz e => ?_
      obtain ⟨_, h2⟩ := List.mem_filter.1 hz
      rw [e] at h2
      simp at h2
      exact h2 hs
    · rw [if_neg hs]
      unfold getL
      rw [List.find?_filter]
      congr 1
      funext z
      by_cases e : z.ser = s
      · subst e; simp [hs]
      · simp [e]
  · intro i hi
    rw [own_take]
    refine OwnE.same (h.rows i hi) fun g cur fr hg2 hv => hb g (lt_of_heap hg2) (hmb hg2)
end Go.Proofs.Ytinagiofolmhbaa
