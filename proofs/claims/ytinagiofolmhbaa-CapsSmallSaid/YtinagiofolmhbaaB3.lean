/- Below: the walk that calls itself. -/
import Derived.Test.YtinagiofolmhbaaB2
namespace Go.Proofs.Ytinagiofolmhbaa
open Go.RowKit
set_option linter.unusedVariables false
set_option linter.unusedSimpArgs false

/-- What stands while the walk goes. -/
structure WkQ (w : World) (l : List Hn) (M G BT BW : Nat) (out : List Int) (W : World) : Prop where
  bel : Below w.heap.size w W
  bt : W.heap[BT]? = some (.cells #[.pointer (some ⟨M, 0, none⟩)] 24 (0, 0))
  bw : W.heap[BW]? = some (.cells #[.func (.func 48) #[] #[.pointer (some ⟨G, 0, none⟩), .pointer (some ⟨BT, 0, none⟩), .pointer (some ⟨BW, 0, none⟩)]] 84 (0, 0))
  bo : ∃ a c, W.heap[G]? = some (.cells #[.slice a out.length c] 30 (0, 0)) ∧ AppI W w.heap.size (.slice a out.length c) out
  gG : w.heap.size ≤ G
  nod : out.Nodup
  sub : ∀ x ∈ out, ∃ h ∈ l, h.ser = x
/-- What a step of the walk leaves as it was. -/
def KeepI (W W' : World) (G : Nat) : Prop := W.heap.size ≤ W'.heap.size ∧ ∀ k o, W.heap[k]? = some o → k ≠ G → (∀ cs fr, o ≠ Obj.cells cs 3 fr) → W'.heap[k]? = some o
theorem KeepI.refl (W : World) (G : Nat) : KeepI W W G := ⟨Nat.le_refl _, fun _ _ h _ _ => h⟩
theorem KeepI.trans {A B C : World} {G : Nat} (h : KeepI A B G) (k : KeepI B C G) : KeepI A C G := ⟨Nat.le_trans h.1 k.1, fun i o hi hg hc => k.2 i o (h.2 i o hi hg hc) hg hc⟩
theorem KeepI.below {A B : World} {G : Nat} (h : Below A.heap.size A B) : KeepI A B G := ⟨h.size, fun k o hk _ _ => (h.block k (lt_heap hk)).trans hk⟩
theorem WkQ.below {w : World} {l : List Hn} {M G BT BW : Nat} {out : List Int} {W W' : World} (h : WkQ w l M G BT BW out W) (hB : Below W.heap.size W W') : WkQ w l M G BT BW out W' := by
  obtain ⟨a, c, h1, h2⟩ := h.bo
  exact ⟨h.bel.trans (hB.mono h.bel.size), (hB.block _ (lt_heap h.bt)).trans h.bt, (hB.block _ (lt_heap h.bw)).trans h.bw, ⟨a, c, (hB.block _ (lt_heap h1)).trans h1, h2.below hB⟩, h.gG, h.nod, h.sub⟩
/-- An iterator turns: nothing else does. -/
theorem WkQ.iter {w : World} {l : List Hn} {M G BT BW : Nat} {out : List Int} {W W' : World} {r : Nat} (h : WkQ w l M G BT BW out W) (hg : W.grownBy W' (some r)) (hr : w.heap.size ≤ r) {m : Option Nat} {si c0 : Nat} {se : Array Nat} (hi : W.heap[r]? = some (.mapIter m si se c0)) : WkQ w l M G BT BW out W' := by
  obtain ⟨a, c, h1, h2⟩ := h.bo
  have hk : ∀ {k : Nat} {cs e fr}, W.heap[k]? = some (Obj.cells cs e fr) → W'.heap[k]? = some (Obj.cells cs e fr) := fun {k cs e fr} hk => by
    refine (hg.block k (lt_heap hk) (fun e2 => ?_)).trans hk
    cases e2
    rw [hi] at hk; cases hk
  refine ⟨h.bel.grown hg h.bel.size (fun k e => by cases e; exact hr), hk h.bt, hk h.bw, ⟨a, c, hk h1, OwnE.same h2 fun g cur fr hg2 _ => (hk hg2).trans hg2.symm⟩, h.gG, h.nod, h.sub⟩
theorem keep_iter {W W' : World} {G r : Nat} (hg : W.grownBy W' (some r)) (hr : W.heap.size ≤ W'.heap.size) {A : World} (hA : KeepI A W G) (hr0 : A.heap.size ≤ r) : KeepI A W' G := by
  refine ⟨Nat.le_trans hA.1 hr, fun k o hk hkG hc => ?_⟩
  refine (hg.block k (Nat.lt_of_lt_of_le (lt_heap hk) hA.1) (fun e => ?_)).trans (hA.2 k o hk hkG hc)
  cases e
  have := lt_heap hk
  omega
/-- One serial more. -/
theorem WkQ.push {w : World} {l : List Hn} {M G BT BW : Nat} {out : List Int} {W : World} (h : WkQ w l M G BT BW out W) (hl : l.length ≤ 1000) (s : Int) (hs : s ∉ out) (hm : ∃ x ∈ l, x.ser = s) (hne : G ≠ BT ∧ G ≠ BW) :
    ∃ a c a' c' w', W.heap[G]? = some (.cells #[.slice a out.length c] 30 (0, 0)) ∧
      (Builtin.append_ #[30, 30] 30 #[.slice a out.length c, .slice (some ⟨W.heap.size, 0, none⟩) 1 1]).run Try.prog (W.alloc (.cells #[.int .i64 s] 3)) = .ok (.slice a' (out ++ [s]).length c') w' ∧
      w'.heap[G]? = some (.cells #[.slice a out.length c] 30 (0, 0)) ∧
      WkQ w l M G BT BW (out ++ [s]) (w'.setCell ⟨G, 0, none⟩ (.slice a' (out ++ [s]).length c')) ∧ KeepI W (w'.setCell ⟨G, 0, none⟩ (.slice a' (out ++ [s]).length c')) G := by
  obtain ⟨a, c, h1, h2⟩ := h.bo
  have hol : out.length ≤ 1000 := by
    have : out.length ≤ (l.map (·.ser)).length := nodup_le out (l.map (·.ser)) h.nod (fun x hx => by
      obtain ⟨z, hz, e⟩ := h.sub x hx
      exact List.mem_map.2 ⟨z, hz, e⟩)
    simp at this
    omega
  obtain ⟨v', w', hr, ho, hB, hg⟩ := push_i (W0 := w) s h2 h.bel h.bel.size (by omega)
  obtain ⟨a', c', rfl⟩ := ho.src.shape
  have hk : ∀ {k : Nat} {o : Obj}, W.heap[k]? = some o → (∀ cs fr, o ≠ Obj.cells cs 3 fr) → w'.heap[k]? = some o := fun {k o} hk hc => by
    have e1 : (W.alloc (.cells #[.int .i64 s] 3)).heap[k]? = some o := (Below.heap_alloc _ _ _ (lt_heap hk)).trans hk
    refine (hg.block k (lt_heap e1) (fun e => ?_)).trans e1
    rcases h2.2 with ⟨h3, _⟩ | ⟨g, cap, cur, hv, _, hh, _⟩
    · rw [h3] at e; simp [Value.ownBlock] at e
    · rw [hv] at e
      simp [Value.ownBlock] at e
      rw [e, hh] at hk
      cases hk
      exact hc _ _ rfl
  have hG := hk h1 (fun cs fr e => by cases e)
  have hset : ∀ k, k ≠ G → (w'.setCell ⟨G, 0, none⟩ (.slice a' (out ++ [s]).length c')).heap[k]? = w'.heap[k]? := fun k hk => setCell_other hk
  refine ⟨a, c, a', c', w', h1, hr, hG, ⟨hB.setCell h.gG _, (hset _ (Ne.symm hne.1)).trans (hk h.bt (fun cs fr e => by cases e)), (hset _ (Ne.symm hne.2)).trans (hk h.bw (fun cs fr e => by cases e)), ⟨a', c', cells_set (o := 0) hG _, OwnE.same ho fun g cur fr hg2 _ => hset g (fun e => ?_)⟩, h.gG, ?_, ?_⟩, ?_, fun k o hk2 hkG hc => (hset k hkG).trans (hk hk2 hc)⟩
  · subst e; rw [hG] at hg2; cases hg2
  · refine List.nodup_append.2 ⟨h.nod, by simp, ?_⟩
    intro x hx z hz e
    simp at hz
    rw [e, hz] at hx
    exact hs hx
  · intro x hx
    rcases List.mem_append.1 hx with hx | hx
    · exact h.sub x hx
    · simp at hx; subst hx; exact hm
  · have e1 := hg.size
    have e2 : (w'.setCell ⟨G, 0, none⟩ (.slice a' (out ++ [s]).length c')).heap.size = w'.heap.size := by simp [World.setCell]
    simp at e1
    omega
/-- How many are made later. -/
def later (l : List Hn) (s : Int) : Nat := (l.filter (fun h => decide (s < h.ser))).length
theorem later_lt : ∀ {l : List Hn} {c : Hn} {s : Int}, c ∈ l → s < c.ser → later l c.ser < later l s
  | [], c, s, hc, _ => by cases hc
  | a :: l, c, s, hc, hs => by
    have hle : ∀ m : List Hn, later m c.ser ≤ later m s := by
      intro m
      induction m with
      | nil => exact Nat.le_refl _
      | cons b m ih =>
        unfold later at *
        simp only [List.filter_cons]
        by_cases h1 : c.ser < b.ser
        · have h2 : s < b.ser := by omega
          simp only [h1, h2, decide_true, if_true, List.length_cons]; omega
        · by_cases h2 : s < b.ser
          · simp only [h1, h2, decide_true, decide_false, if_true, List.length_cons]; simp; omega
          · simp only [h1, h2, decide_false]; simpa using ih
    rcases List.mem_cons.1 hc with rfl | hc'
    · have := hle l
      unfold later at *
      simp only [List.filter_cons, hs, decide_true, if_true, List.length_cons, Int.lt_irrefl, decide_false]
      simp; omega
    · have ih := later_lt hc' hs
      unfold later at *
      simp only [List.filter_cons]
      by_cases h1 : c.ser < a.ser
      · have h2 : s < a.ser := by omega
        simp only [h1, h2, decide_true, if_true, List.length_cons]; omega
      · by_cases h2 : s < a.ser
        · simp only [h1, h2, decide_true, decide_false, if_true, List.length_cons]; simp; omega
        · simp only [h1, h2, decide_false]; simpa using ih
/-- What the loop over a handle's children has come to. -/
structure KidQ (l : List Hn) (s : Int) (dn : List (Int × Hn)) (out T : List Int) : Prop where
  mem : ∀ x, x ∈ T ↔ ∃ p ∈ dn, p.2.par = s ∧ Dsc l p.2.ser x
  out : ∀ x ∈ out, ¬ Dsc l s x
end Go.Proofs.Ytinagiofolmhbaa
