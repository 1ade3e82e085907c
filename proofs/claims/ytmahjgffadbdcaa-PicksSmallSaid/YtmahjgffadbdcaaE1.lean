/- slices.Sort and slices.Delete on slices of the call's own; Ready. -/
import Derived.Test.YtmahjgffadbdcaaD3
import Derived.Test.YtmahjgffadbdcaaShelf
import Derived.Sort.OwnSortedInts
import Derived.Laws.IdiomCopy
namespace Go.Proofs.Ytmahjgffadbdcaa
open Go.RowKit Go.Sort
set_option linter.unusedVariables false

theorem holds_own {w : World} {base g cap : Nat} {l : List Int} (h : OwnI w base (.slice (some ⟨g, 0, none⟩) l.length cap) l) (hl : 0 < l.length) : Holds (Value.int .i64) w g 0 l.toArray ∧ g < w.heap.size ∧ base ≤ g ∧ l.length ≤ cap ∧ cap ≤ maxLen := by
  obtain ⟨g', cap', hv, hg, hR, h1, h2⟩ := h.row hl
  simp only [Value.slice.injEq, Option.some.injEq, Addr.mk.injEq] at hv
  obtain ⟨⟨rfl, _⟩, _, rfl⟩ := hv
  refine ⟨fun j hj => ⟨?_, hR.free _⟩, hR.lt, hg, h1, h2⟩
  have hj' : j < l.length := by simpa using hj
  rw [Nat.zero_add, hR.cell j hj', List.getD_eq_getElem?_getD, List.getElem?_eq_getElem hj']
  simp [hj']

theorem sort_own {w : World} {base : Nat} {v : Value} {l r : List Int} (h : OwnI w base v l) (hr : asc r) (hp : l.Perm r) (hl : l.length ≤ 100000) (hb : base ≤ w.heap.size) :
    Calls Try.prog 16 #[v] w fun e w' => (∃ x, e = .returned x) ∧ OwnI w' base v r ∧ Below base w w' := by
  rcases Nat.eq_zero_or_pos l.length with h0 | h0
  · have hl0 : l = [] := List.length_eq_zero_iff.1 h0
    subst hl0
    have hr0 : r = [] := by simpa using hp
    subst hr0
    rcases h with ⟨rfl, _⟩ | ⟨g, cap, rfl, h'⟩
    · refine (Try.slices_Sort_int_none none 0 w).mono ?_
      rintro e w' ⟨rfl, rfl⟩
      exact ⟨⟨_, rfl⟩, OwnI.nil _ _, Below.refl _ _⟩
    · refine (Try.slices_Sort_int_none (some ⟨g, 0, none⟩) cap w).mono ?_
      rintro e w' ⟨rfl, rfl⟩
      exact ⟨⟨_, rfl⟩, .inr ⟨g, cap, rfl, h'⟩, Below.refl _ _⟩
  · obtain ⟨g, cap, rfl, _⟩ := h.row h0
    obtain ⟨hH, hlt, hbg, h1, h2⟩ := holds_own h h0
    refine (Try.slices_Sort_int g 0 cap l w hH hlt (by omega)).mono ?_
    rintro e w' ⟨rfl, n, os, rfl⟩
    have hs : (l.mergeSort fun x y => decide (x ≤ y)) = r := by
      refine List.Perm.eq_of_pairwise (le := fun a b : Int => a ≤ b) ?_ ?_ ?_ ((List.mergeSort_perm _ _).trans hp)
      · intro a b _ _ h1 h2; omega
      · have := List.pairwise_mergeSort (le := fun x y : Int => decide (x ≤ y)) (by intro a b c; simp; omega) (by intro a b; simp; omega) l
        exact this.imp (by intro a b h; simpa using h)
      · exact List.Pairwise.imp (fun h => by omega) hr
    rw [hs]
    have hlen : r.length = l.length := hp.length_eq.symm
    have hH2 : Holds (Value.int .i64) (Sort.ahead w n) g 0 l.toArray := hH
    have hP := holds_putRow (Value.int .i64) (Sort.ahead w n) g 0 l.toArray r.toArray hH2 (by simp [hlen])
    have hgs : g < (putRow (Value.int .i64) (Sort.ahead w n) g 0 r.toArray).heap.size := by simpa [putRow, mapBlock, Sort.ahead] using hlt
    refine ⟨⟨_, rfl⟩, .inr ⟨g, cap, by rw [hlen], hbg, ?_, by omega, h2, fun j hj => ?_, fun j => ?_⟩, below_grown (grownBy_sortedI _) hbg hb⟩
    · have := (grownBy_sortedI (w := w) (g := g) (n := n) (os := os) r.toArray).size; omega
    · have := (hP j (by simpa using hj)).1
      rw [cell?_grow _ _ _ hgs]
      rw [Nat.zero_add] at this
      rw [this]; simp [hj]
    · rw [frozen?_grow _ _ _ hgs, frozen?_putRow]
      rcases h with ⟨hv, _⟩ | ⟨g', cap', hv, _, _, _, _, _, hf⟩
      · cases hv
      · simp only [Value.slice.injEq, Option.some.injEq, Addr.mk.injEq] at hv
        obtain ⟨⟨rfl, _⟩, _⟩ := hv
        exact hf j

theorem delete_own {w : World} {base : Nat} {v : Value} {l : List Int} {k : Nat} (h : OwnI w base v l) (hk : k < l.length) (hl : l.length ≤ 100000) (hb : base ≤ w.heap.size) :
    Calls Try.prog 30 #[v, .int .i64 (k : Int), .int .i64 ((k : Int) + 1)] w fun e w' => ∃ v', e = .returned v' ∧ OwnI w' base v' (l.eraseIdx k) ∧ Below base w w' := by
  obtain ⟨g, cap, rfl, hbg, hR, h1, h2⟩ := h.row (by omega)
  have hm : cap ≤ 9223372036854775807 := by unfold maxLen at h2; omega
  have hc := Try.slices_Delete_int_cells g 0 l.length cap k (k + 1) l w (Nat.le_refl _) h1 hm (by omega) (by omega) (fun j hj => by rw [Nat.zero_add]; exact hR.cell j hj) (fun j hj => by rw [Nat.zero_add]; exact hR.free j)
  refine hc.mono ?_
  rintro e w' ⟨rfl, q, rfl⟩
  have hE : l.eraseIdx k = (l.take l.length).take k ++ (l.take l.length).drop (k + 1) := by rw [List.take_length, List.eraseIdx_eq_take_drop_succ]
  have hEl : (l.eraseIdx k).length = l.length - (k + 1 - k) := by rw [List.length_eraseIdx, if_pos hk]; omega
  rw [← hE]
  have hsz : (l.eraseIdx k ++ List.replicate (k + 1 - k) (0 : Int)).length = l.length := by rw [List.length_append, hEl, List.length_replicate]; omega
  refine ⟨_, rfl, .inr ⟨g, cap, by rw [hEl], hbg, ?_, by omega, h2, fun j hj => ?_, fun j => ?_⟩, ?_⟩
  · have := hR.lt
    refine Nat.lt_of_lt_of_le this ?_
    have : ∀ (vs : List Value) (o : Nat) (W : World), (W.setCells g o vs).heap.size = W.heap.size := by
      intro vs; induction vs with
      | nil => intro o W; rfl
      | cons v r ih => intro o W; rw [World.setCells, ih]; simp
    rw [this]; exact Nat.le_refl _
  · have := World.cell?_setCells_in g ((l.eraseIdx k ++ List.replicate (k + 1 - k) (0 : Int)).map (Value.int .i64)) 0 (w.drewN q) (fun j hj => by
      rw [Nat.zero_add]
      show (w.cell? ⟨g, j, none⟩).isSome = true
      rw [hR.cell j (by rw [List.length_map] at hj; omega)]; rfl) j (by rw [List.length_map]; omega)
    rw [Nat.zero_add] at this
    rw [this, List.getElem_map, List.getElem_append_left hj]
  · rw [World.frozen?_setCells]; exact hR.free j
  · have hbl : ∀ (vs : List Value) (o : Nat) (W : World), Below base w W → Below base w (W.setCells g o vs) := by
      intro vs; induction vs with
      | nil => intro o W hW; exact hW
      | cons v r ih => intro o W hW; rw [World.setCells]; exact ih _ _ (hW.setCell hbg _)
    exact hbl _ _ _ (below_drewN (Below.refl _ _) q)
end Go.Proofs.Ytmahjgffadbdcaa
