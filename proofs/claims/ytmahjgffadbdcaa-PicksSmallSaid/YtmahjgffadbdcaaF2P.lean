/- The law PicksSwaps: plain facts; slices.Reverse of a slice of the call's own. -/
import Derived.Test.YtmahjgffadbdcaaF1
namespace Go.Proofs.Ytmahjgffadbdcaa
open Go.RowKit
set_option linter.unusedVariables false

theorem reverse_own {w : World} {base : Nat} {v : Value} {l : List Int} (h : OwnI w base v l) (hl : l.length ≤ 100000) (hb : base ≤ w.heap.size) :
    Calls Try.prog 26 #[v] w fun e w' => (∃ x, e = .returned x) ∧ OwnI w' base v l.reverse ∧ Below base w w' := by
  rcases Nat.eq_zero_or_pos l.length with h0 | h0
  · have hl0 : l = [] := List.length_eq_zero_iff.1 h0
    subst hl0
    have hsh : ∃ a c, v = .slice a 0 c := by obtain ⟨a, c, hv⟩ := h.src.shape; exact ⟨a, c, hv⟩
    obtain ⟨a, c, rfl⟩ := hsh
    refine (Try.slices_Reverse_int_empty a c w).mono ?_
    rintro e w' ⟨rfl, hw⟩
    subst hw
    exact ⟨⟨_, rfl⟩, h, Below.refl _ _⟩
  · obtain ⟨g, cap, rfl, hbg, hR, h1, h2⟩ := h.row h0
    have hc := reverse_any g 0 l.length cap (fun j => l.getD j 0) w (by rw [Nat.zero_add]; exact hR) (by omega)
    refine hc.mono ?_
    rintro e w' ⟨hv, hR', hG⟩
    rw [Nat.zero_add] at hR'
    refine ⟨hv, hR'.own (by simp) (fun j hj => ?_) hbg h1 h2, below_grown hG hbg hb⟩
    simp only [Nat.zero_le, if_true]
    rw [List.getD_eq_getElem?_getD, List.getD_eq_getElem?_getD, List.getElem?_reverse hj]

theorem RM.okS {R A B : List Int} (ha : RM R A) (hb : RM R B) : Ytmahjgffadbdcaa.okS A B = true := by
  rw [Ytmahjgffadbdcaa.okS, ha.okM, hb.okM, decide_eq_true (ha.perm.trans hb.perm.symm)]; rfl
theorem RM.nd {R A : List Int} (h : RM R A) : A.Nodup := (h.ok.perm h.perm).nd
theorem RM.triangle {R A B C : List Int} (ha : RM R A) (hb : RM R B) (hc : RM R C) : swapsV A C ≤ swapsV A B + swapsV B C := by
  rw [swaps_disc C ha.nd ha.perm, swaps_disc B ha.nd ha.perm, swaps_disc C hb.nd hb.perm]
  exact disc_triangle A C fun p hp => hb.perm.symm.subset hp
theorem RM.rev {R A : List Int} (h : RM R A) : RM R A.reverse := ⟨h.asc, h.ok, (List.reverse_perm A).trans h.perm⟩
theorem RM.far {R A : List Int} (h : RM R A) : 2 * swapsV A A.reverse = A.length * (A.length - 1) := by
  rw [swaps_disc A.reverse h.nd h.perm, turned_far h.nd h.perm, ordered_eq h.rev.nd h.rev.perm, h.len]
theorem RM.rest {R A B : List Int} (ha : RM R A) (hb : RM R B) : 2 * (swapsV A.reverse B + swapsV A B) = A.length * (A.length - 1) := by
  rw [swaps_disc B ha.rev.nd ha.rev.perm, swaps_disc B ha.nd ha.perm, turned_rest ha.nd ha.perm B, ordered_eq hb.nd hb.perm, ha.len]

def nearV (A : List Int) (i : Nat) : List Int := A.take i ++ A.getD (i + 1) 0 :: A.getD i 0 :: A.drop (i + 2)
theorem split_at {A : List Int} {i : Nat} (h : i + 1 < A.length) : A = A.take i ++ A.getD i 0 :: A.getD (i + 1) 0 :: A.drop (i + 2) := by
  conv => lhs; rw [← List.take_append_drop i A]
  rw [List.drop_eq_getElem_cons (show i < A.length by omega), List.drop_eq_getElem_cons h, getD_get h, getD_get (show i < A.length by omega)]
theorem near_perm {A : List Int} {i : Nat} (h : i + 1 < A.length) : (nearV A i).Perm A := by
  conv => rhs; rw [split_at h]
  exact List.Perm.append_left _ (List.Perm.swap _ _ _)
theorem near_row {A : List Int} {i : Nat} (h : i + 1 < A.length) (j : Nat) (hj : j < A.length) : swapF (fun j => A.getD j 0) i (i + 1) j = (nearV A i).getD j 0 := by
  unfold swapF nearV
  rw [List.getD_eq_getElem?_getD (l := A.take i ++ _)]
  rcases Nat.lt_trichotomy j i with h1 | rfl | h1
  · rw [if_neg (by omega), if_neg (by omega), List.getElem?_append_left (by rw [List.length_take]; omega), List.getElem?_take_of_lt h1]
    exact List.getD_eq_getElem?_getD ..
  · rw [if_neg (by omega), if_pos rfl, List.getElem?_append_right (by rw [List.length_take]; omega), List.length_take, show j - min j A.length = 0 by omega]; rfl
  · rw [List.getElem?_append_right (by rw [List.length_take]; omega), List.length_take]
    by_cases h2 : j = i + 1
    · subst h2
      rw [if_pos rfl, show i + 1 - min i A.length = 1 by omega]; rfl
    · rw [if_neg h2, if_neg (by omega), show j - min i A.length = (j - i - 2) + 1 + 1 by omega, List.getElem?_cons_succ, List.getElem?_cons_succ, List.getElem?_drop, show i + 2 + (j - i - 2) = j by omega]
      exact List.getD_eq_getElem?_getD ..
theorem RM.near {R A : List Int} (h : RM R A) {i : Nat} (hi : i + 1 < A.length) : RM R (nearV A i) := ⟨h.asc, h.ok, (near_perm hi).trans h.perm⟩
theorem near_swaps {A B : List Int} {i : Nat} (hA : A.Nodup) (hAB : A.Perm B) (h : i + 1 < A.length) : swapsV (nearV A i) B = swapsV A B + 1 ∨ swapsV A B = swapsV (nearV A i) B + 1 := by
  have e1 : swapsV A B = inv ((A.take i).map B.idxOf ++ B.idxOf (A.getD i 0) :: B.idxOf (A.getD (i + 1) 0) :: (A.drop (i + 2)).map B.idxOf) := by
    conv => lhs; rw [swapsV, split_at h]
    simp
  have e2 : swapsV (nearV A i) B = inv ((A.take i).map B.idxOf ++ B.idxOf (A.getD (i + 1) 0) :: B.idxOf (A.getD i 0) :: (A.drop (i + 2)).map B.idxOf) := by
    rw [swapsV, nearV]; simp
  have hne : B.idxOf (A.getD i 0) ≠ B.idxOf (A.getD (i + 1) 0) := by
    rw [getD_get h, getD_get (show i < A.length by omega)]
    intro e
    have := idx_inj (hAB.subset (List.getElem_mem _)) e
    exact List.pairwise_iff_getElem.1 hA i (i + 1) (by omega) h (by omega) this
  rw [e1, e2]
  exact inv_near _ _ _ _ hne
theorem near_one {A : List Int} {i : Nat} (hA : A.Nodup) (h : i + 1 < A.length) : swapsV A (nearV A i) = 1 := by
  rw [swaps_comm ((near_perm h).nodup_iff.2 hA) (near_perm h).symm]
  have h0 : swapsV A A = 0 := (swaps_zero hA (List.Perm.refl _)).2 rfl
  rcases near_swaps hA (List.Perm.refl A) h with h1 | h1 <;> omega
end Go.Proofs.Ytmahjgffadbdcaa
