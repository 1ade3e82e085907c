/- Plain laws for QuotaNever: the least account that is wrong. -/
import Derived.Test.YtppfhcocmpmadaaB9
namespace Go.Proofs.Ytppfhcocmpmadaa
open Go.RowKit
set_option linter.unusedVariables false

/-- The least account below k that is wrong, or -1. -/
def lsK (L V : Nat → Int) : Nat → Int
  | 0 => -1
  | k + 1 => if lsK L V k < 0 ∧ (V k < 0 ∨ L k < V k) then (k : Int) else lsK L V k
theorem failAt_iff {l u : Int} : failAt l u = 0 ↔ 0 ≤ u ∧ u ≤ l := by
  unfold failAt
  by_cases h1 : l < u
  · rw [if_pos h1]; exact ⟨fun h => absurd h (by decide), fun h => by omega⟩
  · rw [if_neg h1]
    by_cases h2 : u < 0
    · rw [if_pos h2]; exact ⟨fun h => absurd h (by decide), fun h => by omega⟩
    · rw [if_neg h2]; exact ⟨fun _ => ⟨by omega, by omega⟩, fun _ => rfl⟩
theorem lsK_bad {L V : Nat → Int} {k : Nat} (h : lsK L V k < 0) (hb : V k < 0 ∨ L k < V k) : lsK L V (k + 1) = k := by rw [lsK, if_pos ⟨h, hb⟩]
theorem lsK_ok {L V : Nat → Int} {k : Nat} (hb : 0 ≤ V k ∧ V k ≤ L k) : lsK L V (k + 1) = lsK L V k := by rw [lsK, if_neg (by omega)]
theorem lsK_had {L V : Nat → Int} {k : Nat} (h : 0 ≤ lsK L V k) : lsK L V (k + 1) = lsK L V k := by rw [lsK, if_neg (by omega)]
theorem lsK_fails (L V : Nat → Int) : ∀ k, k ≤ 4 → (lsK L V k = -1 ∧ failsV L V = failsF L V (4 - k)) ∨ (0 ≤ lsK L V k ∧ (failsV L V).1 = lsK L V k ∧ ∃ j : Nat, j < 4 ∧ lsK L V k = j ∧ (failsV L V).2 = failAt (L j) (V j) ∧ ¬ failAt (L j) (V j) = 0) := by
  intro k
  induction k with
  | zero => intro _; exact .inl ⟨rfl, rfl⟩
  | succ k ih =>
    intro hk
    rcases ih (by omega) with ⟨h1, h2⟩ | ⟨h1, h2, j, hj, h3, h4, h5⟩
    · by_cases hb : failAt (L k) (V k) = 0
      · refine .inl ⟨by rw [lsK_ok (failAt_iff.1 hb)]; exact h1, h2.trans (failsF_no (by omega) hb)⟩
      · have hbad : V k < 0 ∨ L k < V k := by
          have := mt failAt_iff.2 hb
          omega
        have hl := lsK_bad (by omega : lsK L V k < 0) hbad
        have hf := h2.trans (failsF_yes (by omega) hb)
        rw [hl]
        exact .inr ⟨by omega, by rw [hf], k, by omega, rfl, by rw [hf], hb⟩
    · have hl := lsK_had h1
      rw [hl]
      exact .inr ⟨h1, h2, j, hj, h3, h4, h5⟩
/-- All accounts in order: there is no least one. -/
theorem lsK_none {L V : Nat → Int} (h : (failsV L V).2 = 0) : lsK L V 4 = -1 := by
  rcases lsK_fails L V 4 (by omega) with ⟨h1, _⟩ | ⟨_, _, j, _, _, h4, h5⟩
  · exact h1
  · exact absurd (h4.symm.trans h) h5
theorem lsK_some {L V : Nat → Int} (h : ¬ (failsV L V).2 = 0) : ∃ j : Nat, j < 4 ∧ lsK L V 4 = j ∧ (failsV L V).1 = j ∧ (failsV L V).2 = failAt (L j) (V j) ∧ ¬ failAt (L j) (V j) = 0 := by
  rcases lsK_fails L V 4 (by omega) with ⟨_, h2⟩ | ⟨_, h2, j, hj, h3, h4, h5⟩
  · rw [h2] at h; exact absurd rfl h
  · exact ⟨j, hj, h3, h2.trans h3, h4, h5⟩
theorem fails_right {L V : Nat → Int} (hL : ∀ j, j < 4 → 0 ≤ L j ∧ L j ≤ 29) (h : (failsV L V).2 = 0) : rightB L V = true := right_iff.2 fun j hj => by
  have h1 := hL j hj
  have h2 := failAt_iff.1 (fails_ok.1 h j hj)
  omega
/-- If all charges can be done one by one, then at once too. -/
theorem steps_all {L U : Nat → Int} (hr : rightB L U = true) (cs : List (Int × Int)) (h : StepAt L (useK U cs) cs.length cs.length) : (failsV L (useK U cs cs.length)).2 = 0 := by
  by_cases h0 : cs.length = 0
  · rw [h0, useK_zero]
    exact fails_ok.2 fun j hj => by have := right_iff.1 hr j hj; exact failAt_ok (by omega) (by omega)
  · have := h.ok (cs.length - 1) (by omega)
    rwa [show cs.length - 1 + 1 = cs.length from by omega] at this
theorem useK_sum (U : Nat → Int) (cs : List (Int × Int)) (k j : Nat) : U j + useK zf cs k j = useK U cs k j := by
  simp [useK, zf]
theorem useK_small {U : Nat → Int} {cs : List (Int × Int)} (hc : MC cs) (hU : ∀ j, j < 4 → 0 ≤ U j ∧ U j ≤ 29) : ∀ k j, k ≤ cs.length → j < 4 → -(6 * (k : Int)) ≤ useK U cs k j ∧ useK U cs k j ≤ 29 + 6 * (k : Int) := by
  intro k
  induction k with
  | zero => intro j _ hj; rw [useK_zero]; have := hU j hj; omega
  | succ k ih =>
    intro j hk hj
    rw [useK_succ U cs k (by omega) j]
    have := ih j (by omega) hj
    have := hc.amount _ (List.getElem_mem (by omega : k < cs.length))
    split <;> omega
end Go.Proofs.Ytppfhcocmpmadaa
