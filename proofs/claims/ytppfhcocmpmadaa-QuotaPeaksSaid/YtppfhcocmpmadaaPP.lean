/- Plain laws for QuotaPeaks: the greatest numbers on the way. -/
import Derived.Test.YtppfhcocmpmadaaC0
import Derived.Test.YtppfhcocmpmadaaPN
import Derived.Test.YtppfhcocmpmadaaA9
namespace Go.Proofs.Ytppfhcocmpmadaa
open Go.RowKit
set_option linter.unusedVariables false

theorem peakK_ge (U : Nat → Nat → Int) : ∀ n k j, k ≤ n → U k j ≤ peakK U n j := by
  intro n
  induction n with
  | zero => intro k j hk; obtain rfl : k = 0 := by omega
            exact Int.le_refl _
  | succ n ih =>
    intro k j hk
    simp only [peakK]
    by_cases h : k = n + 1
    · subst h; omega
    · have := ih k j (by omega); omega
theorem peakK_at (U : Nat → Nat → Int) : ∀ n j, ∃ k, k ≤ n ∧ peakK U n j = U k j := by
  intro n
  induction n with
  | zero => intro j; exact ⟨0, Nat.le_refl _, rfl⟩
  | succ n ih =>
    intro j
    obtain ⟨k, hk, e⟩ := ih j
    simp only [peakK]
    by_cases h : peakK U n j ≤ U (n + 1) j
    · exact ⟨n + 1, Nat.le_refl _, by omega⟩
    · exact ⟨k, by omega, by omega⟩
theorem failAt_cases (l u : Int) : failAt l u = 0 ∨ failAt l u = 252 ∨ failAt l u = 253 := by
  unfold failAt
  by_cases h1 : l < u
  · rw [if_pos h1]; exact .inr (.inl rfl)
  · rw [if_neg h1]
    by_cases h2 : u < 0
    · rw [if_pos h2]; exact .inr (.inr rfl)
    · rw [if_neg h2]; exact .inl rfl
theorem failAt_under {l u : Int} (h : u ≤ l) (h0 : ¬ failAt l u = 0) : failAt l u = 253 ∧ u < 0 := by
  unfold failAt at *
  rw [if_neg (by omega)] at *
  by_cases h2 : u < 0
  · rw [if_pos h2]; exact ⟨rfl, h2⟩
  · rw [if_neg h2] at h0; exact absurd rfl h0
theorem failAt_over {l u : Int} (h : 0 ≤ u) (h0 : ¬ failAt l u = 0) : failAt l u = 252 := by
  unfold failAt at *
  by_cases h1 : l < u
  · rw [if_pos h1]
  · rw [if_neg h1, if_neg (by omega)] at h0; exact absurd rfl h0
/-- What the book of peaks is: limits up to some account are the peaks. -/
def wd (P L : Nat → Int) (k : Nat) : Nat → Int := fun j => if j < k then P j else L j
theorem wd_zero (P L : Nat → Int) : wd P L 0 = L := by funext j; simp [wd]
theorem wd_step (P L : Nat → Int) (k : Nat) : upd (wd P L k) k (P k) = wd P L (k + 1) := by
  funext j
  unfold upd wd
  by_cases e : j = k
  · rw [if_pos e, if_pos (by omega), e]
  · rw [if_neg e]
    by_cases h : j < k
    · rw [if_pos h, if_pos (by omega)]
    · rw [if_neg h, if_neg (by omega)]
theorem wd_four (P L U : Nat → Int) : bk (wd P L 4) U = bk P U := by simp [bk, wd]
structure PK (L U P : Nat → Int) (cs : List (Int × Int)) : Prop where
  m : MB L U
  c : MC cs
  p : peakK (useK U cs) cs.length = P
theorem PK.ge {L U P : Nat → Int} {cs : List (Int × Int)} (h : PK L U P cs) (j : Nat) : U j ≤ P j := by
  have := peakK_ge (useK U cs) cs.length 0 j (Nat.zero_le _)
  rw [h.p, useK_zero] at this
  exact this
theorem PK.le {L U P : Nat → Int} {cs : List (Int × Int)} (h : PK L U P cs) (j : Nat) (hj : j < 4) : P j ≤ 389 := by
  obtain ⟨k, hk, e⟩ := peakK_at (useK U cs) cs.length j
  rw [h.p] at e
  have := useK_small h.c (fun j hj => ⟨(h.m.use j hj).1, by have := h.m.use j hj; have := h.m.lim j hj; omega⟩) k j hk hj
  have := h.c.len
  omega
theorem PK.right {L U P : Nat → Int} {cs : List (Int × Int)} (h : PK L U P cs) (k : Nat) : rightB (wd P L k) U = true := right_iff.2 fun j hj => by
  have h1 := h.ge j
  have h2 := h.le j hj
  have h3 := h.m.lim j hj
  have h4 := h.m.use j hj
  unfold wd
  by_cases e : j < k
  · rw [if_pos e]; omega
  · rw [if_neg e]; omega
theorem PK.rightP {L U P : Nat → Int} {cs : List (Int × Int)} (h : PK L U P cs) : rightB P U = true := right_iff.2 fun j hj => by
  have h1 := h.ge j
  have h2 := h.le j hj
  have h4 := h.m.use j hj
  omega
theorem PK.use_le {L U P : Nat → Int} {cs : List (Int × Int)} (h : PK L U P cs) (k j : Nat) (hk : k ≤ cs.length) : useK U cs k j ≤ P j := by
  have := peakK_ge (useK U cs) cs.length k j hk
  rwa [h.p] at this
/-- With limits as great as the peaks: the one that cannot be done gives back too much. -/
theorem PK.under {L U P : Nat → Int} {cs : List (Int × Int)} (h : PK L U P cs) {K : Nat} (hK : StepAt P (useK U cs) cs.length K) (hn : K < cs.length) : (failsV P (useK U cs (K + 1))).2 = 253 ∧ ∃ i, i < 4 ∧ useK U cs (K + 1) i < 0 := by
  obtain ⟨i, hi, -, -, e, h0⟩ := lsK_some (hK.bad hn)
  obtain ⟨h1, h2⟩ := failAt_under (h.use_le (K + 1) i hn) h0
  exact ⟨e.trans h1, i, hi, h2⟩
theorem PK.tightRight {L U P : Nat → Int} {cs : List (Int × Int)} (h : PK L U P cs) (j : Nat) (hj : j < 4) (hlt : U j < P j) : rightB (upd P j (P j - 1)) U = true := right_iff.2 fun i hi => by
  have h1 := h.ge i
  have h2 := h.le i hi
  have h4 := h.m.use i hi
  unfold upd
  by_cases e : i = j
  · subst e; rw [if_pos rfl]; omega
  · rw [if_neg e]; omega
/-- All can be done with the peaks: with one limit 1 less, one charge is too much. -/
theorem PK.over {L U P : Nat → Int} {cs : List (Int × Int)} (h : PK L U P cs) (hA : StepAt P (useK U cs) cs.length cs.length) (j : Nat) (hj : j < 4) (hlt : U j < P j) {K : Nat} (hK : StepAt (upd P j (P j - 1)) (useK U cs) cs.length K) :
    K < cs.length ∧ (failsV (upd P j (P j - 1)) (useK U cs (K + 1))).2 = 252 := by
  have hpos : ∀ k i, k ≤ cs.length → i < 4 → 0 ≤ useK U cs k i := fun k i hk hi => by
    cases k with
    | zero => rw [useK_zero]; exact (h.m.use i hi).1
    | succ k => exact (failAt_iff.1 (fails_ok.1 (hA.ok k hk) i hi)).1
  have hlt' : K < cs.length := by
    refine Decidable.byContradiction fun hc => ?_
    obtain rfl : K = cs.length := by have := hK.le; omega
    obtain ⟨k, hk, e⟩ := peakK_at (useK U cs) cs.length j
    rw [h.p] at e
    cases k with
    | zero => rw [useK_zero] at e; omega
    | succ k =>
      have := (failAt_iff.1 (fails_ok.1 (hK.ok k hk) j hj)).2
      simp only [upd, if_pos] at this
      omega
  refine ⟨hlt', ?_⟩
  obtain ⟨i, hi, -, -, e, h0⟩ := lsK_some (hK.bad hlt')
  exact e.trans (failAt_over (hpos (K + 1) i hlt' hi) h0)
theorem PK.tight {L U P : Nat → Int} {cs : List (Int × Int)} (h : PK L U P cs) {i k : Nat} (hi : i < 4) (hk : k < cs.length) (hneg : useK U cs (k + 1) i < 0) {Q : Nat → Int} {K : Nat} (hK : StepAt Q (useK U cs) cs.length K) :
    K < cs.length ∧ ((failsV Q (useK U cs (K + 1))).2 = 252 ∨ (failsV Q (useK U cs (K + 1))).2 = 253) := by
  have hlt' : K < cs.length := by
    refine Decidable.byContradiction fun hc => ?_
    obtain rfl : K = cs.length := by have := hK.le; omega
    have := (failAt_iff.1 (fails_ok.1 (hK.ok k hk) i hi)).1
    omega
  refine ⟨hlt', ?_⟩
  obtain ⟨i, hi, -, -, e, h0⟩ := lsK_some (hK.bad hlt')
  rcases failAt_cases (Q i) (useK U cs (K + 1) i) with h1 | h1 | h1
  · exact absurd h1 h0
  · exact .inl (e.trans h1)
  · exact .inr (e.trans h1)
end Go.Proofs.Ytppfhcocmpmadaa
