/- Plain laws of picks: the order that they make, the fewest that make an order. -/
import Derived.Test.YtmahjgffadbdcaaPL1
namespace Go.Proofs.Ytmahjgffadbdcaa

/-- Which one comes next (its place), how many picks that takes, how many of these are wrong. -/
def pickI (S ps : List Int) : Nat × Nat × Nat :=
  if 1 < S.length then
    match ps with
    | [] => (0, 0, 0)
    | p :: _ => if p ∈ S then (S.idxOf p, 1, 0) else (0, 1, 1)
  else (0, 0, 0)
def ordV : Nat → List Int → List Int → List Int × Nat × Nat
  | 0, _, _ => ([], 0, 0)
  | n + 1, S, ps =>
    (S.getD (pickI S ps).1 0 :: (ordV n (S.eraseIdx (pickI S ps).1) (ps.drop (pickI S ps).2.1)).1,
     (pickI S ps).2.1 + (ordV n (S.eraseIdx (pickI S ps).1) (ps.drop (pickI S ps).2.1)).2.1,
     (pickI S ps).2.2 + (ordV n (S.eraseIdx (pickI S ps).1) (ps.drop (pickI S ps).2.1)).2.2)

theorem ord_succ {n : Nat} (S ps : List Int) : ordV (n + 1) S ps = (S.getD (pickI S ps).1 0 :: (ordV n (S.eraseIdx (pickI S ps).1) (ps.drop (pickI S ps).2.1)).1,
     (pickI S ps).2.1 + (ordV n (S.eraseIdx (pickI S ps).1) (ps.drop (pickI S ps).2.1)).2.1,
     (pickI S ps).2.2 + (ordV n (S.eraseIdx (pickI S ps).1) (ps.drop (pickI S ps).2.1)).2.2) := rfl

theorem pick_lt {S : List Int} (ps : List Int) (h : 0 < S.length) : (pickI S ps).1 < S.length := by
  unfold pickI
  split
  · split
    · exact h
    · split
      · exact List.idxOf_lt_length_of_mem (by assumption)
      · exact h
  · exact h
theorem pick_wrong (S ps : List Int) : (pickI S ps).2.2 ≤ (pickI S ps).2.1 := by
  unfold pickI
  split
  · split
    · exact Nat.le_refl _
    · split <;> simp
  · exact Nat.le_refl _
theorem pick_taken (S ps : List Int) : (pickI S ps).2.1 = if 1 < S.length then min ps.length 1 else 0 := by
  unfold pickI
  split
  · split
    · rfl
    · split <;> simp
  · rfl
theorem ord_perm : ∀ (n : Nat) (S ps : List Int), S.length = n → (ordV n S ps).1.Perm S
  | 0, S, _, h => by obtain rfl := List.length_eq_zero_iff.1 h; exact List.Perm.refl _
  | n + 1, S, ps, h => by
    have hi := pick_lt ps (show 0 < S.length by omega)
    have hl : (S.eraseIdx (pickI S ps).1).length = n := by rw [List.length_eraseIdx, if_pos hi]; omega
    have hg : S.getD (pickI S ps).1 0 = S[(pickI S ps).1] := by simp [List.getD, List.getElem?_eq_getElem hi]
    simp only [ordV, hg]
    exact ((ord_perm n _ _ hl).cons _).trans (perm_eraseIdx _ hi)
theorem ord_wrong : ∀ (n : Nat) (S ps : List Int), (ordV n S ps).2.2 ≤ (ordV n S ps).2.1
  | 0, _, _ => Nat.le_refl _
  | n + 1, S, ps => Nat.add_le_add (pick_wrong S ps) (ord_wrong n _ _)
theorem ord_taken : ∀ (n : Nat) (S ps : List Int), S.length = n → (ordV n S ps).2.1 = min ps.length (n - 1)
  | 0, _, _, _ => by simp [ordV]
  | n + 1, S, ps, h => by
    have hi := pick_lt ps (show 0 < S.length by omega)
    have hl : (S.eraseIdx (pickI S ps).1).length = n := by rw [List.length_eraseIdx, if_pos hi]; omega
    have ih := ord_taken n (S.eraseIdx (pickI S ps).1) (ps.drop (pickI S ps).2.1) hl
    simp only [ordV]
    rw [ih, List.length_drop, pick_taken, h]
    split <;> omega

/-- Only as many picks as are taken matter. -/
theorem ord_take : ∀ (n : Nat) (S ps : List Int), S.length = n → ordV n S (ps.take (n - 1)) = ordV n S ps
  | 0, _, _, _ => rfl
  | 1, S, ps, h => by simp [ordV, pickI, h]
  | n + 2, S, ps, h => by
    have hp : pickI S (ps.take (n + 2 - 1)) = pickI S ps := by cases ps <;> simp [pickI]
    have hi := pick_lt ps (show 0 < S.length by omega)
    have hl : (S.eraseIdx (pickI S ps).1).length = n + 1 := by rw [List.length_eraseIdx, if_pos hi]; omega
    have ht := pick_taken S ps
    rw [h, if_pos (by omega)] at ht
    rw [ord_succ, ord_succ S ps, hp]
    have ih := ord_take (n + 1) (S.eraseIdx (pickI S ps).1) (ps.drop (pickI S ps).2.1) hl
    have e : (ps.take (n + 2 - 1)).drop (pickI S ps).2.1 = (ps.drop (pickI S ps).2.1).take (n + 1 - 1) := by
      cases ps with
      | nil => simp
      | cons p t => rw [ht]; simp [List.drop_take]
    rw [e, ih]
theorem ord_taken_take {n : Nat} {S ps : List Int} (h : S.length = n) : ordV n S (ps.take (ordV n S ps).2.1) = ordV n S ps := by
  rw [ord_taken n S ps h]
  have : ps.take (min ps.length (n - 1)) = ps.take (n - 1) := by rw [List.take_eq_take_iff]; omega
  rw [this, ord_take n S ps h]
theorem ord_behind {n : Nat} {S ps more : List Int} (h : S.length = n) (ht : (ordV n S ps).2.1 = n - 1) : ordV n S (ps.take (ordV n S ps).2.1 ++ more) = ordV n S ps := by
  have hl := ord_taken n S ps h
  have h2 : (ps.take (n - 1)).length = n - 1 := by rw [List.length_take]; omega
  rw [ht, ← ord_take n S _ h, List.take_append_of_le_length (by omega), List.take_of_length_le (by omega), ord_take n S ps h]

/-- How many picks are needed. -/
def needV : List Int → Nat
  | [] => 0
  | p :: t => if needV t = 0 then if t.all (fun q => decide (p < q)) then 0 else 1 else needV t + 1
theorem need_lt : ∀ (l : List Int), needV l ≤ l.length - 1
  | [] => by decide
  | [p] => by simp [needV]
  | p :: q :: t => by
    have := need_lt (q :: t)
    rw [needV]
    simp only [List.length_cons] at *
    split
    · split <;> omega
    · omega

theorem ord_iff : ∀ (n : Nat) (l S : List Int) (k : Nat), asc S → l.Perm S → S.length = n →
    ((ordV n S (l.take k)).1 = l ↔ needV l ≤ k) ∧ (ordV n S (l.take k)).2.2 = 0
  | 0, l, S, k, _, hp, hl => by
    obtain rfl := List.length_eq_zero_iff.1 hl
    obtain rfl := hp.eq_nil
    simp [ordV, needV]
  | n + 1, [], S, k, _, hp, hl => by have := hp.length_eq; simp at this; omega
  | n + 1, p :: t, S, k, hS, hp, hl => by
    have hps : p ∈ S := hp.subset (by simp)
    have hix : S.idxOf p < S.length := List.idxOf_lt_length_of_mem hps
    have hat : S[S.idxOf p] = p := List.getElem_idxOf hix
    have hte : t.Perm (S.eraseIdx (S.idxOf p)) := by
      have := perm_eraseIdx (S := S) (S.idxOf p) hix
      rw [hat] at this
      exact (hp.trans this.symm).cons_inv
    have hle : (S.eraseIdx (S.idxOf p)).length = n := by rw [List.length_eraseIdx, if_pos hix]; omega
    -- the pick, taken or not
    have key : pickI S ((p :: t).take k) = (S.idxOf p, min k (if 1 < S.length then 1 else 0), 0) ∨ (k = 0 ∧ 1 < S.length ∧ pickI S ((p :: t).take k) = (0, 0, 0)) := by
      unfold pickI
      by_cases h1 : 1 < S.length
      · cases k with
        | zero => right; simp [h1]
        | succ k => left; simp [h1, hps]
      · left
        have : S.idxOf p = 0 := by omega
        rw [if_neg h1, if_neg h1, this]; simp
    rcases key with key | ⟨rfl, h1, key⟩
    · have hg : S.getD (S.idxOf p) 0 = p := by simp [List.getD, List.getElem?_eq_getElem hix, hat]
      simp only [ordV, key, hg]
      have hd : ((p :: t).take k).drop (min k (if 1 < S.length then 1 else 0)) = t.take (k - 1) ∨ t = [] := by
        by_cases h1 : 1 < S.length
        · left
          rw [if_pos h1]
          cases k with
          | zero => simp
          | succ k => simp
        · right
          have := hp.length_eq
          simp only [List.length_cons] at this
          exact List.length_eq_zero_iff.1 (by omega)
      rcases hd with hd | rfl
      · obtain ⟨ih1, ih2⟩ := ord_iff n t (S.eraseIdx (S.idxOf p)) (k - 1) (hS.erase _) hte hle
        rw [hd]
        refine ⟨?_, by omega⟩
        rw [List.cons.injEq, ih1]
        have hk : k = 0 → ¬ 1 < S.length ∨ S.idxOf p = 0 := by
          rintro rfl
          by_cases h1 : 1 < S.length
          · right
            simp [pickI, h1] at key
            exact key.symm
          · exact .inl h1
        rw [needV]
        cases k with
        | zero =>
          have h0 := hk rfl
          have hz : t.all (fun q => decide (p < q)) = true := by
            rcases h0 with h0 | h0
            · have : t = [] := by
                have := hp.length_eq
                simp only [List.length_cons] at this
                exact List.length_eq_zero_iff.1 (by omega)
              subst this; rfl
            · cases S with
              | nil => simp at hps
              | cons s S =>
                have hs : s = p := by
                  have := hat
                  simp only [h0, List.getElem_cons_zero] at this
                  exact this
                subst hs
                refine List.all_eq_true.2 fun q hq => ?_
                have hq' : q ∈ S := hp.cons_inv.subset hq
                simpa using hS.head q hq'
          rw [hz]
          by_cases hn : needV t = 0
          · simp [hn]
          · simp [hn]
        | succ k =>
          by_cases hn : needV t = 0
          · rw [if_pos hn]; simp [hn]; split <;> omega
          · rw [if_neg hn]; simp
      · obtain rfl : n = 0 := by simpa using hp.length_eq.trans hl |>.symm
        simp [ordV, needV]
    · simp only [ordV, key]
      cases S with
      | nil => simp at hps
      | cons s S =>
        simp only [List.getD_cons_zero, List.take_zero, List.drop_zero, List.eraseIdx_cons_zero]
        by_cases e : s = p
        · subst e
          have ht : t.Perm S := hp.cons_inv
          obtain ⟨ih1, ih2⟩ := ord_iff n t S 0 hS.tail ht (by simpa using hl)
          rw [List.take_zero] at ih1 ih2
          refine ⟨?_, by omega⟩
          rw [List.cons.injEq, ih1, needV]
          have hz : t.all (fun q => decide (s < q)) = true := List.all_eq_true.2 fun q hq => by simpa using hS.head q (ht.subset hq)
          rw [hz]
          by_cases hn : needV t = 0
          · simp [hn]
          · simp [hn]
        · obtain ⟨_, ih2⟩ := ord_iff n (S) S 0 hS.tail (List.Perm.refl _) (by simpa using hl)
          rw [List.take_zero] at ih2
          refine ⟨?_, by omega⟩
          rw [List.cons.injEq]
          have hz : t.all (fun q => decide (p < q)) = false := by
            rw [← Bool.not_eq_true, List.all_eq_true]
            intro hall
            have hst : s ∈ t := by
              have : s ∈ p :: t := hp.symm.subset (by simp)
              simpa [e] using this
            have h1 := hall s hst
            have h2 : p ∈ S := by simpa [Ne.symm e] using hps
            have h3 := hS.head p h2
            simp at h1; omega
          rw [needV, hz]
          by_cases hn : needV t = 0
          · simp [hn, e]
          · simp [hn, e]
end Go.Proofs.Ytmahjgffadbdcaa
