/- Plain facts on words: division. -/
import Derived.Test.YtbmommomhepfpaaW6
namespace Go.Proofs.Ytbmommomhepfpaa

theorem ti (x : BitVec 64) : -9223372036854775808 ≤ x.toInt ∧ x.toInt ≤ 9223372036854775807 := by
  have h1 := BitVec.toInt_lt (x := x)
  have h2 := BitVec.le_toInt (x := x)
  omega
theorem toInt_zero' : (0#64).toInt = 0 := by decide
theorem ne_zero' {b : BitVec 64} (h : ¬ b = 0#64) : b.toInt ≠ 0 := toInt_ne_zero h
theorem neg_ti (x : BitVec 64) (h : x.toInt ≠ -9223372036854775808) : (-x).toInt = -x.toInt := by
  have := ti x
  rw [BitVec.toInt_neg, Int.bmod_eq_of_le (by omega) (by omega)]
theorem add_ti (x y : BitVec 64) (h1 : -9223372036854775808 ≤ x.toInt + y.toInt) (h2 : x.toInt + y.toInt ≤ 9223372036854775807) : (x + y).toInt = x.toInt + y.toInt := by
  rw [BitVec.toInt_add, Int.bmod_eq_of_le (by omega) (by omega)]
theorem sub_ti (x y : BitVec 64) (h1 : -9223372036854775808 ≤ x.toInt - y.toInt) (h2 : x.toInt - y.toInt ≤ 9223372036854775807) : (x - y).toInt = x.toInt - y.toInt := by
  rw [BitVec.toInt_sub, Int.bmod_eq_of_le (by omega) (by omega)]

theorem sdiv_srem (a b : BitVec 64) : a.sdiv b * b + a.srem b = a := by
  have h1 : a.sdiv b = BitVec.ofInt 64 (a.toInt.tdiv b.toInt) := by
    apply BitVec.eq_of_toInt_eq
    rw [BitVec.toInt_sdiv, BitVec.toInt_ofInt]
  have h2 : a.srem b = BitVec.ofInt 64 (a.toInt.tmod b.toInt) := by
    apply BitVec.eq_of_toInt_eq
    rw [BitVec.toInt_ofInt, ← BitVec.toInt_srem]
    have := ti (a.srem b)
    rw [Int.bmod_eq_of_le (by omega) (by omega)]
  have h3 : b = BitVec.ofInt 64 b.toInt := BitVec.ofInt_toInt.symm
  rw [h1, h2]
  conv => lhs; lhs; rhs; rw [h3]
  rw [← BitVec.ofInt_mul, ← BitVec.ofInt_add, Int.tdiv_mul_add_tmod, BitVec.ofInt_toInt]

theorem rem_facts (a b : BitVec 64) (hb : b.toInt ≠ 0) : (0 ≤ a.toInt → 0 ≤ (a.srem b).toInt) ∧ (a.toInt ≤ 0 → (a.srem b).toInt ≤ 0) ∧
    (0 < b.toInt → (a.srem b).toInt < b.toInt ∧ -b.toInt < (a.srem b).toInt) ∧ (b.toInt < 0 → (a.srem b).toInt < -b.toInt ∧ b.toInt < (a.srem b).toInt) := by
  rw [BitVec.toInt_srem]
  generalize a.toInt = A
  generalize b.toInt = B at *
  have h1 : 0 ≤ A → 0 ≤ A.tmod B := fun h => Int.tmod_nonneg B h
  have h2 : A ≤ 0 → A.tmod B ≤ 0 := fun h => by
    have := Int.tmod_nonneg B (show 0 ≤ -A by omega)
    rw [Int.neg_tmod] at this; omega
  have h3 : (A.tmod B).natAbs < B.natAbs := by rw [Int.natAbs_tmod]; exact Nat.mod_lt _ (by omega)
  refine ⟨h1, h2, fun h => by omega, fun h => by omega⟩

theorem mod_facts (a b : BitVec 64) (hb : b.toInt ≠ 0) : 0 ≤ (modV a b).toInt ∧ (0 < b.toInt → (modV a b).toInt < b.toInt) ∧ (b.toInt < 0 → (modV a b).toInt < -b.toInt) := by
  obtain ⟨-, -, f3, f4⟩ := rem_facts a b hb
  have hB := ti b
  unfold modV
  split
  · rename_i h
    rw [BitVec.sle, decide_eq_true_eq, toInt_zero'] at h
    refine ⟨h, fun h => (f3 h).1, fun h => (f4 h).1⟩
  · rename_i h
    rw [BitVec.sle, decide_eq_true_eq, toInt_zero'] at h
    split
    · rename_i h2
      rw [BitVec.slt, decide_eq_true_eq, toInt_zero'] at h2
      have := f4 h2
      rw [sub_ti _ _ (by omega) (by omega)]
      omega
    · rename_i h2
      rw [BitVec.slt, decide_eq_true_eq, toInt_zero'] at h2
      have := f3 (by omega)
      rw [add_ti _ _ (by omega) (by omega)]
      omega

theorem mod_neg (a b : BitVec 64) (hb : b.toInt ≠ 0) : modV a (0#64 - b) = modV a b := by
  have hB := ti b
  have hn : 0#64 - b = -b := by grind
  rw [hn]
  by_cases hm : b.toInt = -9223372036854775808
  · have : b = BitVec.intMin 64 := BitVec.eq_of_toInt_eq (by rw [hm]; decide)
    rw [this, BitVec.neg_intMin]
  · have hnb := neg_ti b hm
    have hs : a.srem (-b) = a.srem b := by
      apply BitVec.eq_of_toInt_eq
      rw [BitVec.toInt_srem, BitVec.toInt_srem, hnb, Int.tmod_neg]
    unfold modV
    rw [hs]
    have e1 : (-b).slt 0#64 = !(b.slt 0#64) := by
      rw [BitVec.slt, BitVec.slt, hnb, toInt_zero']
      by_cases h : b.toInt < 0
      · rw [decide_eq_true h, decide_eq_false (by omega)]; rfl
      · rw [decide_eq_false h, decide_eq_true (by omega)]; rfl
    rw [e1]
    cases b.slt 0#64
    · simp only [Bool.not_false, Bool.false_eq_true, if_true, if_false]
      split
      · rfl
      · grind
    · simp only [Bool.not_true, Bool.false_eq_true, if_true, if_false]
      split
      · rfl
      · grind

theorem div_exact (a b : BitVec 64) (h : ¬ a = 9223372036854775808#64 ∨ ¬ b = 18446744073709551615#64) : (((0#64).sle a || (0#64).sle b) || (0#64).sle (a.sdiv b)) = true := by
  have hA := ti a
  have hB := ti b
  simp only [BitVec.sle, toInt_zero', Bool.or_eq_true, decide_eq_true_eq]
  by_cases h1 : 0 ≤ a.toInt
  · exact .inl (.inl h1)
  by_cases h2 : 0 ≤ b.toInt
  · exact .inl (.inr h2)
  refine .inr ?_
  have hcase : a.toInt ≠ -9223372036854775808 ∨ b.toInt ≠ -1 := by
    rcases h with h | h
    · exact .inl fun e => h (BitVec.eq_of_toInt_eq (by rw [e]; decide))
    · exact .inr fun e => h (BitVec.eq_of_toInt_eq (by rw [e]; decide))
  have hq : a.toInt.tdiv b.toInt = (-a.toInt) / (-b.toInt) := by
    rw [← Int.tdiv_eq_ediv_of_nonneg (by omega), Int.neg_tdiv, Int.tdiv_neg, Int.neg_neg]
  have h3 : (-a.toInt) / (-b.toInt) < 9223372036854775808 := Int.ediv_lt_of_lt_mul (by omega) (by omega)
  have h4 : 0 ≤ (-a.toInt) / (-b.toInt) := Int.ediv_nonneg (by omega) (by omega)
  rw [BitVec.toInt_sdiv, hq, Int.bmod_eq_of_le (by omega) (by omega)]
  exact h4
end Go.Proofs.Ytbmommomhepfpaa
