/- Plain facts on words: shifts. -/
import Derived.Test.YtbmommomhepfpaaP2
namespace Go.Proofs.Ytbmommomhepfpaa

theorem sle_not' (x : BitVec 64) : (0#64).sle x = !(x.slt 0#64) := by
  rw [BitVec.sle, BitVec.slt, toInt_zero']
  generalize x.toInt = n
  by_cases h : n < 0
  · rw [decide_eq_true h, decide_eq_false (by omega)]; rfl
  · rw [decide_eq_false h, decide_eq_true (by omega)]; rfl
theorem shl_mul (a : BitVec 64) (N : Nat) : a * (1#64 <<< N) = a <<< N := by
  rw [← BitVec.twoPow_eq, BitVec.mul_twoPow_eq_shiftLeft]
theorem and63 (b : BitVec 64) : (b &&& 63#64) &&& 63#64 = b &&& 63#64 := by
  rw [BitVec.and_assoc, BitVec.and_self]
theorem and63_nat (b : BitVec 64) : (b &&& 63#64).toNat = b.toNat % 64 := by
  rw [BitVec.toNat_and]
  have : (63#64).toNat = 2 ^ 6 - 1 := by decide
  rw [this, Nat.and_two_pow_sub_one_eq_mod]

theorem sar_ti (a : BitVec 64) (N : Nat) : (a.sshiftRight N).toInt = a.toInt / 2 ^ N := by
  rw [BitVec.toInt_sshiftRight, Int.shiftRight_eq_div_pow]; simp
theorem pow_ofInt (N : Nat) : 1#64 <<< N = BitVec.ofInt 64 (2 ^ N) := by
  rw [← BitVec.twoPow_eq]
  apply BitVec.eq_of_toNat_eq
  rw [BitVec.toNat_twoPow, BitVec.toNat_ofInt]
  have : ((2 : Int) ^ N) = ((2 ^ N : Nat) : Int) := by simp
  rw [this]
  omega
theorem pow_ti (N : Nat) (h : N < 63) : (1#64 <<< N).toInt = 2 ^ N := by
  rw [pow_ofInt, BitVec.toInt_ofInt]
  have h1 : (2 : Int) ^ N ≤ 2 ^ 62 := by
    have : (2 : Nat) ^ N ≤ 2 ^ 62 := Nat.pow_le_pow_right (by decide) (by omega)
    exact_mod_cast this
  have h2 : (0 : Int) < 2 ^ N := Int.pow_pos (by decide)
  rw [Int.bmod_eq_of_le (by omega) (by omega)]
theorem rest_ofInt (a : BitVec 64) (N : Nat) : a - (a.sshiftRight N) <<< N = BitVec.ofInt 64 (a.toInt % 2 ^ N) := by
  rw [← shl_mul]
  have h1 : a.sshiftRight N = BitVec.ofInt 64 (a.toInt / 2 ^ N) := by rw [← sar_ti, BitVec.ofInt_toInt]
  have h2 : a = BitVec.ofInt 64 a.toInt := BitVec.ofInt_toInt.symm
  rw [h1, pow_ofInt]
  conv => lhs; lhs; rw [h2]
  rw [← BitVec.ofInt_mul, BitVec.sub_eq_add_neg, ← BitVec.ofInt_neg, ← BitVec.ofInt_add, Int.emod_def, Int.mul_comm (a.toInt / 2 ^ N), Int.sub_eq_add_neg]
theorem rest_ti (a : BitVec 64) (N : Nat) (h : N < 63) : 0 ≤ (a - (a.sshiftRight N) <<< N).toInt ∧ (a - (a.sshiftRight N) <<< N).toInt < (1#64 <<< N).toInt := by
  have h1 : (2 : Int) ^ N ≤ 2 ^ 62 := by
    have : (2 : Nat) ^ N ≤ 2 ^ 62 := Nat.pow_le_pow_right (by decide) (by omega)
    exact_mod_cast this
  have h2 : (0 : Int) < 2 ^ N := Int.pow_pos (by decide)
  have h3 := Int.emod_nonneg a.toInt (show (2 : Int) ^ N ≠ 0 by omega)
  have h4 := Int.emod_lt_of_pos a.toInt h2
  rw [rest_ofInt, pow_ti N h, BitVec.toInt_ofInt, Int.bmod_eq_of_le (by omega) (by omega)]
  exact ⟨h3, h4⟩
theorem sar_neg (a : BitVec 64) (N : Nat) : (a.sshiftRight N).slt 0#64 = a.slt 0#64 := by
  have h2 : (0 : Int) < 2 ^ N := Int.pow_pos (by decide)
  rw [BitVec.slt, BitVec.slt, sar_ti, toInt_zero']
  by_cases h : a.toInt < 0
  · rw [decide_eq_true h, decide_eq_true (Int.ediv_neg_of_neg_of_pos h h2)]
  · rw [decide_eq_false h, decide_eq_false (by have := Int.ediv_nonneg (show 0 ≤ a.toInt by omega) (Int.le_of_lt h2); omega)]
theorem shr_pos (a : BitVec 64) (N : Nat) (h : a.slt 0#64 = false) : a >>> N = a.sshiftRight N := by
  apply BitVec.eq_of_toInt_eq
  rw [BitVec.slt, decide_eq_false_iff_not, toInt_zero'] at h
  have hm : a.msb = false := by
    rw [BitVec.msb_eq_toInt]; exact decide_eq_false h
  rw [BitVec.sshiftRight_eq_of_msb_false hm]
theorem shr_ofInt (a : BitVec 64) (N : Nat) : a >>> N = BitVec.ofInt 64 ((a.toNat : Int) / 2 ^ N) := by
  apply BitVec.eq_of_toNat_eq
  rw [BitVec.toNat_ushiftRight, Nat.shiftRight_eq_div_pow, BitVec.toNat_ofInt]
  have e : (a.toNat : Int) / 2 ^ N = ((a.toNat / 2 ^ N : Nat) : Int) := by simp
  rw [e]
  have h1 : a.toNat / 2 ^ N ≤ a.toNat := Nat.div_le_self _ _
  have h2 := a.isLt
  generalize a.toNat / 2 ^ N = q at *
  omega
theorem shr_neg (a : BitVec 64) (N : Nat) (h : a.slt 0#64 = true) (h1 : N ≤ 64) : a >>> N = a.sshiftRight N + 1#64 <<< (64 - N) := by
  rw [BitVec.slt, decide_eq_true_eq, toInt_zero'] at h
  have h2 : a.sshiftRight N = BitVec.ofInt 64 (a.toInt / 2 ^ N) := by rw [← sar_ti, BitVec.ofInt_toInt]
  have h3 := BitVec.toInt_eq_toNat_cond a
  have h4 : a.toInt = (a.toNat : Int) - 2 ^ 64 := by split at h3 <;> omega
  have h5 : (2 : Int) ^ 64 = 2 ^ (64 - N) * 2 ^ N := by rw [← Int.pow_add]; congr 1; omega
  have h6 : (0 : Int) < 2 ^ N := Int.pow_pos (by decide)
  rw [h2, pow_ofInt, ← BitVec.ofInt_add, shr_ofInt, h4, h5]
  congr 1
  rw [Int.sub_eq_add_neg, ← Int.neg_mul, Int.add_mul_ediv_right _ _ (by omega)]
  omega
end Go.Proofs.Ytbmommomhepfpaa
