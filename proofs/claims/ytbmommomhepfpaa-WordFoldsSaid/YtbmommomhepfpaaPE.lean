/- Plain facts on exact operations. -/
import Derived.Test.YtbmommomhepfpaaL1
import Derived.Test.YtbmommomhepfpaaP2
namespace Go.Proofs.Ytbmommomhepfpaa

theorem ex_add (a b : BitVec 64) : (if (0#64).slt b then a.slt (a + b) else (a + b).sle a) = ((a.slt 0#64 != b.slt 0#64) || ((a + b).slt 0#64 == a.slt 0#64)) := by
  have h1 := ti a
  have h2 := ti b
  have h3 : (a + b).toInt = (a.toInt + b.toInt).bmod (2 ^ 64) := BitVec.toInt_add ..
  rw [Int.bmod_def] at h3
  simp only [BitVec.slt, BitVec.sle, show (0#64).toInt = 0 from by decide]
  generalize a.toInt = A at *
  generalize b.toInt = B at *
  generalize (a + b).toInt = X at *
  by_cases hA : A < 0 <;> by_cases hB : B < 0 <;> by_cases hX : X < 0 <;> by_cases hB0 : 0 < B <;> simp [hA, hB, hX, hB0] <;> split at h3 <;> omega
theorem ex_sub (a b : BitVec 64) : (if (0#64).slt b then (a - b).slt a else a.sle (a - b)) = ((a.slt 0#64 == b.slt 0#64) || ((a - b).slt 0#64 == a.slt 0#64)) := by
  have h1 := ti a
  have h2 := ti b
  have h3 : (a - b).toInt = (a.toInt - b.toInt).bmod (2 ^ 64) := BitVec.toInt_sub ..
  rw [Int.bmod_def] at h3
  simp only [BitVec.slt, BitVec.sle, show (0#64).toInt = 0 from by decide]
  generalize a.toInt = A at *
  generalize b.toInt = B at *
  generalize (a - b).toInt = X at *
  by_cases hA : A < 0 <;> by_cases hB : B < 0 <;> by_cases hX : X < 0 <;> by_cases hB0 : 0 < B <;> simp [hA, hB, hX, hB0] <;> split at h3 <;> omega
theorem top_bit (l : BitVec 64) : l.ult 9223372036854775808#64 = !(l.slt 0#64) ∧ (9223372036854775808#64).ule l = l.slt 0#64 := by
  have h := BitVec.toInt_eq_toNat_cond l
  have hl := l.isLt
  simp only [BitVec.slt, BitVec.ult, BitVec.ule, show (0#64).toInt = 0 from by decide, show (9223372036854775808#64).toNat = 9223372036854775808 from rfl]
  by_cases hc : l.toNat < 9223372036854775808
  · have : ¬ l.toInt < 0 := by split at h <;> omega
    simp [hc, this]
  · have : l.toInt < 0 := by split at h <;> omega
    simp [hc, this]; omega
theorem ex_mul (h l : BitVec 64) : ((h == 0#64 && l.ult 9223372036854775808#64) || (h == 18446744073709551615#64 && (9223372036854775808#64).ule l)) = (h == l.sshiftRight 63) := by
  obtain ⟨e1, e2⟩ := top_bit l
  rw [e1, e2, sar63]
  cases l.slt 0#64 <;> simp
theorem ex_div (a b : BitVec 64) : (a != 9223372036854775808#64 || b != 18446744073709551615#64) = (((0#64).sle a || (0#64).sle b) || (0#64).sle (a.sdiv b)) := by
  by_cases h : ¬ a = 9223372036854775808#64 ∨ ¬ b = 18446744073709551615#64
  · rw [div_exact a b h]
    simpa [bne_iff_ne] using h
  · have h1 : a = 9223372036854775808#64 := Decidable.byContradiction fun e => h (.inl e)
    have h2 : b = 18446744073709551615#64 := Decidable.byContradiction fun e => h (.inr e)
    rw [h1, h2]; decide +kernel
end Go.Proofs.Ytbmommomhepfpaa
