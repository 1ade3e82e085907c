/- Walk of the reference's Inverse. -/
import Derived.Test.YtbmommomhepfpaaR13
namespace Go.Proofs.Ytbmommomhepfpaa
open Go.RowKit
set_option linter.unusedVariables false

/-- What stands at a round's head: o is found so far. -/
structure IV (a o now : BitVec 64) (k : Nat) : Prop where
  prod : now = a * o
  small : o.toNat < 2 ^ k
  low : now.toNat % 2 ^ k = 1 % 2 ^ k
theorem IV.start (a : BitVec 64) : IV a 0#64 0#64 0 := ⟨by simp, by simp, by simp⟩
theorem IV.same {a o now : BitVec 64} {k : Nat} (h : IV a o now k) (hb : bi now k = if k = 0 then 1 else 0) : IV a o now (k + 1) := by
  refine ⟨h.prod, Nat.lt_of_lt_of_le h.small (Nat.pow_le_pow_right (by decide) (by omega)), ?_⟩
  have h1 := bi_nat now k
  rw [Nat.mod_pow_succ, h.low]
  by_cases hk : k = 0
  · subst hk
    rw [if_pos rfl] at hb
    have : now.toNat / 2 ^ 0 % 2 = 1 := by omega
    rw [this]
  · rw [if_neg hk] at hb
    have : now.toNat / 2 ^ k % 2 = 0 := by omega
    have h2 : 2 ≤ 2 ^ k := by
      calc 2 = 2 ^ 1 := rfl
        _ ≤ 2 ^ k := Nat.pow_le_pow_right (by decide) (by omega)
    rw [this, Nat.pow_succ, Nat.mod_eq_of_lt (by omega : 1 < 2 ^ k), Nat.mod_eq_of_lt (by omega : 1 < 2 ^ k * 2)]
    omega
theorem shl_nat (a : BitVec 64) (k : Nat) : (a <<< k).toNat = a.toNat * 2 ^ k % 2 ^ 64 := by rw [BitVec.toNat_shiftLeft, Nat.shiftLeft_eq]
theorem mod_mod_pow (n k : Nat) (hk : k + 1 ≤ 64) : n % 2 ^ 64 % 2 ^ (k + 1) = n % 2 ^ (k + 1) :=
  Nat.mod_mod_of_dvd _ (Nat.pow_dvd_pow 2 hk)
theorem odd_shift (A k : Nat) (hA : A % 2 = 1) : A * 2 ^ k % 2 ^ (k + 1) = 2 ^ k := by
  have e : A = 2 * (A / 2) + 1 := by omega
  rw [e, Nat.add_mul, Nat.one_mul, Nat.pow_succ, Nat.mul_comm 2 (A / 2), Nat.mul_assoc, Nat.mul_comm 2 (2 ^ k), Nat.mul_comm (A / 2), Nat.mul_add_mod]
  exact Nat.mod_eq_of_lt (by have := Nat.two_pow_pos k; omega)
theorem IV.other {a o now : BitVec 64} {k : Nat} (h : IV a o now k) (hk : k < 64) (ha : a.toNat % 2 = 1) (hb : ¬ bi now k = if k = 0 then 1 else 0) :
    IV a (o + 1#64 <<< k) (now + a <<< k) (k + 1) := by
  have hp := Nat.two_pow_pos k
  have h1 : (1#64 <<< k).toNat = 2 ^ k := by
    rw [shl_nat, show (1#64).toNat = 1 from rfl, Nat.one_mul]; exact Nat.mod_eq_of_lt (Nat.pow_lt_pow_right (by decide) hk)
  have hle : 2 ^ (k + 1) ≤ 2 ^ 64 := Nat.pow_le_pow_right (by decide) (by omega)
  have hs := h.small
  have h2 : (2 : Nat) ^ (k + 1) = 2 ^ k * 2 := Nat.pow_succ ..
  refine ⟨?_, ?_, ?_⟩
  · rw [h.prod, BitVec.mul_add]
    congr 1
    apply BitVec.eq_of_toNat_eq
    rw [shl_nat, BitVec.toNat_mul, h1]
  · rw [BitVec.toNat_add, h1, Nat.mod_eq_of_lt (by omega)]; omega
  · have em : now.toNat % 2 ^ (k + 1) = 1 % 2 ^ k + 2 ^ k * (now.toNat / 2 ^ k % 2) := by rw [Nat.mod_pow_succ, h.low]
    rw [BitVec.toNat_add, mod_mod_pow _ _ (by omega), Nat.add_mod, shl_nat, mod_mod_pow _ _ (by omega), odd_shift _ _ ha, em]
    have hbn := bi_nat now k
    by_cases h0 : k = 0
    · subst h0
      rw [if_pos rfl] at hb
      have : now.toNat / 2 ^ 0 % 2 = 0 := by omega
      rw [this]
    · rw [if_neg h0] at hb
      have : now.toNat / 2 ^ k % 2 = 1 := by omega
      have h3 : 2 ≤ 2 ^ k := by
        calc 2 = 2 ^ 1 := rfl
          _ ≤ 2 ^ k := Nat.pow_le_pow_right (by decide) (by omega)
      rw [this, h2, Nat.mod_eq_of_lt (by omega : 1 < 2 ^ k), Nat.mod_eq_of_lt (by omega : 1 < 2 ^ k * 2)]
      rw [show 1 + 2 ^ k * 1 + 2 ^ k = 1 + 2 ^ k * 2 from by omega, Nat.add_mod_right]
      exact Nat.mod_eq_of_lt (by omega)
end Go.Proofs.Ytbmommomhepfpaa
