/- Plain facts on whole products of words without a sign, bit by bit. -/
import Derived.Test.YtbmommomhepfpaaPB
namespace Go.Proofs.Ytbmommomhepfpaa

theorem dbl_lo (lo : BitVec 64) : (lo <<< 1).toNat + 18446744073709551616 * (lo.toNat / 2 ^ 63 % 2) = 2 * lo.toNat := by
  have hl := lo.isLt
  rw [BitVec.toNat_shiftLeft, Nat.shiftLeft_eq]
  omega
theorem dbl_hi (hi : BitVec 64) (hb : hi.toNat < 9223372036854775808) : (hi <<< 1).toNat = 2 * hi.toNat ∧ ((hi <<< 1) + 1#64).toNat = 2 * hi.toNat + 1 := by
  have s2 : (hi <<< 1).toNat = 2 * hi.toNat := by rw [BitVec.toNat_shiftLeft, Nat.shiftLeft_eq]; omega
  exact ⟨s2, by rw [BitVec.toNat_add, s2, show (1#64).toNat = 1 from rfl]; omega⟩
theorem lin_dbl (M h l l' t P : Nat) (e : l' + M * t = 2 * l) (hP : h * M + l = P) : (2 * h + t) * M + l' = 2 * P := by
  rw [← hP, Nat.add_mul, Nat.mul_comm t M, Nat.mul_add, Nat.mul_assoc]; omega
/-- One step: twice what there is. -/
theorem wide_dbl (hi lo : BitVec 64) (P : Nat) (h : hi.toNat * 18446744073709551616 + lo.toNat = P) (hb : hi.toNat < 9223372036854775808) :
    (bi lo 63 = 1 → ((hi <<< 1) + 1#64).toNat * 18446744073709551616 + (lo <<< 1).toNat = 2 * P) ∧ (bi lo 63 = 0 → (hi <<< 1).toNat * 18446744073709551616 + (lo <<< 1).toNat = 2 * P) := by
  have h63 := bi_nat lo 63
  have hd := dbl_lo lo
  obtain ⟨h1, h2⟩ := dbl_hi hi hb
  constructor
  · intro hc
    have ht : lo.toNat / 2 ^ 63 % 2 = 1 := by omega
    rw [ht] at hd
    rw [h2]; exact lin_dbl _ _ _ _ _ _ hd h
  · intro hc
    have ht : lo.toNat / 2 ^ 63 % 2 = 0 := by omega
    rw [ht] at hd
    have := lin_dbl _ _ _ _ _ _ hd h
    rw [h1]; simpa using this
theorem add_lo (lo a : BitVec 64) : ((lo + a).ult lo = true → (lo + a).toNat + 18446744073709551616 = lo.toNat + a.toNat) ∧ ((lo + a).ult lo = false → (lo + a).toNat = lo.toNat + a.toNat) := by
  have hl := lo.isLt
  have ha := a.isLt
  rw [BitVec.ult, BitVec.toNat_add]
  constructor
  · intro hc
    have hc' : (lo.toNat + a.toNat) % 2 ^ 64 < lo.toNat := by simpa using hc
    omega
  · intro hc
    have hc' : ¬ (lo.toNat + a.toNat) % 2 ^ 64 < lo.toNat := by simpa using hc
    omega
theorem wide_add (hi lo a : BitVec 64) (P : Nat) (h : hi.toNat * 18446744073709551616 + lo.toNat = P) (hb : hi.toNat < 18446744073709551615) :
    ((lo + a).ult lo = true → (hi + 1#64).toNat * 18446744073709551616 + (lo + a).toNat = P + a.toNat) ∧ ((lo + a).ult lo = false → hi.toNat * 18446744073709551616 + (lo + a).toNat = P + a.toNat) := by
  have hd := add_lo lo a
  have h1 : (hi + 1#64).toNat = hi.toNat + 1 := by rw [BitVec.toNat_add, show (1#64).toNat = 1 from rfl]; omega
  constructor
  · intro hc
    have := hd.1 hc
    rw [h1, Nat.add_mul, Nat.one_mul]
    generalize hi.toNat * 18446744073709551616 = X at *
    omega
  · intro hc
    have := hd.2 hc
    omega
end Go.Proofs.Ytbmommomhepfpaa
