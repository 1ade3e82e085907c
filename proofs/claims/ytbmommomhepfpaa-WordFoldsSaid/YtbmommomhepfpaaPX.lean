/- Plain facts on whole products of words: the signs. -/
import Derived.Test.YtbmommomhepfpaaR10
import Derived.Test.YtbmommomhepfpaaP1
namespace Go.Proofs.Ytbmommomhepfpaa

theorem md_unique {h1 l1 h2 l2 : Nat} (e : h1 * 18446744073709551616 + l1 = h2 * 18446744073709551616 + l2) (b1 : l1 < 18446744073709551616) (b2 : l2 < 18446744073709551616) : h1 = h2 ∧ l1 = l2 := by omega

theorem wide_signs (a b hi lo : BitVec 64) (h : hi.toNat * 18446744073709551616 + lo.toNat = (absV a).toNat * (absV b).toNat) :
    ((a.slt 0#64 != b.slt 0#64) = false → hi = wideHigh a b ∧ lo = wideLow a b) ∧
    ((a.slt 0#64 != b.slt 0#64) = true → -lo = wideLow a b ∧ (lo = 0#64 → -hi = wideHigh a b) ∧ (lo ≠ 0#64 → ~~~hi = wideHigh a b)) := by
  obtain ⟨-, ha1, ha0⟩ := abs_le a
  obtain ⟨-, hb1, hb0⟩ := abs_le b
  have hw := wide_nat a b
  have hlo := lo.isLt
  have hhi := hi.isLt
  have hwl := (wideLow a b).isLt
  have hwh := (wideH a b).isLt
  have hal := a.isLt
  have hbl := b.isLt
  have hnot : ~~~hi = -hi - 1#64 := by
    have := BitVec.neg_eq_not_add hi
    rw [this]; grind
  have hlz : lo ≠ 0#64 ↔ lo.toNat ≠ 0 := by
    constructor
    · intro e e2; exact e (BitVec.eq_of_toNat_eq (by simpa using e2))
    · intro e e2; exact e (by rw [e2]; rfl)
  unfold wideHigh
  cases hsa : a.slt 0#64 <;> cases hsb : b.slt 0#64
  · simp only [Bool.false_eq_true, if_false, bne_self_eq_false]
    rw [ha0 hsa, hb0 hsb, ← hw] at h
    obtain ⟨e1, e2⟩ := md_unique h hlo hwl
    exact ⟨fun _ => ⟨BitVec.eq_of_toNat_eq e1, BitVec.eq_of_toNat_eq e2⟩, fun e => by cases e⟩
  · simp only [Bool.false_eq_true, if_false, if_true]
    have hB := hb1 hsb
    rw [ha0 hsa] at h
    have e1 : a.toNat * b.toNat + a.toNat * (absV b).toNat = a.toNat * 18446744073709551616 := by rw [← Nat.mul_add, hB]
    rw [← hw, ← h] at e1
    refine ⟨fun e => (by cases e), fun _ => ⟨?_, fun hz => ?_, fun hz => ?_⟩⟩
    · apply BitVec.eq_of_toNat_eq
      rw [BitVec.toNat_neg]; omega
    · rw [hz] at e1
      apply BitVec.eq_of_toNat_eq
      have : (0#64).toNat = 0 := rfl
      rw [BitVec.toNat_neg, BitVec.toNat_sub]; omega
    · rw [hlz] at hz
      rw [hnot]
      apply BitVec.eq_of_toNat_eq
      rw [BitVec.toNat_sub, BitVec.toNat_neg, BitVec.toNat_sub, show (1#64).toNat = 1 from rfl]; omega
  · simp only [Bool.false_eq_true, if_false, if_true]
    have hA := ha1 hsa
    rw [hb0 hsb] at h
    have e1 : a.toNat * b.toNat + (absV a).toNat * b.toNat = 18446744073709551616 * b.toNat := by rw [← Nat.add_mul, hA]
    rw [← hw, ← h] at e1
    refine ⟨fun e => (by cases e), fun _ => ⟨?_, fun hz => ?_, fun hz => ?_⟩⟩
    · apply BitVec.eq_of_toNat_eq
      rw [BitVec.toNat_neg]; omega
    · rw [hz] at e1
      apply BitVec.eq_of_toNat_eq
      have : (0#64).toNat = 0 := rfl
      rw [BitVec.toNat_neg, BitVec.toNat_sub]; omega
    · rw [hlz] at hz
      rw [hnot]
      apply BitVec.eq_of_toNat_eq
      rw [BitVec.toNat_sub, BitVec.toNat_neg, BitVec.toNat_sub, show (1#64).toNat = 1 from rfl]; omega
  · simp only [if_true, bne_self_eq_false]
    have hA := ha1 hsa
    have hB := hb1 hsb
    have e1 : a.toNat * b.toNat + (absV a).toNat * b.toNat = 18446744073709551616 * b.toNat := by rw [← Nat.add_mul, hA]
    have e2 : (absV a).toNat * b.toNat + (absV a).toNat * (absV b).toNat = (absV a).toNat * 18446744073709551616 := by rw [← Nat.mul_add, hB]
    rw [← hw] at e1
    rw [← h] at e2
    generalize (absV a).toNat * b.toNat = Q at *
    refine ⟨fun _ => ⟨?_, ?_⟩, fun e => (by cases e)⟩
    · apply BitVec.eq_of_toNat_eq
      rw [BitVec.toNat_sub, BitVec.toNat_sub]; omega
    · apply BitVec.eq_of_toNat_eq
      omega
end Go.Proofs.Ytbmommomhepfpaa
