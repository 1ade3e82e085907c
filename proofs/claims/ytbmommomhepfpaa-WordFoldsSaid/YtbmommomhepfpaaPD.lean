/- Plain facts on long division. -/
import Derived.Test.YtbmommomhepfpaaPB
namespace Go.Proofs.Ytbmommomhepfpaa

theorem dv_mod (X D m b : Nat) (hb : X / 2 ^ m % 2 = b) : X / 2 ^ m % D = (2 * (X / 2 ^ (m + 1) % D) + b) % D := by
  have e : X / 2 ^ m = 2 * (X / 2 ^ (m + 1)) + b := by rw [Nat.pow_succ, ← Nat.div_div_eq_div_mul]; omega
  rw [e, Nat.add_mod, Nat.mul_mod]
  conv => rhs; rw [Nat.add_mod, Nat.mul_mod]
  simp
theorem dv_quo (X D m b : Nat) (hD : 0 < D) (hb : X / 2 ^ m % 2 = b) : X / D / 2 ^ m % 2 = (2 * (X / 2 ^ (m + 1) % D) + b) / D % 2 := by
  have e : X / 2 ^ m = 2 * (X / 2 ^ (m + 1)) + b := by rw [Nat.pow_succ, ← Nat.div_div_eq_div_mul]; omega
  rw [Nat.div_div_eq_div_mul, Nat.mul_comm D, ← Nat.div_div_eq_div_mul, e]
  generalize X / 2 ^ (m + 1) = q
  have h := Nat.div_add_mod q D
  have : 2 * q + b = D * (2 * (q / D)) + (2 * (q % D) + b) := by
    rw [← Nat.mul_assoc, Nat.mul_comm D 2, Nat.mul_assoc]; omega
  rw [this, Nat.mul_add_div hD]
  omega

/-- The rest, one bit further. -/
def nxt (x z : BitVec 64) (m : Nat) : BitVec 64 := if bi x m = 1 then (z <<< 1) ||| 1#64 else z <<< 1
theorem nxt_bit (x z : BitVec 64) (m j : Nat) : (if j = 0 then bi x m else bi (z <<< 1) j) = bi (nxt x z m) j := by
  rcases bi_01 x m with h | h
  · have e : nxt x z m = z <<< 1 := if_neg (by rw [h]; decide)
    rw [e, h]
    by_cases h0 : j = 0
    · rw [if_pos h0, h0]; simp [bi]
    · rw [if_neg h0]
  · have e : nxt x z m = (z <<< 1) ||| 1#64 := if_pos h
    rw [e, h]
    by_cases h0 : j = 0
    · rw [if_pos h0, h0]; simp [bi]
    · rw [if_neg h0]
      unfold bi
      rw [BitVec.getLsbD_or]
      have : (1#64).getLsbD j = false := by simp [h0]
      rw [this, Bool.or_false]
theorem nxt_nat (x z : BitVec 64) (m : Nat) : (nxt x z m).toNat = (2 * z.toNat + x.toNat / 2 ^ m % 2) % 2 ^ 64 := by
  have hb := bi_nat x m
  unfold nxt
  rcases bi_01 x m with h | h
  · rw [if_neg (by rw [h]; decide), BitVec.toNat_shiftLeft, Nat.shiftLeft_eq]
    omega
  · rw [if_pos h]
    have h0 : (z <<< 1) &&& 1#64 = 0#64 := by
      ext i hi
      simp
      intro h1 h2
      omega
    rw [← BitVec.add_eq_or_of_and_eq_zero _ _ h0, BitVec.toNat_add, BitVec.toNat_shiftLeft, Nat.shiftLeft_eq, show (1#64).toNat = 1 from rfl]
    omega

/-- What one step of the division does. -/
structure DS (x y z : BitVec 64) (m : Nat) : Prop where
  over : bi z 63 = 1 → y.toNat ≤ 2 * z.toNat + x.toNat / 2 ^ m % 2
  under : bi z 63 = 0 → ((nxt x z m).ult y = true ↔ 2 * z.toNat + x.toNat / 2 ^ m % 2 < y.toNat)
  yes : y.toNat ≤ 2 * z.toNat + x.toNat / 2 ^ m % 2 → (nxt x z m + ~~~y + 1#64).toNat = x.toNat / 2 ^ m % y.toNat ∧ bi (x / y) m = 1
  no : 2 * z.toNat + x.toNat / 2 ^ m % 2 < y.toNat → (nxt x z m).toNat = x.toNat / 2 ^ m % y.toNat ∧ bi (x / y) m = 0
theorem div_one (x y z : BitVec 64) (m : Nat) (hy : 0 < y.toNat) (hz : z.toNat = x.toNat / 2 ^ (m + 1) % y.toNat) : DS x y z m := by
  have hb := bi_nat z 63
  have hn := nxt_nat x z m
  have hzy : z.toNat < y.toNat := by rw [hz]; exact Nat.mod_lt _ hy
  have hyl := y.isLt
  have hm := dv_mod x.toNat y.toNat m _ rfl
  have hq := dv_quo x.toNat y.toNat m _ hy rfl
  rw [← hz] at hm hq
  have hbq := bi_nat (x / y) m
  rw [BitVec.toNat_udiv, hq] at hbq
  have hbit : x.toNat / 2 ^ m % 2 ≤ 1 := by omega
  obtain ⟨b, hbe⟩ : ∃ b, x.toNat / 2 ^ m % 2 = b := ⟨_, rfl⟩
  rw [hbe] at hn hm hq hbq hbit
  refine ⟨fun h => by rw [hbe]; omega, fun h => ?_, fun h => ?_, fun h => ?_⟩
  · have : 2 * z.toNat + b < 2 ^ 64 := by omega
    rw [Nat.mod_eq_of_lt this] at hn
    rw [BitVec.ult, hn, hbe]; simp
  · rw [hbe] at h
    have h1 : (2 * z.toNat + b) / y.toNat = 1 := by
      refine Nat.div_eq_of_lt_le (by omega) (by omega)
    have h2 : (2 * z.toNat + b) % y.toNat = 2 * z.toNat + b - y.toNat := by
      rw [Nat.mod_eq_sub_mod h, Nat.mod_eq_of_lt (by omega)]
    refine ⟨?_, by rw [hbq, h1]; rfl⟩
    rw [hm, h2, BitVec.add_assoc, ← BitVec.neg_eq_not_add, ← BitVec.sub_eq_add_neg, BitVec.toNat_sub, hn]
    omega
  · rw [hbe] at h
    refine ⟨?_, by rw [hbq, Nat.div_eq_of_lt h]; rfl⟩
    rw [hm, hn, Nat.mod_eq_of_lt h, Nat.mod_eq_of_lt (by omega)]

def qF (u : BitVec 64) (k j : Nat) : Int := if k ≤ j then bi u j else 0
theorem qF_one (u : BitVec 64) (m j : Nat) (h : bi u m = 1) : (if j = m then 1 else qF u (m + 1) j) = qF u m j := by
  unfold qF
  by_cases e : j = m
  · subst e; rw [if_pos rfl, if_pos (Nat.le_refl _), h]
  · rw [if_neg e]
    by_cases h2 : m + 1 ≤ j
    · rw [if_pos h2, if_pos (by omega)]
    · rw [if_neg h2, if_neg (by omega)]
theorem qF_zero (u : BitVec 64) (m j : Nat) (h : bi u m = 0) : qF u (m + 1) j = qF u m j := by
  unfold qF
  by_cases h2 : m + 1 ≤ j
  · rw [if_pos h2, if_pos (by omega)]
  · rw [if_neg h2]
    by_cases e : j = m
    · subst e; rw [if_pos (Nat.le_refl _), h]
    · rw [if_neg (by omega)]
end Go.Proofs.Ytbmommomhepfpaa
