/- Plain facts on words: products, inverses. -/
import Derived.Test.YtbmommomhepfpaaW6
namespace Go.Proofs.Ytbmommomhepfpaa

theorem newt_err (a : BitVec 64) (k : Nat) : 1#64 - a * newt a (k + 1) = (1#64 - a * newt a k) * (1#64 - a * newt a k) := by
  rw [newt]; grind

theorem sq_zero (x e : BitVec 64) (m : Nat) (h : e = x * BitVec.ofNat 64 (2 ^ m)) : ∃ y, e * e = y * BitVec.ofNat 64 (2 ^ (2 * m)) := by
  refine ⟨x * x, ?_⟩
  have : BitVec.ofNat 64 (2 ^ (2 * m)) = BitVec.ofNat 64 (2 ^ m) * BitVec.ofNat 64 (2 ^ m) := by
    rw [← BitVec.ofNat_mul, ← Nat.pow_add]; congr 2; omega
  rw [h, this]; grind

theorem odd_form (a : BitVec 64) (h : invOk a = true) : ∃ c : BitVec 64, a = 1#64 + c * 2#64 := by
  refine ⟨a >>> 1, ?_⟩
  have h1 : a.toNat % 2 = 1 := by
    have h2 : ¬ a.srem 2#64 = 0#64 := by simpa [invOk] using h
    have h3 : ¬ (a.srem 2#64).toInt = 0 := fun e => h2 (BitVec.eq_of_toInt_eq (by simpa using e))
    rw [BitVec.toInt_srem] at h3
    have h4 : (2#64).toInt = 2 := by decide
    rw [h4] at h3
    have h5 := BitVec.toInt_eq_toNat_cond a
    refine Decidable.byContradiction fun hne => h3 (Int.tmod_eq_zero_of_dvd (Int.dvd_of_emod_eq_zero ?_))
    split at h5 <;> omega
  apply BitVec.eq_of_toNat_eq
  simp only [BitVec.toNat_add, BitVec.toNat_mul, BitVec.toNat_ushiftRight, BitVec.toNat_ofNat, Nat.shiftRight_eq_div_pow]
  have := a.isLt
  omega

theorem inv_mul (a : BitVec 64) (h : invOk a = true) : a * invV a = 1#64 := by
  have hv : invV a = newt a 5 := by unfold invV; rw [if_pos h]
  rw [hv]
  obtain ⟨c, hc⟩ := odd_form a h
  -- 1 - a*a is a multiple of 8
  have h8 : ∃ x, 1#64 - a * newt a 0 = x * BitVec.ofNat 64 (2 ^ 2) := ⟨-(c + c * c), by
    rw [newt]
    have : BitVec.ofNat 64 (2 ^ 2) = 4#64 := by decide
    rw [this, hc]; grind⟩
  have step : ∀ k m, (∃ x, 1#64 - a * newt a k = x * BitVec.ofNat 64 (2 ^ m)) → ∃ x, 1#64 - a * newt a (k + 1) = x * BitVec.ofNat 64 (2 ^ (2 * m)) := by
    rintro k m ⟨x, hx⟩
    rw [newt_err]
    exact sq_zero x _ m hx
  obtain ⟨x, hx⟩ := step 4 32 (step 3 16 (step 2 8 (step 1 4 (step 0 2 h8))))
  have : BitVec.ofNat 64 (2 ^ (2 * 32)) = 0#64 := by decide
  rw [this, BitVec.mul_zero] at hx
  grind

theorem nlow (x : BitVec 64) : (x &&& 4294967295#64).toNat = x.toNat % 4294967296 := by
  rw [BitVec.toNat_and]
  have : (4294967295#64).toNat = 2 ^ 32 - 1 := by decide
  rw [this, Nat.and_two_pow_sub_one_eq_mod]
theorem nhigh (x : BitVec 64) : (x >>> 32).toNat = x.toNat / 4294967296 := by
  rw [BitVec.toNat_ushiftRight, Nat.shiftRight_eq_div_pow]

theorem mul_small {x y : Nat} (hx : x < 4294967296) (hy : y < 4294967296) : x * y ≤ 18446744065119617025 := by
  calc x * y ≤ 4294967295 * 4294967295 := Nat.mul_le_mul (by omega) (by omega)
    _ = 18446744065119617025 := by decide

theorem wide_nat (a b : BitVec 64) : (wideH a b).toNat * 18446744073709551616 + (wideLow a b).toNat = a.toNat * b.toNat := by
  obtain ⟨xh, hxh⟩ : ∃ n, n = a.toNat / 4294967296 := ⟨_, rfl⟩
  obtain ⟨xl, hxl⟩ : ∃ n, n = a.toNat % 4294967296 := ⟨_, rfl⟩
  obtain ⟨yh, hyh⟩ : ∃ n, n = b.toNat / 4294967296 := ⟨_, rfl⟩
  obtain ⟨yl, hyl⟩ : ∃ n, n = b.toNat % 4294967296 := ⟨_, rfl⟩
  have ha := a.isLt
  have hb := b.isLt
  have b1 := mul_small (x := xl) (y := yl) (by omega) (by omega)
  have b2 := mul_small (x := xh) (y := yl) (by omega) (by omega)
  have b3 := mul_small (x := xl) (y := yh) (by omega) (by omega)
  have b4 := mul_small (x := xh) (y := yh) (by omega) (by omega)
  have hp : (wideP a b).toNat = xl * yl := by
    rw [wideP, BitVec.toNat_mul, nlow, nlow, ← hxl, ← hyl, Nat.mod_eq_of_lt (by omega)]
  have hpq : (wideP a b >>> 32).toNat = xl * yl / 4294967296 := by rw [nhigh, hp]
  have hq : (wideQ a b).toNat = xh * yl + xl * yl / 4294967296 := by
    rw [wideQ, BitVec.toNat_add, BitVec.toNat_mul, nhigh, nlow, hpq, ← hxh, ← hyl]
    omega
  have hr : (wideR a b).toNat = xl * yh + (xh * yl + xl * yl / 4294967296) % 4294967296 := by
    rw [wideR, BitVec.toNat_add, BitVec.toNat_mul, nhigh, nlow, nlow, hq, ← hxl, ← hyh]
    omega
  have hh : (wideH a b).toNat = xh * yh + (xh * yl + xl * yl / 4294967296) / 4294967296 + (xl * yh + (xh * yl + xl * yl / 4294967296) % 4294967296) / 4294967296 := by
    rw [wideH, BitVec.toNat_add, BitVec.toNat_add, BitVec.toNat_mul, nhigh, nhigh, nhigh, nhigh, hq, hr, ← hxh, ← hyh]
    omega
  have hl : (wideLow a b).toNat = (xl * yh + (xh * yl + xl * yl / 4294967296) % 4294967296) % 4294967296 * 4294967296 + xl * yl % 4294967296 := by
    rw [wideLow_eq, BitVec.toNat_or, BitVec.toNat_shiftLeft, hr, nlow, hp, Nat.shiftLeft_eq]
    generalize xl * yh + (xh * yl + xl * yl / 4294967296) % 4294967296 = R
    have e1 : R * 2 ^ 32 % 2 ^ 64 = (R % 4294967296) * 2 ^ 32 := by omega
    rw [e1, Nat.mul_comm (R % 4294967296) (2 ^ 32), ← Nat.two_pow_add_eq_or_of_lt (by omega)]
  rw [hh, hl]
  have ea : a.toNat = xh * 4294967296 + xl := by omega
  have eb : b.toNat = yh * 4294967296 + yl := by omega
  have : a.toNat * b.toNat = xh * yh * 18446744073709551616 + xh * yl * 4294967296 + xl * yh * 4294967296 + xl * yl := by rw [ea, eb]; grind
  rw [this]
  generalize xh * yh = A at *
  generalize xh * yl = B at *
  generalize xl * yh = C at *
  generalize xl * yl = D at *
  omega

theorem wideLow_mul (a b : BitVec 64) : wideLow a b = a * b := by
  apply BitVec.eq_of_toNat_eq
  rw [BitVec.toNat_mul, ← wide_nat a b]
  have := (wideLow a b).isLt
  omega
theorem wideH_comm (a b : BitVec 64) : wideH a b = wideH b a := by
  apply BitVec.eq_of_toNat_eq
  have h1 := wide_nat a b
  have h2 := wide_nat b a
  rw [Nat.mul_comm b.toNat a.toNat] at h2
  have := (wideLow a b).isLt
  have := (wideLow b a).isLt
  omega
theorem wideHigh_comm (a b : BitVec 64) : wideHigh a b = wideHigh b a := by
  unfold wideHigh
  rw [wideH_comm a b]
  split <;> split <;> grind
theorem sar63 (x : BitVec 64) : x.sshiftRight 63 = if x.slt 0#64 then 18446744073709551615#64 else 0#64 := by
  apply BitVec.eq_of_toInt_eq
  rw [BitVec.toInt_sshiftRight, Int.shiftRight_eq_div_pow, BitVec.slt]
  have h1 := BitVec.toInt_lt (x := x)
  have h2 := BitVec.le_toInt (x := x)
  have h0 : (0#64).toInt = 0 := by decide
  rw [h0]
  by_cases h : x.toInt < 0
  · rw [if_pos (by simpa using h)]
    have : (18446744073709551615#64).toInt = -1 := by decide
    rw [this]; omega
  · rw [if_neg (by simpa using h), h0]; omega
end Go.Proofs.Ytbmommomhepfpaa
