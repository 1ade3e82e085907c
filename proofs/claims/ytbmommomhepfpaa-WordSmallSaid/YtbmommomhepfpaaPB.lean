/- Plain facts on bits of words. -/
namespace Go.Proofs.Ytbmommomhepfpaa

/-- Bit i of a word, as an integer. -/
def bi (x : BitVec 64) (i : Nat) : Int := if x.getLsbD i then 1 else 0
theorem bi_01 (x : BitVec 64) (i : Nat) : bi x i = 0 ∨ bi x i = 1 := by unfold bi; split <;> simp
theorem bi_le (x : BitVec 64) (i : Nat) : 0 ≤ bi x i ∧ bi x i ≤ 1 := by rcases bi_01 x i with h | h <;> rw [h] <;> decide
theorem bi_nat (x : BitVec 64) (i : Nat) : bi x i = ((x.toNat / 2 ^ i % 2 : Nat) : Int) := by
  unfold bi
  rw [← BitVec.testBit_toNat, ← Nat.toNat_testBit]
  cases x.toNat.testBit i <;> rfl
/-- The first k bits. -/
def bl (x : BitVec 64) (k : Nat) : List Int := (List.range k).map (bi x)
theorem bl_succ (x : BitVec 64) (k : Nat) : bl x (k + 1) = bl x k ++ [bi x k] := by unfold bl; rw [List.range_succ, List.map_append]; rfl
theorem bl_len (x : BitVec 64) (k : Nat) : (bl x k).length = k := by simp [bl]
theorem bl_get (x : BitVec 64) (k i : Nat) (h : i < (bl x k).length) : (bl x k)[i] = bi x i := by simp [bl]

theorem bi_not (x : BitVec 64) (i : Nat) (h : i < 64) : 1 - bi x i = bi (~~~x) i := by
  unfold bi; rw [BitVec.getLsbD_not]; simp only [h, decide_true, Bool.true_and]; cases x.getLsbD i <;> rfl

theorem odd_bit0 (y : BitVec 64) : (y.srem 2#64 != 0#64) = y.getLsbD 0 := by
  have h : y.getLsbD 0 = decide (y.toNat % 2 = 1) := by
    rw [← BitVec.testBit_toNat, Nat.testBit_zero]
  rw [h, Bool.eq_iff_iff, bne_iff_ne, decide_eq_true_iff]
  have e : y.srem 2#64 = 0#64 ↔ (y.srem 2#64).toInt = 0 := ⟨fun h => by rw [h]; rfl, fun h => BitVec.eq_of_toInt_eq (by simpa using h)⟩
  rw [Ne, e, BitVec.toInt_srem]
  have h4 : (2#64).toInt = 2 := by decide
  rw [h4]
  have h5 := BitVec.toInt_eq_toNat_cond y
  have h6 := y.isLt
  have h7 : y.toInt.tmod 2 = 0 ↔ y.toInt % 2 = 0 := by
    rw [← Int.dvd_iff_tmod_eq_zero, Int.dvd_iff_emod_eq_zero]
  rw [h7]
  split at h5 <;> omega

theorem half_up (y : BitVec 64) : ((y.getLsbD 0 = true → (y - 1#64).sdiv 2#64 = y.sshiftRight 1) ∧ (y.getLsbD 0 = false → y.sdiv 2#64 = y.sshiftRight 1)) := by
  have h : y.getLsbD 0 = decide (y.toNat % 2 = 1) := by
    rw [← BitVec.testBit_toNat, Nat.testBit_zero]
  have h4 : (2#64).toInt = 2 := by decide
  have h1 : (1#64).toInt = 1 := by decide
  have h5 := BitVec.toInt_eq_toNat_cond y
  have h6 := y.isLt
  have h7 := BitVec.toInt_lt (x := y)
  have h8 := BitVec.le_toInt (x := y)
  have hp : y.toInt % 2 = (y.toNat % 2 : Nat) := by split at h5 <;> omega
  constructor
  · intro ho
    rw [h, decide_eq_true_iff] at ho
    apply BitVec.eq_of_toInt_eq
    rw [BitVec.toInt_sdiv, BitVec.toInt_sshiftRight, BitVec.toInt_sub, h4, h1, Int.shiftRight_eq_div_pow]
    have e1 : (y.toInt - 1).bmod (2 ^ 64) = y.toInt - 1 := Int.bmod_eq_of_le (by omega) (by omega)
    rw [e1]
    obtain ⟨q, hq⟩ : ∃ q, y.toInt = 2 * q + 1 := ⟨y.toInt / 2, by omega⟩
    rw [hq, show 2 * q + 1 - 1 = 2 * q from by omega, Int.mul_tdiv_cancel_left _ (by decide)]
    rw [Int.bmod_eq_of_le (by omega) (by omega)]
    omega
  · intro he
    rw [h, decide_eq_false_iff_not] at he
    apply BitVec.eq_of_toInt_eq
    rw [BitVec.toInt_sdiv, BitVec.toInt_sshiftRight, h4, Int.shiftRight_eq_div_pow]
    obtain ⟨q, hq⟩ : ∃ q, y.toInt = 2 * q := ⟨y.toInt / 2, by omega⟩
    rw [hq, Int.mul_tdiv_cancel_left _ (by decide)]
    rw [Int.bmod_eq_of_le (by omega) (by omega)]
    omega

theorem ssr_succ (x : BitVec 64) (k : Nat) : (x.sshiftRight k).sshiftRight 1 = x.sshiftRight (k + 1) := by
  rw [BitVec.sshiftRight_add]
theorem ssr_bit (x : BitVec 64) (k : Nat) (h : k < 64) : (x.sshiftRight k).getLsbD 0 = x.getLsbD k := by
  rw [BitVec.getLsbD_sshiftRight]; simp [h]

/-- The word of the first k bits. -/
theorem add_bit (V y : BitVec 64) (k : Nat) (hk : k < 64) (hy : y.toNat = V.toNat % 2 ^ k) :
    (bi V k = 1 → (y + 1#64 <<< k).toNat = V.toNat % 2 ^ (k + 1)) ∧ (bi V k = 0 → y.toNat = V.toNat % 2 ^ (k + 1)) := by
  have hb := bi_nat V k
  constructor
  · intro h
    have hv : V.toNat / 2 ^ k % 2 = 1 := by omega
    have h1 : (1#64 <<< k).toNat = 2 ^ k := by
      rw [BitVec.toNat_shiftLeft, Nat.shiftLeft_eq, show (1#64).toNat = 1 from rfl, Nat.one_mul]
      exact Nat.mod_eq_of_lt (Nat.pow_lt_pow_right (by decide) hk)
    have em : V.toNat % 2 ^ (k + 1) = V.toNat % 2 ^ k + 2 ^ k := by rw [Nat.mod_pow_succ, hv, Nat.mul_one]
    rw [BitVec.toNat_add, h1, hy, em]
    refine Nat.mod_eq_of_lt ?_
    have h2 := Nat.mod_lt V.toNat (Nat.two_pow_pos k)
    have h3 : 2 ^ (k + 1) ≤ 2 ^ 64 := Nat.pow_le_pow_right (by decide) (by omega)
    rw [Nat.pow_succ] at h3
    omega
  · intro h
    have hv : V.toNat / 2 ^ k % 2 = 0 := by omega
    rw [hy, Nat.mod_pow_succ, hv, Nat.mul_zero, Nat.add_zero]

theorem word_end (V y : BitVec 64) (hy : y.toNat = V.toNat % 2 ^ 63) :
    (bi V 63 = 1 → y - 9223372036854775807#64 - 1#64 = V) ∧ (bi V 63 = 0 → y = V) := by
  have hb := bi_nat V 63
  have hV := V.isLt
  constructor
  · intro h
    apply BitVec.eq_of_toNat_eq
    rw [BitVec.toNat_sub, BitVec.toNat_sub, hy, show (1#64).toNat = 1 from rfl, show (9223372036854775807#64).toNat = 9223372036854775807 from rfl]
    omega
  · intro h
    apply BitVec.eq_of_toNat_eq
    rw [hy]; omega

/-- The carry into place k. -/
def car (a b : BitVec 64) (c k : Nat) : Nat := (a.toNat % 2 ^ k + b.toNat % 2 ^ k + c) / 2 ^ k
theorem car_zero (a b : BitVec 64) (c : Nat) : car a b c 0 = c := by simp [car, Nat.mod_one]
theorem div_split (A k : Nat) : A = 2 ^ k * (A / 2 ^ k) + A % 2 ^ k := (Nat.div_add_mod A (2 ^ k)).symm
theorem low_bit (N k : Nat) (hk : k < 64) : N % 2 ^ 64 / 2 ^ k % 2 = N / 2 ^ k % 2 := by
  rw [← Nat.toNat_testBit, ← Nat.toNat_testBit, Nat.testBit_mod_two_pow]
  simp [hk]
theorem sum_div (A B c k : Nat) : (A + B + c) / 2 ^ k = A / 2 ^ k + B / 2 ^ k + (A % 2 ^ k + B % 2 ^ k + c) / 2 ^ k := by
  have hp := Nat.two_pow_pos k
  have e : A + B + c = 2 ^ k * (A / 2 ^ k + B / 2 ^ k) + (A % 2 ^ k + B % 2 ^ k + c) := by
    conv => lhs; rw [div_split A k, div_split B k]
    rw [Nat.mul_add]; omega
  rw [e, Nat.mul_add_div hp]
theorem car_bit (a b : BitVec 64) (c k : Nat) (hk : k < 64) : (bi a k + bi b k + (car a b c k : Int)) % 2 = bi (a + b + BitVec.ofNat 64 c) k := by
  rw [bi_nat, bi_nat, bi_nat, BitVec.toNat_add, BitVec.toNat_add, BitVec.toNat_ofNat]
  have e : ((a.toNat + b.toNat) % 2 ^ 64 + c % 2 ^ 64) % 2 ^ 64 = (a.toNat + b.toNat + c) % 2 ^ 64 := by omega
  rw [e, low_bit _ _ hk, sum_div]
  unfold car
  generalize a.toNat / 2 ^ k = p
  generalize b.toNat / 2 ^ k = q
  generalize (a.toNat % 2 ^ k + b.toNat % 2 ^ k + c) / 2 ^ k = r
  omega
theorem car_next (a b : BitVec 64) (c k : Nat) : (bi a k + bi b k + (car a b c k : Int)) / 2 = (car a b c (k + 1) : Int) := by
  rw [bi_nat, bi_nat]
  have hp := Nat.two_pow_pos k
  have e : car a b c (k + 1) = (a.toNat / 2 ^ k % 2 + b.toNat / 2 ^ k % 2 + car a b c k) / 2 := by
    unfold car
    rw [Nat.mod_pow_succ, Nat.mod_pow_succ, Nat.pow_succ, ← Nat.div_div_eq_div_mul]
    congr 1
    have : a.toNat % 2 ^ k + 2 ^ k * (a.toNat / 2 ^ k % 2) + (b.toNat % 2 ^ k + 2 ^ k * (b.toNat / 2 ^ k % 2)) + c = 2 ^ k * (a.toNat / 2 ^ k % 2 + b.toNat / 2 ^ k % 2) + (a.toNat % 2 ^ k + b.toNat % 2 ^ k + c) := by
      rw [Nat.mul_add]; omega
    rw [this, Nat.mul_add_div hp]
  rw [e]; omega
theorem car_le (a b : BitVec 64) (c k : Nat) (hc : c ≤ 1) : car a b c k ≤ 1 := by
  have hp := Nat.two_pow_pos k
  have h1 := Nat.mod_lt a.toNat hp
  have h2 := Nat.mod_lt b.toNat hp
  unfold car
  rw [← Nat.lt_succ_iff]
  exact Nat.div_lt_of_lt_mul (by omega)
end Go.Proofs.Ytbmommomhepfpaa
