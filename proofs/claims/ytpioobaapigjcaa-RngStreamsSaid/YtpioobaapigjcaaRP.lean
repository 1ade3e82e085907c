/- Plain facts on products, bounds and ranges. -/
namespace Go.Proofs.Ytpioobaapigjcaa

theorem nlow (x : BitVec 64) : (x &&& 4294967295#64).toNat = x.toNat % 4294967296 := by
  rw [BitVec.toNat_and]
  have : (4294967295#64).toNat = 2 ^ 32 - 1 := by decide
  rw [this, Nat.and_two_pow_sub_one_eq_mod]
theorem nhigh (x : BitVec 64) : (x >>> 32).toNat = x.toNat / 4294967296 := by
  rw [BitVec.toNat_ushiftRight, Nat.shiftRight_eq_div_pow]

theorem mul_small {x y : Nat} (hx : x < 4294967296) (hy : y < 4294967296) : x * y ≤ 18446744065119617025 := by
  calc x * y ≤ 4294967295 * 4294967295 := Nat.mul_le_mul (by omega) (by omega)
    _ = 18446744065119617025 := by decide

def upP (v n : BitVec 64) : BitVec 64 := (v &&& 4294967295#64) * (n &&& 4294967295#64)
def upQ (v n : BitVec 64) : BitVec 64 := (v >>> 32) * (n &&& 4294967295#64) + upP v n >>> 32
def upR (v n : BitVec 64) : BitVec 64 := (v &&& 4294967295#64) * (n >>> 32) + (upQ v n &&& 4294967295#64)
def upV (v n : BitVec 64) : BitVec 64 := (v >>> 32) * (n >>> 32) + upQ v n >>> 32 + upR v n >>> 32

theorem up_nat (a b : BitVec 64) : (upV a b).toNat = a.toNat * b.toNat / 18446744073709551616 := by
  obtain ⟨xh, hxh⟩ : ∃ n, n = a.toNat / 4294967296 := ⟨_, rfl⟩
  obtain ⟨xl, hxl⟩ : ∃ n, n = a.toNat % 4294967296 := ⟨_, rfl⟩
  obtain ⟨yh, hyh⟩ : ∃ n, n = b.toNat / 4294967296 := ⟨_, rfl⟩
  obtain ⟨yl, hyl⟩ : ∃ n, n = b.toNat % 4294967296 := ⟨_, rfl⟩
  have ha := a.isLt
  have hb := b.isLt
  have b1 := mul_small (x := xl) (y := yl) (by omega) (by omega)
  have b2 := mul_small (x := xh) (y := yl) (by omega) (by omega)
  have b3 := mul_small (x := xl) (y := yh) (by omega) (by omega)
  have b4 := mul_small (x := xh) (y := yh) (by omega) (by omega)
  have hp : (upP a b).toNat = xl * yl := by
    rw [upP, BitVec.toNat_mul, nlow, nlow, ← hxl, ← hyl, Nat.mod_eq_of_lt (by omega)]
  have hpq : (upP a b >>> 32).toNat = xl * yl / 4294967296 := by rw [nhigh, hp]
  have hq : (upQ a b).toNat = xh * yl + xl * yl / 4294967296 := by
    rw [upQ, BitVec.toNat_add, BitVec.toNat_mul, nhigh, nlow, hpq, ← hxh, ← hyl]
    omega
  have hr : (upR a b).toNat = xl * yh + (xh * yl + xl * yl / 4294967296) % 4294967296 := by
    rw [upR, BitVec.toNat_add, BitVec.toNat_mul, nhigh, nlow, nlow, hq, ← hxl, ← hyh]
    omega
  have hh : (upV a b).toNat = xh * yh + (xh * yl + xl * yl / 4294967296) / 4294967296 + (xl * yh + (xh * yl + xl * yl / 4294967296) % 4294967296) / 4294967296 := by
    rw [upV, BitVec.toNat_add, BitVec.toNat_add, BitVec.toNat_mul, nhigh, nhigh, nhigh, nhigh, hq, hr, ← hxh, ← hyh]
    omega
  rw [hh]
  have ea : a.toNat = xh * 4294967296 + xl := by omega
  have eb : b.toNat = yh * 4294967296 + yl := by omega
  have : a.toNat * b.toNat = xh * yh * 18446744073709551616 + xh * yl * 4294967296 + xl * yh * 4294967296 + xl * yl := by rw [ea, eb]; grind
  rw [this]
  generalize xh * yh = A at *
  generalize xh * yl = B at *
  generalize xl * yh = C at *
  generalize xl * yl = D at *
  omega

/-- The number below a bound. -/
def blw (v n : Nat) : Nat := v * n / 18446744073709551616

theorem blw_lt (v n : Nat) (hv : v < 18446744073709551616) (hn : 0 < n) : blw v n < n := by
  unfold blw
  refine Nat.div_lt_of_lt_mul ?_
  exact Nat.mul_lt_mul_of_pos_right hv hn
theorem blw_mono (v w n : Nat) (h : v ≤ w) : blw v n ≤ blw w n := Nat.div_le_div_right (Nat.mul_le_mul_right n h)
theorem blw_mono_n (v n m : Nat) (h : n ≤ m) : blw v n ≤ blw v m := Nat.div_le_div_right (Nat.mul_le_mul_left v h)
theorem blw_mul (v p q : Nat) (hq : 0 < q) : blw v (p * q) / q = blw v p := by
  unfold blw
  rw [Nat.div_div_eq_div_mul, ← Nat.mul_assoc, Nat.mul_div_mul_right _ _ hq]

/-- The least number whose number below n is k, rounded up. -/
def fst' (n k : Nat) : Nat := (k * 18446744073709551616 + (n - 1)) / n

theorem fst_le_iff (n k v : Nat) (hn : 0 < n) : fst' n k ≤ v ↔ k * 18446744073709551616 ≤ v * n := by
  unfold fst'
  rw [← Nat.lt_succ_iff, Nat.div_lt_iff_lt_mul hn, Nat.succ_mul]
  omega
theorem blw_ge_iff (v n k : Nat) (hn : 0 < n) : k ≤ blw v n ↔ fst' n k ≤ v := by
  rw [fst_le_iff n k v hn, blw, Nat.le_div_iff_mul_le (by decide)]
theorem blw_eq (v n k : Nat) (hn : 0 < n) (h1 : fst' n k ≤ v) (h2 : v < fst' n (k + 1)) : blw v n = k := by
  have a := (blw_ge_iff v n k hn).2 h1
  have b : ¬ k + 1 ≤ blw v n := fun h => by have := (blw_ge_iff v n (k + 1) hn).1 h; omega
  omega
theorem fst_mono (n k l : Nat) (h : k ≤ l) : fst' n k ≤ fst' n l := Nat.div_le_div_right (Nat.add_le_add_right (Nat.mul_le_mul_right _ h) _)
theorem fst_zero (n : Nat) (hn : 0 < n) : fst' n 0 = 0 := by
  unfold fst'; rw [Nat.zero_mul, Nat.zero_add]; exact Nat.div_eq_of_lt (by omega)
theorem fst_n (n : Nat) (hn : 0 < n) : fst' n n = 18446744073709551616 := by
  unfold fst'
  rw [Nat.mul_add_div hn, Nat.div_eq_of_lt (by omega), Nat.add_zero]
theorem fst_lt (n k : Nat) (h : k < n) (hn : n < 9223372036854775808) : fst' n k < fst' n (k + 1) := by
  have h0 : 0 < n := by omega
  have h1 : ¬ fst' n (k + 1) ≤ fst' n k := by
    intro hc
    have h2 := (fst_le_iff n (k + 1) (fst' n k) h0).1 hc
    have h3 : fst' n k * n ≤ k * 18446744073709551616 + (n - 1) := Nat.div_mul_le_self _ _
    omega
  omega
theorem fst_bound (n k : Nat) (h : k < n) (hn : n < 9223372036854775808) : fst' n k < 18446744073709551616 := by
  have := fst_lt n k h hn
  have := fst_mono n (k + 1) n h
  rw [fst_n n (by omega)] at this
  omega
/-- How many numbers become k: two such counts differ by one at most. -/
theorem fst_gap (n k l : Nat) (hn : 0 < n) : fst' n (k + 1) - fst' n k ≤ fst' n (l + 1) - fst' n l + 1 := by
  have e : ∀ j, fst' n j * n ≤ j * 18446744073709551616 + (n - 1) := fun j => Nat.div_mul_le_self _ _
  have f : ∀ j, j * 18446744073709551616 ≤ fst' n j * n := fun j => (fst_le_iff n j _ hn).1 (Nat.le_refl _)
  have m1 := fst_mono n k (k + 1) (by omega)
  have m2 := fst_mono n l (l + 1) (by omega)
  have a1 := e (k + 1); have a2 := f k; have a3 := f (l + 1); have a4 := e l
  obtain ⟨x, hx⟩ : ∃ x, fst' n (k + 1) = fst' n k + x := ⟨fst' n (k + 1) - fst' n k, by omega⟩
  obtain ⟨y, hy⟩ : ∃ y, fst' n (l + 1) = fst' n l + y := ⟨fst' n (l + 1) - fst' n l, by omega⟩
  rw [hx, hy]
  rw [hx, Nat.add_mul (fst' n k) x n] at a1
  rw [hy, Nat.add_mul (fst' n l) y n] at a3
  have key : x * n < (y + 2) * n := by
    rw [Nat.add_mul y 2 n]; omega
  have := Nat.lt_of_mul_lt_mul_right key
  omega

/-- Division, bit by bit: one step. -/
structure FsQ (n k q r left : Nat) : Prop where
  lt : r < n
  le : left ≤ 64
  eq : (q * n + r) * 2 ^ left = k * 18446744073709551616

theorem FsQ.start (n k : Nat) (h : k < n) : FsQ n k 0 k 64 := ⟨h, Nat.le_refl _, by simp⟩
theorem FsQ.low {n k q r left : Nat} (h : FsQ n k q r (left + 1)) (hr : ¬ n ≤ 2 * r) : FsQ n k (2 * q) (2 * r) left := by
  refine ⟨by omega, by have := h.le; omega, ?_⟩
  rw [← h.eq, Nat.pow_succ, Nat.mul_comm (2 ^ left) 2, ← Nat.mul_assoc]
  congr 1
  rw [Nat.add_mul, Nat.mul_comm 2 q, Nat.mul_right_comm, Nat.mul_comm 2 r]
theorem FsQ.high {n k q r left : Nat} (h : FsQ n k q r (left + 1)) (hr : n ≤ 2 * r) : FsQ n k (2 * q + 1) (2 * r - n) left := by
  refine ⟨by have := h.lt; omega, by have := h.le; omega, ?_⟩
  rw [← h.eq, Nat.pow_succ, Nat.mul_comm (2 ^ left) 2, ← Nat.mul_assoc]
  congr 1
  have e : (2 * q + 1) * n = q * n * 2 + n := by rw [Nat.add_mul, Nat.one_mul, Nat.mul_comm 2 q, Nat.mul_right_comm]
  rw [e, Nat.add_mul]; omega
theorem FsQ.qlt {n k q r left : Nat} (h : FsQ n k q r left) (hk : k < n) : q * 2 ^ left < 18446744073709551616 := by
  have h1 : q * 2 ^ left * n ≤ k * 18446744073709551616 := by
    rw [← h.eq, Nat.mul_right_comm]
    exact Nat.mul_le_mul_right _ (by omega)
  have h2 : k * 18446744073709551616 < 18446744073709551616 * n := by rw [Nat.mul_comm]; exact Nat.mul_lt_mul_of_pos_left hk (by decide)
  exact Nat.lt_of_mul_lt_mul_right (Nat.lt_of_le_of_lt h1 h2)
theorem FsQ.qlt' {n k q r left : Nat} (h : FsQ n k q r left) (hk : k < n) : q < 18446744073709551616 :=
  Nat.lt_of_le_of_lt (Nat.le_mul_of_pos_right _ (Nat.two_pow_pos _)) (h.qlt hk)
theorem FsQ.done0 {n k q left : Nat} (h : FsQ n k q 0 left) : q * 2 ^ left = fst' n k := by
  have hn : 0 < n := h.lt
  have e : k * 18446744073709551616 = n * (q * 2 ^ left) := by rw [← h.eq, Nat.add_zero, Nat.mul_comm n, Nat.mul_right_comm]
  unfold fst'
  rw [e, Nat.mul_add_div hn, Nat.div_eq_of_lt (by omega), Nat.add_zero]
theorem FsQ.done1 {n k q r : Nat} (h : FsQ n k q r 0) (hr : 0 < r) : q + 1 = fst' n k := by
  have hn := h.lt
  have e : k * 18446744073709551616 + (n - 1) = n * (q + 1) + (r - 1) := by
    rw [← h.eq, Nat.mul_add, Nat.mul_comm n q]; simp; omega
  unfold fst'
  rw [e, Nat.mul_add_div (by omega), Nat.div_eq_of_lt (by omega), Nat.add_zero]
end Go.Proofs.Ytpioobaapigjcaa
