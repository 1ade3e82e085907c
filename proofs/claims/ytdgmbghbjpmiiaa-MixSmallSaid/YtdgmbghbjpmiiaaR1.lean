/- Walks of the reference: Fold, Unfold, Mix. -/
import Derived.Test.YtdgmbghbjpmiiaaM1
namespace Go.Proofs.Ytdgmbghbjpmiiaa
open Go.RowKit

theorem shr_nat (x : BitVec 64) (k : Nat) : (x >>> k).toNat = x.toNat / 2 ^ k := by rw [BitVec.toNat_ushiftRight, Nat.shiftRight_eq_div_pow]

theorem xor_bit (a b k : Nat) : (a ^^^ b) / 2 ^ k % 2 = (a / 2 ^ k % 2 + b / 2 ^ k % 2) % 2 := by
  rw [← Nat.toNat_testBit, ← Nat.toNat_testBit, ← Nat.toNat_testBit, Nat.testBit_xor]
  cases a.testBit k <;> cases b.testBit k <;> rfl

theorem foldV_bit (x : BitVec 64) (n k : Nat) : (foldV x n).toNat / 2 ^ k % 2 = (x.toNat / 2 ^ k % 2 + x.toNat / 2 ^ (k + n) % 2) % 2 := by
  rw [foldV, BitVec.toNat_xor, xor_bit, shr_nat, Nat.div_div_eq_div_mul, ← Nat.pow_add, Nat.add_comm n k]

theorem add_bit (V y b : BitVec 64) (k : Nat) (hk : k < 64) (hy : y.toNat = V.toNat % 2 ^ k) (hb : b.toNat = V.toNat / 2 ^ k % 2) :
    (y + b <<< k).toNat = V.toNat % 2 ^ (k + 1) := by
  have h1 : (b <<< k).toNat = 2 ^ k * (V.toNat / 2 ^ k % 2) := by
    rw [BitVec.toNat_shiftLeft, hb, Nat.shiftLeft_eq, Nat.mul_comm]
    refine Nat.mod_eq_of_lt (Nat.lt_of_le_of_lt (Nat.mul_le_mul_left _ (Nat.le_of_lt_succ (Nat.mod_lt _ (by decide)))) ?_)
    rw [Nat.mul_one]; exact Nat.pow_lt_pow_right (by decide) hk
  rw [BitVec.toNat_add, h1, hy, ← Nat.mod_pow_succ]
  exact Nat.mod_eq_of_lt (Nat.lt_of_lt_of_le (Nat.mod_lt _ (Nat.two_pow_pos _)) (Nat.pow_le_pow_right (by decide) (by omega)))

theorem bit2 (x : BitVec 64) (k : Nat) : ((x >>> k) % 2#64).toNat = x.toNat / 2 ^ k % 2 := by
  rw [BitVec.toNat_umod, shr_nat]; rfl
theorem bit2_add (a b : BitVec 64) (_ha : a.toNat < 2) (_hb : b.toNat < 2) : ((a + b) % 2#64).toNat = (a.toNat + b.toNat) % 2 := by
  rw [BitVec.toNat_umod, BitVec.toNat_add]
  show (a.toNat + b.toNat) % 2 ^ 64 % 2 = _
  omega

theorem fold_step (x y : BitVec 64) (n k : Nat) (hk : k < 64) (hy : y.toNat = (foldV x n).toNat % 2 ^ k) :
    (k + n < 64 → (y + (((x >>> k) % 2#64 + (x >>> (k + n)) % 2#64) % 2#64) <<< k).toNat = (foldV x n).toNat % 2 ^ (k + 1)) ∧
    (64 ≤ k + n → (y + ((x >>> k) % 2#64) <<< k).toNat = (foldV x n).toNat % 2 ^ (k + 1)) := by
  have hv := foldV_bit x n k
  refine ⟨fun h => ?_, fun h => ?_⟩
  · refine add_bit _ _ _ k hk hy ?_
    rw [bit2_add _ _ (by rw [bit2]; omega) (by rw [bit2]; omega), bit2, bit2, hv]
  · refine add_bit _ _ _ k hk hy ?_
    rw [bit2, hv, Nat.div_eq_of_lt (Nat.lt_of_lt_of_le x.isLt (Nat.pow_le_pow_right (by decide) h))]
    omega

set_option maxHeartbeats 1000000 in
theorem refFold_any (x : BitVec 64) (n : Nat) (h1 : 1 ≤ n) (h2 : n ≤ 63) (w : World) :
    Calls Try.prog 24 #[u x, .int .i64 n] w fun e w' => e = .returned (u (foldV x n)) ∧ w = w' := by
  go_enter Try.func24, Try.ntmps24
  go_wp2_with fail
  go_loop [5, 6] (fun a i => ∃ (k : Nat) (y : BitVec 64), k ≤ 64 ∧ a = u y ∧ i = .int .i64 k ∧ Hd (y.toNat = (foldV x n).toNat % 2 ^ k)) (fun _ i => 64 - (intOf i).toNat)
  case atStart => exact ⟨0, 0#64, by omega, rfl, rfl, ⟨by simp [Nat.mod_one]⟩⟩
  case round =>
    obtain ⟨k, y, hk, rfl, rfl, HH⟩ := hrel
    have hkn : 0 ≤ (k : Int) + (n : Int) := by omega
    have hkt : ((k : Int) + (n : Int)).toNat = k + n := by omega
    by_cases hlt : k < 64
    · by_cases hin : k + n < 64
      · go_wp2_with fail
        go_round
        case rel => exact ⟨k + 1, _, by omega, rfl, by go_num, ⟨(fold_step x y n k hlt HH.out).1 hin⟩⟩
        case measure => simp [intOf]; omega
      · go_wp2_with fail
        go_round
        case rel => exact ⟨k + 1, _, by omega, rfl, by go_num, ⟨(fold_step x y n k hlt HH.out).2 (by omega)⟩⟩
        case measure => simp [intOf]; omega
    · go_wp2_with fail
      go_ret
      refine ⟨ret_u (BitVec.eq_of_toNat_eq ?_), rfl⟩
      rw [HH.out, show k = 64 from by omega]
      exact Nat.mod_eq_of_lt (foldV x n).isLt

set_option maxHeartbeats 400000 in
theorem refMix_any (x : BitVec 64) (w : World) :
    Calls Try.prog 26 #[u x] w fun e w' => e = .returned (u (mixV x)) ∧ w = w' := by
  go_enter Try.func26, Try.ntmps26
  go_wp2_with fail
  refine (refFold_any _ 30 (by decide) (by decide) _).mono ?_
  rintro e w1 ⟨rfl, rfl⟩
  go_wp2_with fail
  refine (refFold_any _ 27 (by decide) (by decide) _).mono ?_
  rintro e w1 ⟨rfl, rfl⟩
  go_wp2_with fail
  refine (refFold_any _ 31 (by decide) (by decide) _).mono ?_
  rintro e w1 ⟨rfl, rfl⟩
  go_wp2_with fail
  go_ret
  exact ⟨rfl, rfl⟩

/-- The bits from place m on. -/
def hi (V : BitVec 64) (m : Nat) : Nat := V.toNat / 2 ^ m * 2 ^ m

theorem hi_step (V y b : BitVec 64) (m : Nat) (hm : m < 64) (hy : y.toNat = hi V (m + 1)) (hb : b.toNat = V.toNat / 2 ^ m % 2) :
    (y + b <<< m).toNat = hi V m := by
  have hp : 0 < 2 ^ m := Nat.two_pow_pos m
  have h1 : (b <<< m).toNat = (V.toNat / 2 ^ m % 2) * 2 ^ m := by
    rw [BitVec.toNat_shiftLeft, hb, Nat.shiftLeft_eq]
    refine Nat.mod_eq_of_lt (Nat.lt_of_le_of_lt (Nat.mul_le_mul_right _ (Nat.le_of_lt_succ (Nat.mod_lt _ (by decide)))) ?_)
    rw [Nat.one_mul]; exact Nat.pow_lt_pow_right (by decide) hm
  have h2 : hi V (m + 1) + (V.toNat / 2 ^ m % 2) * 2 ^ m = hi V m := by
    unfold hi
    have e : V.toNat / 2 ^ (m + 1) = V.toNat / 2 ^ m / 2 := by rw [Nat.pow_succ, Nat.div_div_eq_div_mul]
    rw [e, Nat.pow_succ, Nat.mul_comm (2 ^ m) 2, ← Nat.mul_assoc, ← Nat.add_mul]
    congr 1
    omega
  rw [BitVec.toNat_add, h1, hy, h2]
  refine Nat.mod_eq_of_lt (Nat.lt_of_le_of_lt (Nat.div_mul_le_self _ _) V.isLt)

theorem hi_bit (V : BitVec 64) (m j : Nat) (h : m ≤ j) : hi V m / 2 ^ j % 2 = V.toNat / 2 ^ j % 2 := by
  have e : 2 ^ j = 2 ^ m * 2 ^ (j - m) := by rw [← Nat.pow_add]; congr 1; omega
  unfold hi
  rw [e, ← Nat.div_div_eq_div_mul, Nat.mul_div_cancel _ (Nat.two_pow_pos m), Nat.div_div_eq_div_mul]

theorem unfold_step (V y : BitVec 64) (n m : Nat) (hn : 1 ≤ n) (hm : m < 64) (hy : y.toNat = hi V (m + 1)) :
    (m + n < 64 → (y + (((foldV V n >>> m) % 2#64 + (y >>> (m + n)) % 2#64) % 2#64) <<< m).toNat = hi V m) ∧
    (64 ≤ m + n → (y + ((foldV V n >>> m) % 2#64) <<< m).toNat = hi V m) := by
  have hv := foldV_bit V n m
  refine ⟨fun h => ?_, fun h => ?_⟩
  · refine hi_step _ _ _ m hm hy ?_
    rw [bit2_add _ _ (by rw [bit2]; omega) (by rw [bit2]; omega), bit2, bit2, hv, hy, hi_bit V (m + 1) (m + n) (by omega)]
    omega
  · refine hi_step _ _ _ m hm hy ?_
    rw [bit2, hv, Nat.div_eq_of_lt (Nat.lt_of_lt_of_le V.isLt (Nat.pow_le_pow_right (by decide) h))]
    omega

set_option maxHeartbeats 1000000 in
theorem refUnfold_aux (V : BitVec 64) (n : Nat) (h1 : 1 ≤ n) (h2 : n ≤ 63) (w : World) :
    Calls Try.prog 25 #[u (foldV V n), .int .i64 n] w fun e w' => e = .returned (u V) ∧ w = w' := by
  go_enter Try.func25, Try.ntmps25
  go_wp2_with fail
  go_loop [5, 6] (fun a i => ∃ (k : Nat) (y : BitVec 64), k ≤ 64 ∧ a = u y ∧ i = .int .i64 ((k : Int) - 1) ∧ Hd (y.toNat = hi V k)) (fun _ i => (intOf i + 1).toNat)
  case atStart => exact ⟨64, 0#64, by omega, rfl, rfl, ⟨by rw [hi, Nat.div_eq_of_lt V.isLt]; rfl⟩⟩
  case round =>
    obtain ⟨k, y, hk, rfl, rfl, HH⟩ := hrel
    by_cases hlt : 0 < k
    · obtain ⟨m, rfl⟩ : ∃ m, k = m + 1 := ⟨k - 1, by omega⟩
      have hm0 : ((m + 1 : Nat) : Int) - 1 = (m : Int) := by omega
      have hkn : 0 ≤ (m : Int) + (n : Int) := by omega
      have hkt : ((m : Int) + (n : Int)).toNat = m + n := by omega
      have hlt64 : m < 64 := by omega
      rw [hm0]
      clear hm0
      by_cases hin : m + n < 64
      · go_wp2_with fail
        go_round
        case rel => exact ⟨m, _, by omega, rfl, by go_num, ⟨(unfold_step V y n m h1 hlt64 HH.out).1 hin⟩⟩
        case measure => simp [intOf]
      · go_wp2_with fail
        go_round
        case rel => exact ⟨m, _, by omega, rfl, by go_num, ⟨(unfold_step V y n m h1 hlt64 HH.out).2 (by omega)⟩⟩
        case measure => simp [intOf]
    · obtain rfl : k = 0 := by omega
      go_wp2_with fail
      go_ret
      refine ⟨ret_u (BitVec.eq_of_toNat_eq ?_), rfl⟩
      rw [HH.out, hi]
      simp

theorem refUnfold_any (x : BitVec 64) (n : Nat) (h1 : 1 ≤ n) (h2 : n ≤ 63) (w : World) :
    Calls Try.prog 25 #[u x, .int .i64 n] w fun e w' => e = .returned (u (unfoldV x n)) ∧ w = w' := by
  have := refUnfold_aux (unfoldV x n) n h1 h2 w
  rwa [fold_unfold x n h1] at this
end Go.Proofs.Ytdgmbghbjpmiiaa
