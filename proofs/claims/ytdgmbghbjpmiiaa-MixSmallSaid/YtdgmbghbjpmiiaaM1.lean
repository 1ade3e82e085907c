/- The plain laws of folding and mixing. -/
import Derived.Test.YtdgmbghbjpmiiaaW5
namespace Go.Proofs.Ytdgmbghbjpmiiaa

theorem foldV_ge (x : BitVec 64) (n : Nat) (h : 64 ≤ n) : foldV x n = x := by
  unfold foldV
  rw [BitVec.ushiftRight_eq_zero (by omega)]
  simp

theorem foldV_twice (x : BitVec 64) (n : Nat) : foldV (foldV x n) n = foldV x (2 * n) := by
  unfold foldV
  rw [BitVec.ushiftRight_xor_distrib, ← BitVec.shiftRight_add, show n + n = 2 * n from by omega]
  rw [BitVec.xor_assoc, ← BitVec.xor_assoc (x >>> n) (x >>> n)]
  simp

theorem foldV_comm (x : BitVec 64) (m n : Nat) : foldV (foldV x m) n = foldV (foldV x n) m := by
  unfold foldV
  rw [BitVec.ushiftRight_xor_distrib, BitVec.ushiftRight_xor_distrib, ← BitVec.shiftRight_add, ← BitVec.shiftRight_add, Nat.add_comm m n]
  ac_rfl

theorem unf_fold (f : Nat) : ∀ (x : BitVec 64) (n : Nat), 64 ≤ n * 2 ^ f → unf f (foldV x n) n = x := by
  induction f with
  | zero => intro x n h; rw [unf]; exact foldV_ge x n (by simpa using h)
  | succ f ih =>
    intro x n h
    rw [unf]
    split
    · rw [foldV_twice]
      exact ih x (2 * n) (by rw [Nat.pow_succ] at h; rw [Nat.mul_comm 2 n, Nat.mul_assoc, Nat.mul_comm 2]; exact h)
    · exact foldV_ge x n (by omega)

theorem fold_unf (f : Nat) : ∀ (x : BitVec 64) (m n : Nat), foldV (unf f x m) n = unf f (foldV x n) m := by
  induction f with
  | zero => intro x m n; rfl
  | succ f ih =>
    intro x m n
    rw [unf, unf]
    split
    · rw [ih, foldV_comm]
    · rfl

theorem unfold_fold (x : BitVec 64) (n : Nat) (h : 1 ≤ n) : unfoldV (foldV x n) n = x := unf_fold 7 x n (by omega)
theorem fold_unfold (x : BitVec 64) (n : Nat) (h : 1 ≤ n) : foldV (unfoldV x n) n = x := by
  unfold unfoldV; rw [fold_unf]; exact unf_fold 7 x n (by omega)

theorem pow1 : powV 62 13787848793156543929#64 * 13787848793156543929#64 = 1#64 := by decide +kernel
theorem pow2 : powV 62 10723151780598845931#64 * 10723151780598845931#64 = 1#64 := by decide +kernel

theorem pow1' : 13787848793156543929#64 * powV 62 13787848793156543929#64 = 1#64 := by rw [BitVec.mul_comm]; exact pow1
theorem pow2' : 10723151780598845931#64 * powV 62 10723151780598845931#64 = 1#64 := by rw [BitVec.mul_comm]; exact pow2

theorem unmix_mix (x : BitVec 64) : unmixV (mixV x) = x := by
  unfold unmixV mixV
  rw [unfold_fold _ 31 (by decide), BitVec.mul_assoc, pow2', BitVec.mul_one,
    unfold_fold _ 27 (by decide), BitVec.mul_assoc, pow1', BitVec.mul_one, unfold_fold _ 30 (by decide)]

theorem mix_unmix (x : BitVec 64) : mixV (unmixV x) = x := by
  unfold unmixV mixV
  rw [fold_unfold _ 30 (by decide), BitVec.mul_assoc, pow1, BitVec.mul_one,
    fold_unfold _ 27 (by decide), BitVec.mul_assoc, pow2, BitVec.mul_one, fold_unfold _ 31 (by decide)]

theorem mix_inj (x y : BitVec 64) : mixV x = mixV y ↔ x = y :=
  ⟨fun h => by rw [← unmix_mix x, h, unmix_mix], fun h => by rw [h]⟩
theorem mix_zero (x : BitVec 64) : mixV x = 0#64 ↔ x = 0#64 := by
  rw [← mix_inj x 0#64, ex1]

theorem foldV_xor (x y : BitVec 64) (n : Nat) : foldV (x ^^^ y) n = foldV x n ^^^ foldV y n := by
  unfold foldV
  rw [BitVec.ushiftRight_xor_distrib]; ac_rfl
end Go.Proofs.Ytdgmbghbjpmiiaa
