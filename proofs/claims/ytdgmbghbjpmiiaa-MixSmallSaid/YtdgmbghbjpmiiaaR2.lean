/- Walks of the reference: divided, Unmix, Join. -/
import Derived.Test.YtdgmbghbjpmiiaaR1
import Derived.Deep.QuietTactic
import Derived.BigQuiet
namespace Go.Proofs.Ytdgmbghbjpmiiaa
open Go.RowKit

theorem odd_bit (V y B x i : Nat) (hB : B % 2 = 1) (hy : y = V % 2 ^ i) (hi : i < 64) (hx : x = V * B % 2 ^ 64) :
    (x / 2 ^ i % 2 = ((y * B) % 2 ^ 64) / 2 ^ i % 2 ↔ V / 2 ^ i % 2 = 0) := by
  have hp : 0 < 2 ^ i := Nat.two_pow_pos i
  have cut : ∀ n : Nat, n % 2 ^ 64 / 2 ^ i % 2 = n / 2 ^ i % 2 := by
    intro n
    rw [show (2 : Nat) ^ 64 = 2 ^ i * 2 ^ (64 - i) from by rw [← Nat.pow_add]; congr 1; omega, Nat.mod_mul_right_div_self]
    have : (2 : Nat) ^ (64 - i) = 2 * 2 ^ (63 - i) := by rw [← Nat.pow_succ']; congr 1; omega
    rw [this, Nat.mod_mul_right_mod]
  rw [hx, cut, cut]
  have hV : V = y + 2 ^ i * (V / 2 ^ i) := by rw [hy, Nat.add_comm]; exact (Nat.div_add_mod V (2 ^ i)).symm
  have e : V * B / 2 ^ i = y * B / 2 ^ i + (V / 2 ^ i) * B := by
    conv => lhs; rw [hV]
    rw [Nat.add_mul, Nat.mul_assoc, Nat.add_mul_div_left _ _ hp]
  rw [e]
  generalize V / 2 ^ i = q
  generalize y * B / 2 ^ i = r
  have h2 : q * B % 2 = q % 2 := by rw [Nat.mul_mod, hB, Nat.mul_one, Nat.mod_mod]
  omega

theorem div_step (V y B : BitVec 64) (k : Nat) (hB : B.toNat % 2 = 1) (hk : k < 64) (hy : y.toNat = V.toNat % 2 ^ k) :
    (((y * B) >>> k % 2#64 = (V * B) >>> k % 2#64) → y.toNat = V.toNat % 2 ^ (k + 1)) ∧
    (¬ ((y * B) >>> k % 2#64 = (V * B) >>> k % 2#64) → (y + 1#64 <<< k).toNat = V.toNat % 2 ^ (k + 1)) := by
  have key := odd_bit V.toNat y.toNat B.toNat (V * B).toNat k hB hy hk (BitVec.toNat_mul V B)
  have hiff : ((y * B) >>> k % 2#64 = (V * B) >>> k % 2#64) ↔ V.toNat / 2 ^ k % 2 = 0 := by
    rw [← key, ← BitVec.toNat_inj, bit2, bit2, BitVec.toNat_mul y B]
    exact eq_comm
  refine ⟨fun h => ?_, fun h => ?_⟩
  · rw [Nat.mod_pow_succ, hiff.1 h, hy]; simp
  · refine add_bit V y 1#64 k hk hy ?_
    have h1 : ¬ V.toNat / 2 ^ k % 2 = 0 := fun e => h (hiff.2 e)
    show 1 = _
    omega

theorem two_pow (k : Nat) (h : k < 64) : BitVec.ofInt 64 (2 ^ k) = 1#64 <<< k := by
  apply BitVec.eq_of_toNat_eq
  have e : ((2 : Int) ^ k) = ((2 ^ k : Nat) : Int) := by simp
  have h2 : 2 ^ k < 2 ^ 64 := Nat.pow_lt_pow_right (by decide) h
  have h3 : (1#64 <<< k).toNat = 2 ^ k := by
    rw [BitVec.toNat_shiftLeft, Nat.shiftLeft_eq]
    show 1 * 2 ^ k % 2 ^ 64 = _
    rw [Nat.one_mul, Nat.mod_eq_of_lt h2]
  rw [e, BitVec.toNat_ofInt, h3]
  omega

set_option maxHeartbeats 1000000 in
theorem divided_aux (V B : BitVec 64) (hB : B.toNat % 2 = 1) (w : World) :
    Calls Try.prog 35 #[u (V * B), u B] w fun e w' => e = .returned (u V) ∧ Below w.heap.size w w' := by
  go_enter Try.func35, Try.ntmps35
  go_wp2_with fail
  go_loopw [5, 6] (fun a i W => ∃ (k : Nat) (y : BitVec 64), k ≤ 64 ∧ a = u y ∧ i = .int .i64 k ∧ Hd (y.toNat = V.toNat % 2 ^ k) ∧ Below w.heap.size w W) (fun _ i _ => 64 - (intOf i).toNat)
  case atStart => exact ⟨0, 0#64, by omega, rfl, rfl, ⟨by simp [Nat.mod_one]⟩, Below.refl _ _⟩
  case round =>
    obtain ⟨k, y, hk, rfl, rfl, HH, hb⟩ := hrel
    by_cases hlt : k < 64
    · have hst := div_step V y B k hB hlt HH.out
      by_cases he : (y * B) >>> k % 2#64 = (V * B) >>> k % 2#64
      · have hne : ((y * B) >>> k % 2#64 != (V * B) >>> k % 2#64) = false := by simp [he]
        have HS := Hd.mk (hst.1 he)
        clear hst he
        go_wp2_with fail
        go_quiet (fail)
        go_wp2_with fail
        go_roundw
        case rel => exact ⟨k + 1, _, by omega, rfl, by go_num, HS, below_drewN hb _⟩
        case measure => simp [intOf]; omega
      · have hne : ((y * B) >>> k % 2#64 != (V * B) >>> k % 2#64) = true := by simp [he]
        have HS := Hd.mk (hst.2 he)
        rw [← two_pow k hlt] at HS
        clear hst he
        go_wp2_with fail
        go_quiet (fail)
        go_wp2_with fail
        go_roundw
        case rel => exact ⟨k + 1, _, by omega, rfl, by go_num, HS, below_drewN hb _⟩
        case measure => simp [intOf]; omega
    · go_wp2_with fail
      go_ret
      refine ⟨ret_u (BitVec.eq_of_toNat_eq ?_), hb⟩
      rw [HH.out, show k = 64 from by omega]
      exact Nat.mod_eq_of_lt V.isLt

theorem pow_odd1 : (13787848793156543929#64).toNat % 2 = 1 := by decide
theorem pow_odd2 : (10723151780598845931#64).toNat % 2 = 1 := by decide

set_option maxHeartbeats 1000000 in
theorem refUnmix_any (x : BitVec 64) (w : World) :
    Calls Try.prog 27 #[u x] w fun e w' => e = .returned (u (unmixV x)) ∧ Below w.heap.size w w' := by
  have d2 : ∀ y : BitVec 64, (y * powV 62 10723151780598845931#64) * 10723151780598845931#64 = y := fun y => by rw [BitVec.mul_assoc, pow2, BitVec.mul_one]
  have d1 : ∀ y : BitVec 64, (y * powV 62 13787848793156543929#64) * 13787848793156543929#64 = y := fun y => by rw [BitVec.mul_assoc, pow1, BitVec.mul_one]
  have c2 := fun (y : BitVec 64) (w : World) => divided_aux (y * powV 62 10723151780598845931#64) _ pow_odd2 w
  have c1 := fun (y : BitVec 64) (w : World) => divided_aux (y * powV 62 13787848793156543929#64) _ pow_odd1 w
  simp only [d1, d2] at c1 c2
  have C1 := Hd.mk c1
  have C2 := Hd.mk c2
  clear c1 c2 d1 d2
  go_enter Try.func27, Try.ntmps27
  go_wp2_with fail
  refine (refUnfold_any _ 31 (by decide) (by decide) _).mono ?_
  rintro e w1 ⟨rfl, rfl⟩
  go_wp2_with fail
  refine (C2.out _ _).mono ?_
  rintro e w2 ⟨rfl, hb2⟩
  go_wp2_with fail
  refine (refUnfold_any _ 27 (by decide) (by decide) _).mono ?_
  rintro e w3 ⟨rfl, rfl⟩
  go_wp2_with fail
  refine (C1.out _ _).mono ?_
  rintro e w3 ⟨rfl, hb3⟩
  have hB := hb2.trans (hb3.mono hb2.size)
  clear hb2 hb3
  go_wp2_with fail
  refine (refUnfold_any _ 30 (by decide) (by decide) _).mono ?_
  rintro e w4 ⟨rfl, rfl⟩
  go_wp2_with fail
  go_ret
  exact ⟨rfl, hB⟩
end Go.Proofs.Ytdgmbghbjpmiiaa
