/- Walks of the reference for mixing: Fold, Mix, Join. -/
import Derived.Test.YtpioobaapigjcaaMix
import Derived.Deep.QuietTactic
import Derived.BigQuiet
namespace Go.Proofs.Ytpioobaapigjcaa
open Go.RowKit

theorem shr_nat (x : BitVec 64) (k : Nat) : (x >>> k).toNat = x.toNat / 2 ^ k := by rw [BitVec.toNat_ushiftRight, Nat.shiftRight_eq_div_pow]

theorem xor_bit (a b k : Nat) : (a ^^^ b) / 2 ^ k % 2 = (a / 2 ^ k % 2 + b / 2 ^ k % 2) % 2 := by
  rw [← Nat.toNat_testBit, ← Nat.toNat_testBit, ← Nat.toNat_testBit, Nat.testBit_xor]
  cases a.testBit k <;> cases b.testBit k <;> rfl

theorem foldV_bit (x : BitVec 64) (n k : Nat) : (foldV x n).toNat / 2 ^ k % 2 = (x.toNat / 2 ^ k % 2 + x.toNat / 2 ^ (k + n) % 2) % 2 := by
  rw [foldV, BitVec.toNat_xor, xor_bit, shr_nat, Nat.div_div_eq_div_mul, ← Nat.pow_add, Nat.add_comm n k]

theorem add_bit (V y b : BitVec 64) (k : Nat) (hk : k < 64) (hy : y.toNat = V.toNat % 2 ^ k) (hb : b.toNat = V.toNat / 2 ^ k % 2) :
    (y + b <<< k).toNat = V.toNat % 2 ^ (k + 1) := by
  have h1 : (b <<< k).toNat = 2 ^ k * (V.toNat / 2 ^ k % 2) := by
    rw [BitVec.toNat_shiftLeft, hb, Nat.shiftLeft_eq, Nat.mul_comm]
    refine Nat.mod_eq_of_lt (Nat.lt_of_le_of_lt (Nat.mul_le_mul_left _ (Nat.le_of_lt_succ (Nat.mod_lt _ (by decide)))) ?_)
    rw [Nat.mul_one]; exact Nat.pow_lt_pow_right (by decide) hk
  rw [BitVec.toNat_add, h1, hy, ← Nat.mod_pow_succ]
  exact Nat.mod_eq_of_lt (Nat.lt_of_lt_of_le (Nat.mod_lt _ (Nat.two_pow_pos _)) (Nat.pow_le_pow_right (by decide) (by omega)))

theorem bit2 (x : BitVec 64) (k : Nat) : ((x >>> k) % 2#64).toNat = x.toNat / 2 ^ k % 2 := by
  rw [BitVec.toNat_umod, shr_nat]; rfl
theorem bit2_add (a b : BitVec 64) (_ha : a.toNat < 2) (_hb : b.toNat < 2) : ((a + b) % 2#64).toNat = (a.toNat + b.toNat) % 2 := by
  rw [BitVec.toNat_umod, BitVec.toNat_add]
  show (a.toNat + b.toNat) % 2 ^ 64 % 2 = _
  omega

theorem fold_step (x y : BitVec 64) (n k : Nat) (hk : k < 64) (hy : y.toNat = (foldV x n).toNat % 2 ^ k) :
    (k + n < 64 → (y + (((x >>> k) % 2#64 + (x >>> (k + n)) % 2#64) % 2#64) <<< k).toNat = (foldV x n).toNat % 2 ^ (k + 1)) ∧
    (64 ≤ k + n → (y + ((x >>> k) % 2#64) <<< k).toNat = (foldV x n).toNat % 2 ^ (k + 1)) := by
  have hv := foldV_bit x n k
  refine ⟨fun h => ?_, fun h => ?_⟩
  · refine add_bit _ _ _ k hk hy ?_
    rw [bit2_add _ _ (by rw [bit2]; omega) (by rw [bit2]; omega), bit2, bit2, hv]
  · refine add_bit _ _ _ k hk hy ?_
    rw [bit2, hv, Nat.div_eq_of_lt (Nat.lt_of_lt_of_le x.isLt (Nat.pow_le_pow_right (by decide) h))]
    omega

set_option maxHeartbeats 1000000 in
theorem refFold_any (x : BitVec 64) (n : Nat) (h1 : 1 ≤ n) (h2 : n ≤ 63) (w : World) :
    Calls Try.prog 44 #[u x, .int .i64 n] w fun e w' => e = .returned (u (foldV x n)) ∧ w = w' := by
  go_enter Try.func44, Try.ntmps44
  go_wp2_with fail
  go_loop [5, 6] (fun a i => ∃ (k : Nat) (y : BitVec 64), k ≤ 64 ∧ a = u y ∧ i = .int .i64 k ∧ Hd (y.toNat = (foldV x n).toNat % 2 ^ k)) (fun _ i => 64 - (intOf i).toNat)
  case atStart => exact ⟨0, 0#64, by omega, rfl, rfl, ⟨by simp [Nat.mod_one]⟩⟩
  case round =>
    obtain ⟨k, y, hk, rfl, rfl, HH⟩ := hrel
    have hkn : 0 ≤ (k : Int) + (n : Int) := by omega
    have hkt : ((k : Int) + (n : Int)).toNat = k + n := by omega
    by_cases hlt : k < 64
    · by_cases hin : k + n < 64
      · go_wp2_with fail
        go_round
        case rel => exact ⟨k + 1, _, by omega, rfl, by go_num, ⟨(fold_step x y n k hlt HH.out).1 hin⟩⟩
        case measure => simp [intOf]; omega
      · go_wp2_with fail
        go_round
        case rel => exact ⟨k + 1, _, by omega, rfl, by go_num, ⟨(fold_step x y n k hlt HH.out).2 (by omega)⟩⟩
        case measure => simp [intOf]; omega
    · go_wp2_with fail
      go_ret
      refine ⟨ret_u (BitVec.eq_of_toNat_eq ?_), rfl⟩
      rw [HH.out, show k = 64 from by omega]
      exact Nat.mod_eq_of_lt (foldV x n).isLt

set_option maxHeartbeats 400000 in
theorem refMix_any (x : BitVec 64) (w : World) :
    Calls Try.prog 36 #[u x] w fun e w' => e = .returned (u (mixV x)) ∧ w = w' := by
  go_enter Try.func36, Try.ntmps36
  go_wp2_with fail
  refine (refFold_any _ 30 (by decide) (by decide) _).mono ?_
  rintro e w1 ⟨rfl, rfl⟩
  go_wp2_with fail
  refine (refFold_any _ 27 (by decide) (by decide) _).mono ?_
  rintro e w1 ⟨rfl, rfl⟩
  go_wp2_with fail
  refine (refFold_any _ 31 (by decide) (by decide) _).mono ?_
  rintro e w1 ⟨rfl, rfl⟩
  go_wp2_with fail
  go_ret
  exact ⟨rfl, rfl⟩

theorem joinV_last (xs : List (BitVec 64)) (n : Nat) (h : xs.length = n + 1) : joinV xs = joinStep (joinV (xs.take n)) (xs[n]'(by omega)) := by
  rw [joinV_snoc xs n (by omega), List.take_of_length_le (by omega)]

set_option maxHeartbeats 400000 in
theorem refJoin_empty (a : Option Addr) (c : Nat) (w : World) :
    Calls Try.prog 43 #[.slice a 0 c] w fun e w' => e = .returned (u 0#64) ∧ w' = w := by
  go_enter Try.func43, Try.ntmps43
  go_wp2_with fail
  go_ret
  exact ⟨rfl, rfl⟩

set_option maxHeartbeats 1000000 in
theorem refJoin_any (b off cap : Nat) (n : Nat) : ∀ (xs : List (BitVec 64)) (w : World), xs.length = n → n ≤ cap → n ≤ 4611686018427387904 →
    (∀ j (h : j < xs.length), w.cell? ⟨b, off + j, none⟩ = some (u xs[j])) →
    Calls Try.prog 43 #[.slice (some ⟨b, off, none⟩) n cap] w fun e w' => e = .returned (u (joinV xs)) ∧ ∃ m, w' = w.drewN m := by
  induction n with
  | zero =>
    intro xs w hl hc _ _
    obtain rfl : xs = [] := List.length_eq_zero_iff.1 hl
    exact (refJoin_empty _ _ w).mono fun e w' ⟨he, hw⟩ => ⟨he, 0, hw⟩
  | succ n ih =>
    intro xs w hl hcap hbig hc
    have hne : (((n + 1 : Nat) : Int) == 0) = false := beq_eq_false_iff_ne.2 (by omega)
    have hm : ((n + 1 : Nat) : Int) - 1 = (n : Int) := by omega
    have hcn : w.cell? ⟨b, off + n, none⟩ = some (u (xs[n]'(by omega))) := hc n (by omega)
    have ih' : ∀ k, Calls Try.prog 43 #[.slice (some ⟨b, off, none⟩) n cap] (w.drewN k) fun e w' => e = .returned (u (joinV (xs.take n))) ∧ ∃ m, w' = (w.drewN k).drewN m :=
      fun k => ih (xs.take n) (w.drewN k) (by simp; omega) (by omega) (by omega) (fun j h => by
        have hj : j < n := by simp at h; omega
        rw [List.getElem_take]
        exact hc j (by omega))
    have IH := Hd.mk ih'
    have hjj := joinV_last xs n hl
    generalize xs[n]'(by omega) = z at hcn hjj
    have hj := Hd.mk hjj
    have hlt : (n : Int) < ((n + 1 : Nat) : Int) := by omega
    clear ih ih' hc hl hjj
    go_enter Try.func43, Try.ntmps43
    go_wp2_with fail
    go_quiet ((first | (go_at_call 43; exact Calls.quiet_of (IH.out _)) | (go_at_call 36; exact Calls.quiet_of_same ((refMix_any _ _).mono fun _ _ ⟨he, hw⟩ => ⟨he, hw.symm⟩))))
    go_wp2_with fail
    go_ret
    exact ⟨ret_u (by rw [hj.out]; rfl), nq, rfl⟩

theorem refJoin_src (v : Value) (xs : List (BitVec 64)) (w : World) (h : SrcE u w v xs) (hl : xs.length ≤ 4611686018427387904) :
    Calls Try.prog 43 #[v] w fun e w' => e = .returned (u (joinV xs)) ∧ Below w.heap.size w w' := by
  rcases h.cases with ⟨rfl, a, c, rfl⟩ | ⟨b, off, c, rfl, _, hc, _, _, hcell⟩
  · exact (refJoin_empty a c w).mono fun e w' ⟨he, hw⟩ => ⟨he, by rw [hw]; exact Below.refl _ _⟩
  · exact (refJoin_any b off c xs.length xs w rfl hc hl hcell).mono fun e w' ⟨he, m, hw⟩ => ⟨he, by rw [hw]; exact below_drewN (Below.refl _ _) m⟩
end Go.Proofs.Ytpioobaapigjcaa
