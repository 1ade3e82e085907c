/- Walks of mix.Mix, Unmix and Join, and their plain laws. -/
import Derived.Test.YtpioobaapigjcaaRows
import Derived.Test.YtpioobaapigjcaaU
import Derived.Test.YtpioobaapigjcaaOwn
import Derived.LoopTactic
import Derived.Outline
import Derived.Laws.EntriesVeiled
namespace Go.Proofs.Ytpioobaapigjcaa
open Go.RowKit

def foldV (x : BitVec 64) (n : Nat) : BitVec 64 := x ^^^ (x >>> n)

set_option maxHeartbeats 400000 in
theorem fold_any (x : BitVec 64) (n : Int) (h : 0 ≤ n) (w : World) :
    Calls Try.prog 46 #[u x, .int .i64 n] w fun e w' => e = .returned (u (foldV x n.toNat)) ∧ w = w' := by
  go_enter Try.func46, Try.ntmps46
  go_wp2
  go_ret
  exact ⟨rfl, rfl⟩

def mixV (x : BitVec 64) : BitVec 64 :=
  foldV (foldV (foldV x 30 * 13787848793156543929#64) 27 * 10723151780598845931#64) 31

set_option maxHeartbeats 400000 in
theorem mix_any (x : BitVec 64) (w : World) :
    Calls Try.prog 40 #[u x] w fun e w' => e = .returned (u (mixV x)) ∧ w = w' := by
  go_enter Try.func40, Try.ntmps40
  go_wp2_with (go_at_call 46; refine (fold_any _ _ (by decide) _).mono ?_; rintro e w' ⟨rfl, rfl⟩)
  go_ret
  exact ⟨rfl, rfl⟩

def unf : Nat → BitVec 64 → Nat → BitVec 64
  | 0, x, _ => x
  | f + 1, x, n => if n < 64 then unf f (foldV x n) (2 * n) else x

theorem unf_more (f : Nat) : ∀ (x : BitVec 64) (n : Nat), 64 ≤ n * 2 ^ f → unf (f + 1) x n = unf f x n := by
  induction f with
  | zero => intro x n h; simp [unf]; omega
  | succ f ih =>
    intro x n h
    rw [unf]
    conv => rhs; rw [unf]
    split
    · exact ih _ _ (by rw [Nat.pow_succ] at h; rw [Nat.mul_comm 2 n, Nat.mul_assoc, Nat.mul_comm 2]; exact h)
    · rfl

def unfoldV (x : BitVec 64) (n : Nat) : BitVec 64 := unf 7 x n
theorem unfoldV_lt (x : BitVec 64) (n : Nat) (h1 : 1 ≤ n) (h : n < 64) : unfoldV (foldV x n) (2 * n) = unfoldV x n := by
  unfold unfoldV
  have h2 := unf_more 7 x n (by omega)
  rw [← h2]
  conv => rhs; rw [unf]
  rw [if_pos h]
theorem unfoldV_ge (x : BitVec 64) (n : Nat) (h : 64 ≤ n) : unfoldV x n = x := by
  unfold unfoldV; rw [unf, if_neg (by omega)]

set_option maxHeartbeats 400000 in
theorem unfold_any (x : BitVec 64) (n : Nat) (h : 1 ≤ n) (h' : n ≤ 63) (w : World) :
    Calls Try.prog 41 #[u x, .int .i64 n] w fun e w' => e = .returned (u (unfoldV x n)) ∧ w = w' := by
  go_enter Try.func41, Try.ntmps41
  go_wp2
  go_loop [0, 1] (fun a b => ∃ (y : BitVec 64) (k : Nat), 1 ≤ k ∧ k ≤ 126 ∧ a = u y ∧ b = .int .i64 k ∧ Hd (unfoldV y k = unfoldV x n)) (fun _ b => (200 - intOf b).toNat)
  case atStart => exact ⟨x, n, h, by omega, rfl, rfl, ⟨rfl⟩⟩
  case round =>
    obtain ⟨y, k, hk, hk2, rfl, rfl, HH⟩ := hrel
    by_cases hlt : k < 64
    · go_wp2
      go_round
      case rel => exact ⟨foldV y k, 2 * k, by omega, by omega, rfl, by go_num, ⟨by rw [unfoldV_lt _ _ hk hlt]; exact HH.out⟩⟩
      case measure => simp [intOf]; omega
    · go_wp2
      go_ret
      exact ⟨ret_u (by rw [← HH.out, unfoldV_ge _ _ (by omega)]), rfl⟩

def powV : Nat → BitVec 64 → BitVec 64
  | 0, _ => 1#64
  | n + 1, x => x * powV n (x * x)

set_option maxHeartbeats 400000 in
theorem power_any (a : Addr) (n : Nat) : ∀ (x : BitVec 64) (w : World), n ≤ 62 → w.cell? a = some (.func (.func 47) #[] #[.pointer (some a)]) →
    Calls Try.prog 47 #[u x, .int .i64 n, .pointer (some a)] w fun e w' => e = .returned (u (powV n x)) ∧ w = w' := by
  induction n with
  | zero =>
    intro x w _ hc
    have h0 : ((0 : Nat) : Int) = 0 := rfl
    go_enter Try.func47, Try.ntmps47
    go_wp2_with fail
    go_ret
    exact ⟨rfl, rfl⟩
  | succ n ih =>
    intro x w hn hc
    have hne : (((n + 1 : Nat) : Int) == 0) = false := beq_eq_false_iff_ne.2 (by omega)
    have hm : ((n + 1 : Nat) : Int) - 1 = (n : Int) := by omega
    have ih' := fun y => ih y w (by omega) hc
    go_enter Try.func47, Try.ntmps47
    go_wp2_with fail
    refine (ih' _).mono ?_
    rintro e w' ⟨rfl, rfl⟩
    go_wp2_with fail
    go_ret
    exact ⟨rfl, rfl⟩

set_option maxHeartbeats 400000 in
theorem back_any (x : BitVec 64) (w : World) :
    Calls Try.prog 42 #[u x] w fun e w' => e = .returned (u (powV 62 x)) ∧ ∃ o, w' = w.alloc o := by
  go_enter Try.func42, Try.ntmps42
  go_wp2_with fail

  refine (power_any _ 62 x _ (by decide) ?_).mono ?_
  · simp
  rintro e w' ⟨rfl, rfl⟩
  go_wp2_with fail
  go_ret
  exact ⟨rfl, _, rfl⟩
def unmixV (x : BitVec 64) : BitVec 64 :=
  unfoldV (unfoldV (unfoldV x 31 * powV 62 10723151780598845931#64) 27 * powV 62 13787848793156543929#64) 30

set_option maxHeartbeats 400000 in
theorem unmix_any (x : BitVec 64) (w : World) :
    Calls Try.prog 30 #[u x] w fun e w' => e = .returned (u (unmixV x)) ∧ Below w.heap.size w w' := by
  go_enter Try.func30, Try.ntmps30
  go_wp2_with fail
  refine (unfold_any _ 31 (by decide) (by decide) _).mono ?_
  rintro e w' ⟨rfl, rfl⟩
  go_wp2_with fail
  refine (back_any 10723151780598845931#64 _).mono ?_
  rintro e w' ⟨rfl, o1, rfl⟩
  go_wp2_with fail
  refine (unfold_any _ 27 (by decide) (by decide) _).mono ?_
  rintro e w' ⟨rfl, rfl⟩
  go_wp2_with fail
  refine (back_any 13787848793156543929#64 _).mono ?_
  rintro e w' ⟨rfl, o2, rfl⟩
  go_wp2_with fail
  refine (unfold_any _ 30 (by decide) (by decide) _).mono ?_
  rintro e w' ⟨rfl, rfl⟩
  go_wp2_with fail
  go_ret
  exact ⟨rfl, ((Below.refl _ _).alloc (Nat.le_refl _) _).alloc (by simp) _⟩

def joinStep (x y : BitVec 64) : BitVec 64 := mixV (11400714819323198485#64 + y + x * 11400714819323198485#64)
def joinV (xs : List (BitVec 64)) : BitVec 64 := xs.foldl joinStep 0#64

theorem joinV_snoc (xs : List (BitVec 64)) (k : Nat) (h : k < xs.length) : joinStep (joinV (xs.take k)) xs[k] = joinV (xs.take (k + 1)) := by
  rw [List.take_succ_eq_append_getElem h, joinV, joinV, List.foldl_append]; rfl

set_option maxHeartbeats 400000 in
theorem join_nil (a : Option Addr) (c : Nat) (w : World) :
    Calls Try.prog 33 #[.slice a 0 c] w fun e w' => e = .returned (u 0#64) ∧ w = w' := by
  go_enter Try.func33, Try.ntmps33
  go_wp2
  go_loop [3, 8] (fun a b => a = u 0#64 ∧ b = .int .i64 0) (fun _ b => (0 - intOf b).toNat)
  case atStart => exact ⟨rfl, rfl⟩
  case round =>
    obtain ⟨rfl, rfl⟩ := hrel
    go_wp2
    go_ret
    exact ⟨rfl, rfl⟩

set_option maxHeartbeats 400000 in
theorem join_some (b off cap : Nat) (xs : List (BitVec 64)) (w : World) (hl : xs.length ≤ 4611686018427387904)
    (hc : ∀ j (h : j < xs.length), w.cell? ⟨b, off + j, none⟩ = some (u xs[j])) :
    Calls Try.prog 33 #[.slice (some ⟨b, off, none⟩) xs.length cap] w fun e w' => e = .returned (u (joinV xs)) ∧ w = w' := by
  go_enter Try.func33, Try.ntmps33
  go_wp2
  go_loop [3, 8] (fun a i => ∃ k : Nat, k ≤ xs.length ∧ a = u (joinV (xs.take k)) ∧ i = .int .i64 k) (fun _ i => xs.length - (intOf i).toNat)
  case atStart => exact ⟨0, Nat.zero_le _, rfl, rfl⟩
  case round =>
    obtain ⟨k, hk, rfl, rfl⟩ := hrel
    by_cases hlt : k < xs.length
    · have hck := hc k hlt
      go_wp2_with (go_at_call 40; refine (mix_any _ _).mono ?_; rintro e w' ⟨rfl, rfl⟩)
      go_round
      case rel => exact ⟨k + 1, by omega, by rw [← joinV_snoc _ _ hlt]; rfl, by go_num⟩
      case measure => simp [intOf]; omega
    · go_wp2
      go_ret
      exact ⟨ret_u (by rw [List.take_of_length_le (by omega)]), rfl⟩

theorem join_any (v : Value) (xs : List (BitVec 64)) (w : World) (hs : SrcE u w v xs) (hl : xs.length ≤ 4611686018427387904) :
    Calls Try.prog 33 #[v] w fun e w' => e = .returned (u (joinV xs)) ∧ w = w' := by
  rcases hs.cases with ⟨rfl, a, c, rfl⟩ | ⟨b, off, c, rfl, _, _, _, _, hcell⟩
  · exact join_nil a c w
  · exact join_some b off c xs w hl hcell

theorem foldV_ge (x : BitVec 64) (n : Nat) (h : 64 ≤ n) : foldV x n = x := by
  unfold foldV
  rw [BitVec.ushiftRight_eq_zero (by omega)]
  simp

theorem foldV_twice (x : BitVec 64) (n : Nat) : foldV (foldV x n) n = foldV x (2 * n) := by
  unfold foldV
  rw [BitVec.ushiftRight_xor_distrib, ← BitVec.shiftRight_add, show n + n = 2 * n from by omega]
  rw [BitVec.xor_assoc, ← BitVec.xor_assoc (x >>> n) (x >>> n)]
  simp

theorem foldV_comm (x : BitVec 64) (m n : Nat) : foldV (foldV x m) n = foldV (foldV x n) m := by
  unfold foldV
  rw [BitVec.ushiftRight_xor_distrib, BitVec.ushiftRight_xor_distrib, ← BitVec.shiftRight_add, ← BitVec.shiftRight_add, Nat.add_comm m n]
  ac_rfl

theorem unf_fold (f : Nat) : ∀ (x : BitVec 64) (n : Nat), 64 ≤ n * 2 ^ f → unf f (foldV x n) n = x := by
  induction f with
  | zero => intro x n h; rw [unf]; exact foldV_ge x n (by simpa using h)
  | succ f ih =>
    intro x n h
    rw [unf]
    split
    · rw [foldV_twice]
      exact ih x (2 * n) (by rw [Nat.pow_succ] at h; rw [Nat.mul_comm 2 n, Nat.mul_assoc, Nat.mul_comm 2]; exact h)
    · exact foldV_ge x n (by omega)

theorem fold_unf (f : Nat) : ∀ (x : BitVec 64) (m n : Nat), foldV (unf f x m) n = unf f (foldV x n) m := by
  induction f with
  | zero => intro x m n; rfl
  | succ f ih =>
    intro x m n
    rw [unf, unf]
    split
    · rw [ih, foldV_comm]
    · rfl

theorem unfold_fold (x : BitVec 64) (n : Nat) (h : 1 ≤ n) : unfoldV (foldV x n) n = x := unf_fold 7 x n (by omega)
theorem fold_unfold (x : BitVec 64) (n : Nat) (h : 1 ≤ n) : foldV (unfoldV x n) n = x := by
  unfold unfoldV; rw [fold_unf]; exact unf_fold 7 x n (by omega)

theorem pow1 : powV 62 13787848793156543929#64 * 13787848793156543929#64 = 1#64 := by decide +kernel
theorem pow2 : powV 62 10723151780598845931#64 * 10723151780598845931#64 = 1#64 := by decide +kernel

theorem pow1' : 13787848793156543929#64 * powV 62 13787848793156543929#64 = 1#64 := by rw [BitVec.mul_comm]; exact pow1
theorem pow2' : 10723151780598845931#64 * powV 62 10723151780598845931#64 = 1#64 := by rw [BitVec.mul_comm]; exact pow2

theorem unmix_mix (x : BitVec 64) : unmixV (mixV x) = x := by
  unfold unmixV mixV
  rw [unfold_fold _ 31 (by decide), BitVec.mul_assoc, pow2', BitVec.mul_one,
    unfold_fold _ 27 (by decide), BitVec.mul_assoc, pow1', BitVec.mul_one, unfold_fold _ 30 (by decide)]

theorem mix_unmix (x : BitVec 64) : mixV (unmixV x) = x := by
  unfold unmixV mixV
  rw [fold_unfold _ 30 (by decide), BitVec.mul_assoc, pow1, BitVec.mul_one,
    fold_unfold _ 27 (by decide), BitVec.mul_assoc, pow2, BitVec.mul_one, fold_unfold _ 31 (by decide)]

theorem mixV_0 : mixV 0#64 = 0#64 := by decide +kernel
theorem mix_inj (x y : BitVec 64) : mixV x = mixV y ↔ x = y :=
  ⟨fun h => by rw [← unmix_mix x, h, unmix_mix], fun h => by rw [h]⟩
theorem mix_zero (x : BitVec 64) : mixV x = 0#64 ↔ x = 0#64 := by
  rw [← mix_inj x 0#64, mixV_0]

theorem foldV_xor (x y : BitVec 64) (n : Nat) : foldV (x ^^^ y) n = foldV x n ^^^ foldV y n := by
  unfold foldV
  rw [BitVec.ushiftRight_xor_distrib]; ac_rfl
end Go.Proofs.Ytpioobaapigjcaa
