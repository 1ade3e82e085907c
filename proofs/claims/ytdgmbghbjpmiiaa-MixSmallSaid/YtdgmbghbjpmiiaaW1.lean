/- Walks of mix.fold, unfold, Mix. -/
import Derived.Test.YtdgmbghbjpmiiaaRows
import Derived.Test.YtdgmbghbjpmiiaaU
import Derived.LoopTactic
import Derived.Outline
import Derived.Laws.EntriesVeiled
namespace Go.Proofs.Ytdgmbghbjpmiiaa
open Go.RowKit

def foldV (x : BitVec 64) (n : Nat) : BitVec 64 := x ^^^ (x >>> n)

set_option maxHeartbeats 400000 in
theorem fold_any (x : BitVec 64) (n : Int) (h : 0 ≤ n) (w : World) :
    Calls Try.prog 30 #[u x, .int .i64 n] w fun e w' => e = .returned (u (foldV x n.toNat)) ∧ w = w' := by
  go_enter Try.func30, Try.ntmps30
  go_wp2
  go_ret
  exact ⟨rfl, rfl⟩

def mixV (x : BitVec 64) : BitVec 64 :=
  foldV (foldV (foldV x 30 * 13787848793156543929#64) 27 * 10723151780598845931#64) 31

set_option maxHeartbeats 400000 in
theorem mix_any (x : BitVec 64) (w : World) :
    Calls Try.prog 18 #[u x] w fun e w' => e = .returned (u (mixV x)) ∧ w = w' := by
  go_enter Try.func18, Try.ntmps18
  go_wp2_with (go_at_call 30; refine (fold_any _ _ (by decide) _).mono ?_; rintro e w' ⟨rfl, rfl⟩)
  go_ret
  exact ⟨rfl, rfl⟩

def unf : Nat → BitVec 64 → Nat → BitVec 64
  | 0, x, _ => x
  | f + 1, x, n => if n < 64 then unf f (foldV x n) (2 * n) else x

theorem unf_more (f : Nat) : ∀ (x : BitVec 64) (n : Nat), 64 ≤ n * 2 ^ f → unf (f + 1) x n = unf f x n := by
  induction f with
  | zero => intro x n h; simp [unf]; omega
  | succ f ih =>
    intro x n h
    rw [unf]
    conv => rhs; rw [unf]
    split
    · exact ih _ _ (by rw [Nat.pow_succ] at h; rw [Nat.mul_comm 2 n, Nat.mul_assoc, Nat.mul_comm 2]; exact h)
    · rfl

def unfoldV (x : BitVec 64) (n : Nat) : BitVec 64 := unf 7 x n
theorem unfoldV_lt (x : BitVec 64) (n : Nat) (h1 : 1 ≤ n) (h : n < 64) : unfoldV (foldV x n) (2 * n) = unfoldV x n := by
  unfold unfoldV
  have h2 := unf_more 7 x n (by omega)
  rw [← h2]
  conv => rhs; rw [unf]
  rw [if_pos h]
theorem unfoldV_ge (x : BitVec 64) (n : Nat) (h : 64 ≤ n) : unfoldV x n = x := by
  unfold unfoldV; rw [unf, if_neg (by omega)]

set_option maxHeartbeats 400000 in
theorem unfold_any (x : BitVec 64) (n : Nat) (h : 1 ≤ n) (h' : n ≤ 63) (w : World) :
    Calls Try.prog 31 #[u x, .int .i64 n] w fun e w' => e = .returned (u (unfoldV x n)) ∧ w = w' := by
  go_enter Try.func31, Try.ntmps31
  go_wp2
  go_loop [0, 1] (fun a b => ∃ (y : BitVec 64) (k : Nat), 1 ≤ k ∧ k ≤ 126 ∧ a = u y ∧ b = .int .i64 k ∧ Hd (unfoldV y k = unfoldV x n)) (fun _ b => (200 - intOf b).toNat)
  case atStart => exact ⟨x, n, h, by omega, rfl, rfl, ⟨rfl⟩⟩
  case round =>
    obtain ⟨y, k, hk, hk2, rfl, rfl, HH⟩ := hrel
    by_cases hlt : k < 64
    · go_wp2
      go_round
      case rel => exact ⟨foldV y k, 2 * k, by omega, by omega, rfl, by go_num, ⟨by rw [unfoldV_lt _ _ hk hlt]; exact HH.out⟩⟩
      case measure => simp [intOf]; omega
    · go_wp2
      go_ret
      exact ⟨ret_u (by rw [← HH.out, unfoldV_ge _ _ (by omega)]), rfl⟩

def powV : Nat → BitVec 64 → BitVec 64
  | 0, _ => 1#64
  | n + 1, x => x * powV n (x * x)

set_option maxHeartbeats 400000 in
theorem power_any (a : Addr) (n : Nat) : ∀ (x : BitVec 64) (w : World), n ≤ 62 → w.cell? a = some (.func (.func 36) #[] #[.pointer (some a)]) →
    Calls Try.prog 36 #[u x, .int .i64 n, .pointer (some a)] w fun e w' => e = .returned (u (powV n x)) ∧ w = w' := by
  induction n with
  | zero =>
    intro x w _ hc
    have h0 : ((0 : Nat) : Int) = 0 := rfl
    go_enter Try.func36, Try.ntmps36
    go_wp2_with fail
    go_ret
    exact ⟨rfl, rfl⟩
  | succ n ih =>
    intro x w hn hc
    have hne : (((n + 1 : Nat) : Int) == 0) = false := beq_eq_false_iff_ne.2 (by omega)
    have hm : ((n + 1 : Nat) : Int) - 1 = (n : Int) := by omega
    have ih' := fun y => ih y w (by omega) hc
    go_enter Try.func36, Try.ntmps36
    go_wp2_with fail
    refine (ih' _).mono ?_
    rintro e w' ⟨rfl, rfl⟩
    go_wp2_with fail
    go_ret
    exact ⟨rfl, rfl⟩

set_option maxHeartbeats 400000 in
theorem back_any (x : BitVec 64) (w : World) :
    Calls Try.prog 32 #[u x] w fun e w' => e = .returned (u (powV 62 x)) ∧ ∃ o, w' = w.alloc o := by
  go_enter Try.func32, Try.ntmps32
  go_wp2_with fail

  refine (power_any _ 62 x _ (by decide) ?_).mono ?_
  · simp
  rintro e w' ⟨rfl, rfl⟩
  go_wp2_with fail
  go_ret
  exact ⟨rfl, _, rfl⟩
end Go.Proofs.Ytdgmbghbjpmiiaa
