/- Walks of mix.Unmix, Fold, Unfold, Join, Last. -/
import Derived.Test.YtdgmbghbjpmiiaaW1
namespace Go.Proofs.Ytdgmbghbjpmiiaa
open Go.RowKit

def unmixV (x : BitVec 64) : BitVec 64 :=
  unfoldV (unfoldV (unfoldV x 31 * powV 62 10723151780598845931#64) 27 * powV 62 13787848793156543929#64) 30

set_option maxHeartbeats 400000 in
theorem unmix_any (x : BitVec 64) (w : World) :
    Calls Try.prog 19 #[u x] w fun e w' => e = .returned (u (unmixV x)) ∧ Below w.heap.size w w' := by
  go_enter Try.func19, Try.ntmps19
  go_wp2_with fail
  refine (unfold_any _ 31 (by decide) (by decide) _).mono ?_
  rintro e w' ⟨rfl, rfl⟩
  go_wp2_with fail
  refine (back_any 10723151780598845931#64 _).mono ?_
  rintro e w' ⟨rfl, o1, rfl⟩
  go_wp2_with fail
  refine (unfold_any _ 27 (by decide) (by decide) _).mono ?_
  rintro e w' ⟨rfl, rfl⟩
  go_wp2_with fail
  refine (back_any 13787848793156543929#64 _).mono ?_
  rintro e w' ⟨rfl, o2, rfl⟩
  go_wp2_with fail
  refine (unfold_any _ 30 (by decide) (by decide) _).mono ?_
  rintro e w' ⟨rfl, rfl⟩
  go_wp2_with fail
  go_ret
  exact ⟨rfl, ((Below.refl _ _).alloc (Nat.le_refl _) _).alloc (by simp) _⟩

set_option maxHeartbeats 400000 in
theorem Fold_yes (x : BitVec 64) (n : Int) (h : 1 ≤ n) (h' : n ≤ 63) (w : World) :
    Calls Try.prog 20 #[u x, .int .i64 n] w fun e w' => e = .returned (.tuple #[u (foldV x n.toNat), .int .i64 0]) ∧ w = w' := by
  go_enter Try.func20, Try.ntmps20
  go_wp2_with (go_at_call 30; refine (fold_any _ _ (by omega) _).mono ?_; rintro e w' ⟨rfl, rfl⟩)
  go_ret2
  exact ⟨rfl, rfl⟩

set_option maxHeartbeats 400000 in
theorem Fold_no (x : BitVec 64) (n : Int) (h : n < 1 ∨ 63 < n) (w : World) :
    Calls Try.prog 20 #[u x, .int .i64 n] w fun e w' => e = .returned (.tuple #[u 0, .int .i64 2]) ∧ w = w' := by
  rcases h with h | h
  · go_enter Try.func20, Try.ntmps20
    go_wp2
    go_ret2
    exact ⟨rfl, rfl⟩
  · have h1 : ¬ n < 1 := by omega
    go_enter Try.func20, Try.ntmps20
    go_wp2
    go_ret2
    exact ⟨rfl, rfl⟩

set_option maxHeartbeats 400000 in
theorem Unfold_yes (x : BitVec 64) (n : Int) (h : 1 ≤ n) (h' : n ≤ 63) (w : World) :
    Calls Try.prog 21 #[u x, .int .i64 n] w fun e w' => e = .returned (.tuple #[u (unfoldV x n.toNat), .int .i64 0]) ∧ w = w' := by
  obtain ⟨k, rfl⟩ := Int.eq_ofNat_of_zero_le (show 0 ≤ n by omega)
  go_enter Try.func21, Try.ntmps21
  go_wp2_with (go_at_call 31; refine (unfold_any _ k (by omega) (by omega) _).mono ?_; rintro e w' ⟨rfl, rfl⟩)
  go_ret2
  exact ⟨rfl, rfl⟩

set_option maxHeartbeats 400000 in
theorem Unfold_no (x : BitVec 64) (n : Int) (h : n < 1 ∨ 63 < n) (w : World) :
    Calls Try.prog 21 #[u x, .int .i64 n] w fun e w' => e = .returned (.tuple #[u 0, .int .i64 2]) ∧ w = w' := by
  rcases h with h | h
  · go_enter Try.func21, Try.ntmps21
    go_wp2
    go_ret2
    exact ⟨rfl, rfl⟩
  · have h1 : ¬ n < 1 := by omega
    go_enter Try.func21, Try.ntmps21
    go_wp2
    go_ret2
    exact ⟨rfl, rfl⟩

def joinStep (x y : BitVec 64) : BitVec 64 := mixV (11400714819323198485#64 + y + x * 11400714819323198485#64)
def joinV (xs : List (BitVec 64)) : BitVec 64 := xs.foldl joinStep 0#64

theorem joinV_snoc (xs : List (BitVec 64)) (k : Nat) (h : k < xs.length) : joinStep (joinV (xs.take k)) xs[k] = joinV (xs.take (k + 1)) := by
  rw [List.take_succ_eq_append_getElem h, joinV, joinV, List.foldl_append]; rfl

set_option maxHeartbeats 400000 in
theorem join_nil (a : Option Addr) (c : Nat) (w : World) :
    Calls Try.prog 14 #[.slice a 0 c] w fun e w' => e = .returned (u 0#64) ∧ w = w' := by
  go_enter Try.func14, Try.ntmps14
  go_wp2
  go_loop [3, 8] (fun a b => a = u 0#64 ∧ b = .int .i64 0) (fun _ b => (0 - intOf b).toNat)
  case atStart => exact ⟨rfl, rfl⟩
  case round =>
    obtain ⟨rfl, rfl⟩ := hrel
    go_wp2
    go_ret
    exact ⟨rfl, rfl⟩

set_option maxHeartbeats 400000 in
theorem join_some (b off cap : Nat) (xs : List (BitVec 64)) (w : World) (hl : xs.length ≤ 4611686018427387904)
    (hc : ∀ j (h : j < xs.length), w.cell? ⟨b, off + j, none⟩ = some (u xs[j])) :
    Calls Try.prog 14 #[.slice (some ⟨b, off, none⟩) xs.length cap] w fun e w' => e = .returned (u (joinV xs)) ∧ w = w' := by
  go_enter Try.func14, Try.ntmps14
  go_wp2
  go_loop [3, 8] (fun a i => ∃ k : Nat, k ≤ xs.length ∧ a = u (joinV (xs.take k)) ∧ i = .int .i64 k) (fun _ i => xs.length - (intOf i).toNat)
  case atStart => exact ⟨0, Nat.zero_le _, rfl, rfl⟩
  case round =>
    obtain ⟨k, hk, rfl, rfl⟩ := hrel
    by_cases hlt : k < xs.length
    · have hck := hc k hlt
      go_wp2_with (go_at_call 18; refine (mix_any _ _).mono ?_; rintro e w' ⟨rfl, rfl⟩)
      go_round
      case rel => exact ⟨k + 1, by omega, by rw [← joinV_snoc _ _ hlt]; rfl, by go_num⟩
      case measure => simp [intOf]; omega
    · go_wp2
      go_ret
      exact ⟨ret_u (by rw [List.take_of_length_le (by omega)]), rfl⟩
end Go.Proofs.Ytdgmbghbjpmiiaa
