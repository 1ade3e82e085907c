/- Walks of the laws MixFolds and MixWrong. -/
import Derived.Test.YtdgmbghbjpmiiaaL1
namespace Go.Proofs.Ytdgmbghbjpmiiaa
open Go.RowKit

theorem beq_u (x : BitVec 64) : (x != x) = false := by simp

set_option maxHeartbeats 1000000 in
theorem mixFolds_walk (x y : BitVec 64) (n : Int) (h0 : 0 ≤ n) (h1 : n ≤ 255) (w : World) :
    Calls Try.prog 8 #[u x, u y, .int .u8 n] w fun e w' => e = .returned (.bool true) ∧ Below w.heap.size w w' := by
  have k0 : 1 ≤ 1 + n % 63 := by omega
  have k1 : 1 + n % 63 ≤ 63 := by omega
  have k2 : 1 ≤ (1 + n % 63).toNat := by omega
  go_enter Try.func8, Try.ntmps8
  go_wp2_with fail
  refine (Fold_yes _ _ k0 k1 _).mono ?_
  rintro e w1 ⟨rfl, rfl⟩
  go_wp2_with fail
  refine (Unfold_yes _ _ k0 k1 _).mono ?_
  rintro e w1 ⟨rfl, rfl⟩
  rw [unfold_fold _ _ k2]
  go_wp2_with fail
  refine (Unfold_yes _ _ k0 k1 _).mono ?_
  rintro e w1 ⟨rfl, rfl⟩
  go_wp2_with fail
  refine (Fold_yes _ _ k0 k1 _).mono ?_
  rintro e w1 ⟨rfl, rfl⟩
  rw [fold_unfold _ _ k2]
  go_wp2_with fail
  refine (Fold_yes _ _ k0 k1 _).mono ?_
  rintro e w1 ⟨rfl, rfl⟩
  rw [foldV_twice]
  by_cases hlt : 2 * (1 + n % 63) < 64
  · go_wp2_with fail
    refine (Fold_yes _ _ (by omega) (by omega) _).mono ?_
    rintro e w1 ⟨rfl, rfl⟩
    rw [show (2 * (1 + n % 63)).toNat = 2 * (1 + n % 63).toNat from by omega]
    go_wp2_with fail
    refine (Fold_yes _ _ k0 k1 _).mono ?_
    rintro e w1 ⟨rfl, rfl⟩
    go_wp2_with fail
    refine (Fold_yes _ _ k0 k1 _).mono ?_
    rintro e w1 ⟨rfl, rfl⟩
    rw [foldV_xor]
    go_wp2_with fail
    refine (awake_any _).mono ?_
    rintro e w4 ⟨rfl, hb4⟩
    go_wp2_with fail
    go_ret
    exact ⟨rfl, hb4⟩
  · have hge : foldV x (2 * (1 + n % 63).toNat) = x := foldV_ge _ _ (by omega)
    rw [hge]
    clear hge
    go_wp2_with fail
    refine (Fold_yes _ _ k0 k1 _).mono ?_
    rintro e w1 ⟨rfl, rfl⟩
    go_wp2_with fail
    refine (Fold_yes _ _ k0 k1 _).mono ?_
    rintro e w1 ⟨rfl, rfl⟩
    rw [foldV_xor]
    go_wp2_with fail
    refine (awake_any _).mono ?_
    rintro e w4 ⟨rfl, hb4⟩
    go_wp2_with fail
    go_ret
    exact ⟨rfl, hb4⟩

theorem two_cell (w : World) (e : TypeId) (p q : Value) (k : Nat) (h : k < 2) : ∃ v, (v = p ∨ v = q) ∧ (w.alloc (.cells #[p, q] e)).cell? ⟨w.heap.size, k, none⟩ = some v := by
  have : k = 0 ∨ k = 1 := by omega
  rcases this with rfl | rfl
  · exact ⟨p, .inl rfl, cells_cell (World.alloc_heap_new w _) 0⟩
  · exact ⟨q, .inr rfl, cells_cell (World.alloc_heap_new w _) 1⟩

theorem two_ints (w : World) (e : TypeId) (p q : Int) (hp : p < 1) (hq : 63 < q) (k : Nat) (h : k < 2) :
    ∃ m : Int, (m < 1 ∨ 63 < m) ∧ (w.alloc (.cells #[.int .i64 p, .int .i64 q] e)).cell? ⟨w.heap.size, k, none⟩ = some (.int .i64 m) := by
  obtain ⟨v, rfl | rfl, hv⟩ := two_cell w e (.int .i64 p) (.int .i64 q) k h
  · exact ⟨p, .inl hp, hv⟩
  · exact ⟨q, .inr hq, hv⟩

set_option maxHeartbeats 1000000 in
theorem mixWrong_walk (x : BitVec 64) (n : Int) (h0 : -9223372036854775808 ≤ n) (h1 : n ≤ 9223372036854775807) (w : World) :
    Calls Try.prog 11 #[u x, .int .i64 n] w fun e w' => e = .returned (.bool true) ∧ Below w.heap.size w w' := by
  go_enter Try.func11, Try.ntmps11
  go_wp2_with fail
  all_goals
    go_loop [22] (fun i => ∃ k : Nat, k ≤ 2 ∧ i = .int .i64 k) (fun i => 2 - (intOf i).toNat)
    case atStart => exact ⟨0, by omega, rfl⟩
    case round =>
      obtain ⟨k, hk, rfl⟩ := hrel
      by_cases hlt : k < 2
      · obtain ⟨m, hm, hc⟩ : ∃ m : Int, (m < 1 ∨ 63 < m) ∧ (n < 1 → (w.alloc (.cells #[.int .i64 n, .int .i64 64] 3)).cell? ⟨w.heap.size, k, none⟩ = some (.int .i64 m)) ∧ (63 < n → (w.alloc (.cells #[.int .i64 0, .int .i64 n] 3)).cell? ⟨w.heap.size, k, none⟩ = some (.int .i64 m)) ∧ (1 ≤ n → n ≤ 63 → (w.alloc (.cells #[.int .i64 0, .int .i64 64] 3)).cell? ⟨w.heap.size, k, none⟩ = some (.int .i64 m)) := by
          by_cases c1 : n < 1
          · obtain ⟨m, hm, hc⟩ := two_ints w 3 n 64 c1 (by omega) k hlt
            exact ⟨m, hm, fun _ => hc, fun _ => by omega, fun _ => by omega⟩
          · by_cases c2 : 63 < n
            · obtain ⟨m, hm, hc⟩ := two_ints w 3 0 n (by omega) c2 k hlt
              exact ⟨m, hm, fun _ => by omega, fun _ => hc, fun _ _ => by omega⟩
            · obtain ⟨m, hm, hc⟩ := two_ints w 3 0 64 (by omega) (by omega) k hlt
              exact ⟨m, hm, fun _ => by omega, fun _ => by omega, fun _ _ => hc⟩
        obtain ⟨hc1, hc2, hc3⟩ := hc
        first
          | (have c1 : n < 1 := by omega
             replace hc1 := hc1 c1)
          | (have c1 : 63 < n := by omega
             replace hc2 := hc2 c1)
          | (have c1 : 1 ≤ n := by omega
             have c2 : n ≤ 63 := by omega
             replace hc3 := hc3 c1 c2)
        go_wp2_with fail
        refine (Fold_no _ _ hm _).mono ?_
        rintro e w1 ⟨rfl, rfl⟩
        go_wp2_with fail
        refine (Unfold_no _ _ hm _).mono ?_
        rintro e w1 ⟨rfl, rfl⟩
        go_wp2_with fail
        go_round
        case rel => exact ⟨k + 1, by omega, by go_num⟩
        case measure => simp [intOf]; omega
      · go_wp2_with fail
        go_loop [11] (fun i => ∃ k : Nat, 1 ≤ k ∧ k ≤ 64 ∧ i = .int .i64 k) (fun i => 64 - (intOf i).toNat)
        case atStart => exact ⟨1, by omega, by omega, rfl⟩
        case round =>
          obtain ⟨k, hk1, hk, rfl⟩ := hrel
          by_cases hlt : k < 64
          · go_wp2_with fail
            refine (Fold_yes _ _ (by omega) (by omega) _).mono ?_
            rintro e w1 ⟨rfl, rfl⟩
            go_wp2_with fail
            refine (Unfold_yes _ _ (by omega) (by omega) _).mono ?_
            rintro e w1 ⟨rfl, rfl⟩
            go_wp2_with fail
            go_round
            case rel => exact ⟨k + 1, by omega, by omega, by go_num⟩
            case measure => simp [intOf]; omega
          · go_wp2_with fail
            refine (awake_any _).mono ?_
            rintro e w4 ⟨rfl, hb4⟩
            go_wp2_with fail
            go_ret
            exact ⟨rfl, ((Below.refl _ _).alloc (Nat.le_refl _) _).trans (hb4.mono (by simp))⟩
end Go.Proofs.Ytdgmbghbjpmiiaa
