/- Walks of word.Find and of the reference's Find. -/
import Derived.Test.YtbmommomhepfpaaR13
namespace Go.Proofs.Ytbmommomhepfpaa
open Go.RowKit
set_option linter.unusedVariables false

theorem all_at_i (k : Nat) (h : k < 18) (w : World) : (Instr.index 62 (.agg allC) (.int .i64 k)).run Try.prog w = .ok (.agg #[.string (nameV k), .bool (divides k)]) w := by
  have hk : k = 0 ∨ k = 1 ∨ k = 2 ∨ k = 3 ∨ k = 4 ∨ k = 5 ∨ k = 6 ∨ k = 7 ∨ k = 8 ∨ k = 9 ∨ k = 10 ∨ k = 11 ∨ k = 12 ∨ k = 13 ∨ k = 14 ∨ k = 15 ∨ k = 16 ∨ k = 17 := by omega
  clear h
  rcases hk with rfl | rfl | rfl | rfl | rfl | rfl | rfl | rfl | rfl | rfl | rfl | rfl | rfl | rfl | rfl | rfl | rfl | rfl
  all_goals (show _ = _; kernel_rfl)
/-- The first operation with a name is the K-th, or, at 18, there is none. -/
structure Fst (N : ByteArray) (K : Nat) : Prop where
  lo : 1 ≤ K
  hi : K ≤ 18
  no : ∀ j : Nat, 1 ≤ j → j < K → ((nameV j).toList == N.toList) = false
  yes : K < 18 → ((nameV K).toList == N.toList) = true
theorem fst_ex (N : ByteArray) : ∃ K, Fst N K := by
  have h : ∀ m : Nat, m ≤ 17 → (∃ K, Fst N K) ∨ ∀ j : Nat, 1 ≤ j → j ≤ m → ((nameV j).toList == N.toList) = false := by
    intro m
    induction m with
    | zero => exact fun _ => .inr fun j h1 h2 => by omega
    | succ m ih =>
      intro hm
      rcases ih (by omega) with h | h
      · exact .inl h
      · cases hc : ((nameV ((m + 1 : Nat) : Int)).toList == N.toList)
        · refine .inr fun j h1 h2 => ?_
          by_cases e : j = m + 1
          · rw [e]; exact hc
          · exact h j h1 (by omega)
        · exact .inl ⟨m + 1, by omega, by omega, fun j h1 h2 => h j h1 (by omega), fun _ => hc⟩
  rcases h 17 (by omega) with h | h
  · exact h
  · exact ⟨18, by omega, by omega, fun j h1 h2 => h j h1 (by omega), fun h => by omega⟩
def findR (K : Nat) : Ending := if K < 18 then .returned (.tuple #[.int .u8 K, .bool true]) else .returned (.tuple #[.int .u8 0, .bool false])

set_option maxRecDepth 100000 in
set_option maxHeartbeats 4000000 in
theorem find_any (N : ByteArray) (K : Nat) (hF : Fst N K) (w : World) : Calls Try.prog 25 #[.string N] w fun e w' => e = findR K ∧ Below w.heap.size w w' := by
  have HF := Hd.mk hF
  have hK1 := hF.lo
  have hK2 := hF.hi
  clear hF
  go_enter Try.func25, Try.ntmps25
  go_wp2_with fail
  refine (all_run _).mono ?_
  rintro e w1 ⟨rfl, hB⟩
  go_wp2_with fail
  go_loopw [7] (fun i W => ∃ k : Nat, k ≤ K ∧ i = .int .i64 k ∧ Below w.heap.size w W) (fun i _ => 18 - (intOf i).toNat)
  case atStart => exact ⟨0, by omega, rfl, hB⟩
  case round =>
    obtain ⟨k, hk, rfl, hB⟩ := hrel
    have hB' := (hB.alloc hB.size (.cells #[.string (nameV k), .bool (divides k)] 61))
    by_cases hlt : k < 18
    · have hi := all_at_i k hlt
      by_cases h0 : k = 0
      · subst h0
        obtain ⟨nm, hnm⟩ : ∃ n, nameV ((0 : Nat) : Int) = n := ⟨_, rfl⟩
        obtain ⟨dv, hdv⟩ : ∃ n, divides ((0 : Nat) : Int) = n := ⟨_, rfl⟩
        rw [hnm, hdv] at hi hB'
        clear hnm hdv hB
        rw [show ((0 : Nat) : Int) = 0 from rfl] at hi ⊢
        go_wp2_with fail
        go_roundw
        case rel => exact ⟨0 + 1, by omega, by go_num, hB'⟩
        case measure => simp [intOf] <;> omega
      · obtain ⟨nm, hnm⟩ : ∃ n, nameV (k : Int) = n := ⟨_, rfl⟩
        obtain ⟨dv, hdv⟩ : ∃ n, divides (k : Int) = n := ⟨_, rfl⟩
        rw [hnm, hdv] at hi hB'
        have hkp : 0 < (k : Int) := by omega
        by_cases hkK : k < K
        · have hne := HF.out.no k (by omega) hkK
          rw [hnm] at hne
          clear hnm hdv hB h0
          go_wp2_with fail
          go_roundw
          case rel => exact ⟨k + 1, by omega, by go_num, hB'⟩
          case measure => simp [intOf] <;> omega
        · obtain rfl : k = K := by omega
          have hne := HF.out.yes hlt
          rw [hnm] at hne
          have HR : Hd (findR k = .returned (.tuple #[.int .u8 k, .bool true])) := ⟨by rw [findR, if_pos hlt]⟩
          clear hnm hdv hB h0
          go_wp2_with fail
          go_ret2
          exact ⟨by rw [HR.out]; rfl, hB'⟩
    · obtain rfl : k = 18 := by omega
      obtain rfl : K = 18 := by omega
      go_wp2_with fail
      go_ret2
      exact ⟨rfl, hB⟩

theorem namesC_k (k : Nat) (h : k < 17) : namesC[k]? = some (.string (nameV ((k + 1 : Nat) : Int))) := by
  have := namesC_at ((k + 1 : Nat) : Int) (by omega) (by omega)
  rw [show ((((k + 1 : Nat) : Int)) - 1).toNat = k from by omega] at this
  rw [this, NameV, if_neg (by omega)]

set_option maxRecDepth 100000 in
set_option maxHeartbeats 4000000 in
theorem refFind_any (N : ByteArray) (K : Nat) (hF : Fst N K) (w : World) : Calls Try.prog 26 #[.string N] w fun e w' => e = findR K ∧ Below w.heap.size w w' := by
  have HF := Hd.mk hF
  have hK1 := hF.lo
  have hK2 := hF.hi
  clear hF
  go_enter Try.func26, Try.ntmps26
  go_wp2_with fail
  refine (names_any _).mono ?_
  rintro e w1 ⟨rfl, rfl⟩
  have HB : Hd (Below w.heap.size w (w.alloc (.cells namesC 9))) := ⟨(Below.refl _ _).alloc (Nat.le_refl _) _⟩
  have HC : Hd (∀ k, k < 17 → (w.alloc (.cells namesC 9)).cell? ⟨w.heap.size, k, none⟩ = some (.string (nameV ((k + 1 : Nat) : Int)))) := ⟨fun k hk => by
    rw [cells_cell (World.alloc_heap_new w _)]; exact namesC_k k hk⟩
  go_wp2_with fail
  go_loop [5] (fun i => ∃ k : Nat, k + 1 ≤ K ∧ i = .int .i64 k) (fun i => 17 - (intOf i).toNat)
  case atStart => exact ⟨0, by omega, rfl⟩
  case round =>
    obtain ⟨k, hk, rfl⟩ := hrel
    by_cases hlt : k < 17
    · have hc := HC.out k hlt
      obtain ⟨nm, hnm⟩ : ∃ n, nameV ((k + 1 : Nat) : Int) = n := ⟨_, rfl⟩
      rw [hnm] at hc
      by_cases hkK : k + 1 < K
      · have hne := HF.out.no (k + 1) (by omega) hkK
        rw [hnm] at hne
        clear hnm
        go_wp2_with fail
        go_round
        case rel => exact ⟨k + 1, by omega, by go_num⟩
        case measure => simp [intOf] <;> omega
      · obtain rfl : K = k + 1 := by omega
        have hne := HF.out.yes (by omega)
        rw [hnm] at hne
        have HR : Hd (findR (k + 1) = .returned (.tuple #[.int .u8 ((k + 1 : Nat) : Int), .bool true])) := ⟨by rw [findR, if_pos (by omega)]⟩
        clear hnm
        go_wp2_with fail
        go_ret2
        exact ⟨by rw [HR.out]; rfl, HB.out⟩
    · obtain rfl : k = 17 := by omega
      obtain rfl : K = 18 := by omega
      go_wp2_with fail
      go_ret2
      exact ⟨rfl, HB.out⟩
end Go.Proofs.Ytbmommomhepfpaa
