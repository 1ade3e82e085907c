/- Walk of word.Apply. -/
import Derived.Test.YtbmommomhepfpaaW2
namespace Go.Proofs.Ytbmommomhepfpaa
open Go.RowKit

theorem appE_of {op : Int} {b : BitVec 64} (h : appE op b = 0) : 1 ≤ op ∧ op ≤ 17 ∧ ((4 ≤ op ∧ op ≤ 6) → ¬ b = 0#64) := by
  unfold appE at h
  split at h
  · cases h
  · split at h
    · cases h
    · refine ⟨by omega, by omega, ?_⟩
      intro h1 h2; rename_i hh; exact hh ⟨h2, h1.1, h1.2⟩

set_option maxHeartbeats 4000000 in
theorem apply_bad (op : Int) (h0 : 0 ≤ op) (h1 : op ≤ 255) (a b : BitVec 64) (he : ¬ appE op b = 0) (w : World) :
    Calls Try.prog 22 #[.int .u8 op, s a, s b] w fun e w' => e = .returned (.tuple #[.int .i64 0, .int .i64 (appE op b)]) ∧ Below w.heap.size w w' := by
  have he' : (appE op b != 0) = true := by simpa using he
  go_enter Try.func22, Try.ntmps22
  go_wp2_with fail
  refine (wrong_any op h0 h1 _ _).mono ?_
  rintro e w1 ⟨rfl, hB⟩
  go_wp2_with fail
  go_ret2
  exact ⟨rfl, hB⟩

set_option maxHeartbeats 4000000 in
theorem apply_1 (a b : BitVec 64) (he : appE 1 b = 0) (w : World) :
    Calls Try.prog 22 #[.int .u8 1, s a, s b] w fun e w' => e = .returned (.tuple #[s (a + b), .int .i64 0]) ∧ Below w.heap.size w w' := by
  go_enter Try.func22, Try.ntmps22
  go_wp2_with fail
  refine (wrong_any 1 (by decide) (by decide) _ _).mono ?_
  rintro e w1 ⟨rfl, hB⟩
  rw [he]
  go_wp2_with fail
  go_ret2
  exact ⟨rfl, hB⟩

set_option maxHeartbeats 4000000 in
theorem apply_2 (a b : BitVec 64) (he : appE 2 b = 0) (w : World) :
    Calls Try.prog 22 #[.int .u8 2, s a, s b] w fun e w' => e = .returned (.tuple #[s (a - b), .int .i64 0]) ∧ Below w.heap.size w w' := by
  go_enter Try.func22, Try.ntmps22
  go_wp2_with fail
  refine (wrong_any 2 (by decide) (by decide) _ _).mono ?_
  rintro e w1 ⟨rfl, hB⟩
  rw [he]
  go_wp2_with fail
  go_ret2
  exact ⟨rfl, hB⟩

set_option maxHeartbeats 4000000 in
theorem apply_3 (a b : BitVec 64) (he : appE 3 b = 0) (w : World) :
    Calls Try.prog 22 #[.int .u8 3, s a, s b] w fun e w' => e = .returned (.tuple #[s (a * b), .int .i64 0]) ∧ Below w.heap.size w w' := by
  go_enter Try.func22, Try.ntmps22
  go_wp2_with fail
  refine (wrong_any 3 (by decide) (by decide) _ _).mono ?_
  rintro e w1 ⟨rfl, hB⟩
  rw [he]
  go_wp2_with fail
  go_ret2
  exact ⟨rfl, hB⟩

set_option maxHeartbeats 4000000 in
theorem apply_4 (a b : BitVec 64) (he : appE 4 b = 0) (w : World) :
    Calls Try.prog 22 #[.int .u8 4, s a, s b] w fun e w' => e = .returned (.tuple #[s (a.sdiv b), .int .i64 0]) ∧ Below w.heap.size w w' := by
  have hz : ¬ b = 0#64 := (appE_of he).2.2 (by decide)
  go_enter Try.func22, Try.ntmps22
  go_wp2_with fail
  refine (wrong_any 4 (by decide) (by decide) _ _).mono ?_
  rintro e w1 ⟨rfl, hB⟩
  rw [he]
  go_wp2_with fail
  go_ret2
  exact ⟨rfl, hB⟩

set_option maxHeartbeats 4000000 in
theorem apply_5 (a b : BitVec 64) (he : appE 5 b = 0) (w : World) :
    Calls Try.prog 22 #[.int .u8 5, s a, s b] w fun e w' => e = .returned (.tuple #[s (a.srem b), .int .i64 0]) ∧ Below w.heap.size w w' := by
  have hz : ¬ b = 0#64 := (appE_of he).2.2 (by decide)
  go_enter Try.func22, Try.ntmps22
  go_wp2_with fail
  refine (wrong_any 5 (by decide) (by decide) _ _).mono ?_
  rintro e w1 ⟨rfl, hB⟩
  rw [he]
  go_wp2_with fail
  go_ret2
  exact ⟨rfl, hB⟩

set_option maxHeartbeats 4000000 in
theorem apply_6 (a b : BitVec 64) (he : appE 6 b = 0) (w : World) :
    Calls Try.prog 22 #[.int .u8 6, s a, s b] w fun e w' => e = .returned (.tuple #[s (modV a b), .int .i64 0]) ∧ Below w.heap.size w w' := by
  have hz : ¬ b = 0#64 := (appE_of he).2.2 (by decide)
  go_enter Try.func22, Try.ntmps22
  go_wp2_with fail
  refine (wrong_any 6 (by decide) (by decide) _ _).mono ?_
  rintro e w1 ⟨rfl, hB⟩
  rw [he]
  go_wp2_with fail
  refine (mod_any _ _ hz _).mono ?_
  rintro e w2 ⟨rfl, rfl⟩
  go_wp2_with fail
  go_ret2
  exact ⟨rfl, hB⟩

set_option maxHeartbeats 4000000 in
theorem apply_7 (a b : BitVec 64) (he : appE 7 b = 0) (w : World) :
    Calls Try.prog 22 #[.int .u8 7, s a, s b] w fun e w' => e = .returned (.tuple #[s (a &&& b), .int .i64 0]) ∧ Below w.heap.size w w' := by
  go_enter Try.func22, Try.ntmps22
  go_wp2_with fail
  refine (wrong_any 7 (by decide) (by decide) _ _).mono ?_
  rintro e w1 ⟨rfl, hB⟩
  rw [he]
  go_wp2_with fail
  go_ret2
  exact ⟨rfl, hB⟩

set_option maxHeartbeats 4000000 in
theorem apply_8 (a b : BitVec 64) (he : appE 8 b = 0) (w : World) :
    Calls Try.prog 22 #[.int .u8 8, s a, s b] w fun e w' => e = .returned (.tuple #[s (a ||| b), .int .i64 0]) ∧ Below w.heap.size w w' := by
  go_enter Try.func22, Try.ntmps22
  go_wp2_with fail
  refine (wrong_any 8 (by decide) (by decide) _ _).mono ?_
  rintro e w1 ⟨rfl, hB⟩
  rw [he]
  go_wp2_with fail
  go_ret2
  exact ⟨rfl, hB⟩

set_option maxHeartbeats 4000000 in
theorem apply_9 (a b : BitVec 64) (he : appE 9 b = 0) (w : World) :
    Calls Try.prog 22 #[.int .u8 9, s a, s b] w fun e w' => e = .returned (.tuple #[s (a ^^^ b), .int .i64 0]) ∧ Below w.heap.size w w' := by
  go_enter Try.func22, Try.ntmps22
  go_wp2_with fail
  refine (wrong_any 9 (by decide) (by decide) _ _).mono ?_
  rintro e w1 ⟨rfl, hB⟩
  rw [he]
  go_wp2_with fail
  go_ret2
  exact ⟨rfl, hB⟩

set_option maxHeartbeats 4000000 in
theorem apply_10 (a b : BitVec 64) (he : appE 10 b = 0) (w : World) :
    Calls Try.prog 22 #[.int .u8 10, s a, s b] w fun e w' => e = .returned (.tuple #[s (a <<< (b &&& 63#64).toNat), .int .i64 0]) ∧ Below w.heap.size w w' := by
  go_enter Try.func22, Try.ntmps22
  go_wp2_with fail
  refine (wrong_any 10 (by decide) (by decide) _ _).mono ?_
  rintro e w1 ⟨rfl, hB⟩
  rw [he]
  go_wp2_with fail
  go_ret2
  exact ⟨rfl, hB⟩

set_option maxHeartbeats 4000000 in
theorem apply_11 (a b : BitVec 64) (he : appE 11 b = 0) (w : World) :
    Calls Try.prog 22 #[.int .u8 11, s a, s b] w fun e w' => e = .returned (.tuple #[s (a >>> (b &&& 63#64).toNat), .int .i64 0]) ∧ Below w.heap.size w w' := by
  go_enter Try.func22, Try.ntmps22
  go_wp2_with fail
  refine (wrong_any 11 (by decide) (by decide) _ _).mono ?_
  rintro e w1 ⟨rfl, hB⟩
  rw [he]
  go_wp2_with fail
  go_ret2
  exact ⟨rfl, hB⟩

set_option maxHeartbeats 4000000 in
theorem apply_12 (a b : BitVec 64) (he : appE 12 b = 0) (w : World) :
    Calls Try.prog 22 #[.int .u8 12, s a, s b] w fun e w' => e = .returned (.tuple #[s (a.sshiftRight (b &&& 63#64).toNat), .int .i64 0]) ∧ Below w.heap.size w w' := by
  go_enter Try.func22, Try.ntmps22
  go_wp2_with fail
  refine (wrong_any 12 (by decide) (by decide) _ _).mono ?_
  rintro e w1 ⟨rfl, hB⟩
  rw [he]
  go_wp2_with fail
  go_ret2
  exact ⟨rfl, hB⟩

set_option maxHeartbeats 4000000 in
theorem apply_13 (a b : BitVec 64) (he : appE 13 b = 0) (w : World) :
    Calls Try.prog 22 #[.int .u8 13, s a, s b] w fun e w' => e = .returned (.tuple #[s (truthV (a.slt b)), .int .i64 0]) ∧ Below w.heap.size w w' := by
  go_enter Try.func22, Try.ntmps22
  go_wp2_with fail
  refine (wrong_any 13 (by decide) (by decide) _ _).mono ?_
  rintro e w1 ⟨rfl, hB⟩
  rw [he]
  go_wp2_with fail
  refine (truth_any _ _).mono ?_
  rintro e w2 ⟨rfl, rfl⟩
  go_wp2_with fail
  go_ret2
  exact ⟨rfl, hB⟩

set_option maxHeartbeats 4000000 in
theorem apply_14 (a b : BitVec 64) (he : appE 14 b = 0) (w : World) :
    Calls Try.prog 22 #[.int .u8 14, s a, s b] w fun e w' => e = .returned (.tuple #[s (truthV (a.ult b)), .int .i64 0]) ∧ Below w.heap.size w w' := by
  go_enter Try.func22, Try.ntmps22
  go_wp2_with fail
  refine (wrong_any 14 (by decide) (by decide) _ _).mono ?_
  rintro e w1 ⟨rfl, hB⟩
  rw [he]
  go_wp2_with fail
  refine (truth_any _ _).mono ?_
  rintro e w2 ⟨rfl, rfl⟩
  go_wp2_with fail
  go_ret2
  exact ⟨rfl, hB⟩

set_option maxHeartbeats 4000000 in
theorem apply_15 (a b : BitVec 64) (he : appE 15 b = 0) (w : World) :
    Calls Try.prog 22 #[.int .u8 15, s a, s b] w fun e w' => e = .returned (.tuple #[s (truthV (a == b)), .int .i64 0]) ∧ Below w.heap.size w w' := by
  go_enter Try.func22, Try.ntmps22
  go_wp2_with fail
  refine (wrong_any 15 (by decide) (by decide) _ _).mono ?_
  rintro e w1 ⟨rfl, hB⟩
  rw [he]
  go_wp2_with fail
  refine (truth_any _ _).mono ?_
  rintro e w2 ⟨rfl, rfl⟩
  go_wp2_with fail
  go_ret2
  exact ⟨rfl, hB⟩

set_option maxHeartbeats 4000000 in
theorem apply_16 (a b : BitVec 64) (he : appE 16 b = 0) (w : World) :
    Calls Try.prog 22 #[.int .u8 16, s a, s b] w fun e w' => e = .returned (.tuple #[s ((sminV a b)), .int .i64 0]) ∧ Below w.heap.size w w' := by
  go_enter Try.func22, Try.ntmps22
  go_wp2_with fail
  refine (wrong_any 16 (by decide) (by decide) _ _).mono ?_
  rintro e w1 ⟨rfl, hB⟩
  rw [he]
  go_wp2_with fail
  go_ret2
  exact ⟨rfl, hB⟩

set_option maxHeartbeats 4000000 in
theorem apply_17 (a b : BitVec 64) (he : appE 17 b = 0) (w : World) :
    Calls Try.prog 22 #[.int .u8 17, s a, s b] w fun e w' => e = .returned (.tuple #[s ((smaxV a b)), .int .i64 0]) ∧ Below w.heap.size w w' := by
  go_enter Try.func22, Try.ntmps22
  go_wp2_with fail
  refine (wrong_any 17 (by decide) (by decide) _ _).mono ?_
  rintro e w1 ⟨rfl, hB⟩
  rw [he]
  go_wp2_with fail
  go_ret2
  exact ⟨rfl, hB⟩

theorem apply_any (op : Int) (h0 : 0 ≤ op) (h1 : op ≤ 255) (a b : BitVec 64) (w : World) :
    Calls Try.prog 22 #[.int .u8 op, s a, s b] w fun e w' => e = .returned (.tuple #[s (appV op a b), .int .i64 (appE op b)]) ∧ Below w.heap.size w w' := by
  by_cases he : appE op b = 0
  · have hr : appV op a b = binV op a b := by unfold appV; rw [if_pos he]
    rw [hr, he]
    obtain ⟨l1, l2, -⟩ := appE_of he
    have hk : op = 1 ∨ op = 2 ∨ op = 3 ∨ op = 4 ∨ op = 5 ∨ op = 6 ∨ op = 7 ∨ op = 8 ∨ op = 9 ∨ op = 10 ∨ op = 11 ∨ op = 12 ∨ op = 13 ∨ op = 14 ∨ op = 15 ∨ op = 16 ∨ op = 17 := by omega
    clear h0 h1 l1 l2 hr
    rcases hk with rfl | rfl | rfl | rfl | rfl | rfl | rfl | rfl | rfl | rfl | rfl | rfl | rfl | rfl | rfl | rfl | rfl
    · exact apply_1 a b he w
    · exact apply_2 a b he w
    · exact apply_3 a b he w
    · exact apply_4 a b he w
    · exact apply_5 a b he w
    · exact apply_6 a b he w
    · exact apply_7 a b he w
    · exact apply_8 a b he w
    · exact apply_9 a b he w
    · exact apply_10 a b he w
    · exact apply_11 a b he w
    · exact apply_12 a b he w
    · exact apply_13 a b he w
    · exact apply_14 a b he w
    · exact apply_15 a b he w
    · exact apply_16 a b he w
    · exact apply_17 a b he w
  · have hr : appV op a b = 0#64 := by unfold appV; rw [if_neg he]
    rw [hr]
    exact apply_bad op h0 h1 a b he w

theorem do_any (op : Int) (h0 : 0 ≤ op) (h1 : op ≤ 255) (a b : BitVec 64) (w : World) :
    Calls Try.prog 16 #[.int .u8 op, s a, s b] w fun e w' => e = .returned (s (appV op a b)) ∧ Below w.heap.size w w' := by
  by_cases he : appE op b = 0
  · go_enter Try.func16, Try.ntmps16
    go_wp2_with fail
    refine (apply_any op h0 h1 _ _ _).mono ?_
    rintro e w1 ⟨rfl, hB⟩
    go_wp2_with fail
    go_ret
    exact ⟨rfl, hB⟩
  · have hr : appV op a b = 0#64 := by unfold appV; rw [if_neg he]
    have he' : (appE op b != 0) = true := by simpa using he
    rw [hr]
    go_enter Try.func16, Try.ntmps16
    go_wp2_with fail
    refine (apply_any op h0 h1 _ _ _).mono ?_
    rintro e w1 ⟨rfl, hB⟩
    go_wp2_with fail
    go_ret
    exact ⟨rfl, hB⟩
end Go.Proofs.Ytbmommomhepfpaa
