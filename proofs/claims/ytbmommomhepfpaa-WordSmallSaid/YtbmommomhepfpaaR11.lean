/- The reference's Apply, whole. -/
import Derived.Test.YtbmommomhepfpaaR10
namespace Go.Proofs.Ytbmommomhepfpaa
open Go.RowKit
set_option linter.unusedVariables false

set_option maxRecDepth 100000 in
set_option maxHeartbeats 1000000 in
theorem refApply_bad (op : Int) (h0 : 0 ≤ op) (h1 : op ≤ 255) (h : op < 1 ∨ 17 < op) (a b : BitVec 64) (w : World) :
    Calls Try.prog 30 #[.int .u8 op, s a, s b] w fun e w' => e = .returned (.tuple #[s 0#64, .int .i64 130]) ∧ Below w.heap.size w w' := by
  rcases h with h | h
  · go_enter Try.func30, Try.ntmps30
    go_wp2_with fail
    go_ret2
    exact ⟨rfl, Below.refl _ _⟩
  · have h' : ¬ op < 1 := by omega
    go_enter Try.func30, Try.ntmps30
    go_wp2_with fail
    go_ret2
    exact ⟨rfl, Below.refl _ _⟩

set_option maxRecDepth 100000 in
set_option maxHeartbeats 1000000 in
theorem refApply_zero (op : Int) (h4 : 4 ≤ op) (h6 : op ≤ 6) (a : BitVec 64) (w : World) :
    Calls Try.prog 30 #[.int .u8 op, s a, s 0#64] w fun e w' => e = .returned (.tuple #[s 0#64, .int .i64 131]) ∧ Below w.heap.size w w' := by
  have h1 : ¬ op < 1 := by omega
  have h17 : ¬ 17 < op := by omega
  go_enter Try.func30, Try.ntmps30
  go_wp2_with fail
  go_ret2
  exact ⟨rfl, Below.refl _ _⟩

theorem refApply_any (op : Int) (h0 : 0 ≤ op) (h1 : op ≤ 255) (a b : BitVec 64) (w : World) :
    Calls Try.prog 30 #[.int .u8 op, s a, s b] w fun e w' => e = .returned (.tuple #[s (appV op a b), .int .i64 (appE op b)]) ∧ Below w.heap.size w w' := by
  by_cases hbad : op < 1 ∨ 17 < op
  · have e1 : appE op b = 130 := by rw [appE, if_pos hbad]
    have e2 : appV op a b = 0#64 := by rw [appV, e1, if_neg (by decide)]
    rw [e1, e2]; exact refApply_bad op h0 h1 hbad a b w
  by_cases hz : b = 0#64 ∧ 4 ≤ op ∧ op ≤ 6
  · have e1 : appE op b = 131 := by rw [appE, if_neg hbad, if_pos hz]
    have e2 : appV op a b = 0#64 := by rw [appV, e1, if_neg (by decide)]
    rw [e1, e2, hz.1]; exact refApply_zero op hz.2.1 hz.2.2 a w
  have e1 : appE op b = 0 := by rw [appE, if_neg hbad, if_neg hz]
  rw [e1]
  have hop : op = 1 ∨ op = 2 ∨ op = 3 ∨ op = 4 ∨ op = 5 ∨ op = 6 ∨ op = 7 ∨ op = 8 ∨ op = 9 ∨ op = 10 ∨ op = 11 ∨ op = 12 ∨ op = 13 ∨ op = 14 ∨ op = 15 ∨ op = 16 ∨ op = 17 := by omega
  rcases hop with rfl | rfl | rfl | rfl | rfl | rfl | rfl | rfl | rfl | rfl | rfl | rfl | rfl | rfl | rfl | rfl | rfl
  · exact refApply_1 a b w
  · exact refApply_2 a b w
  · exact refApply_3 a b w
  · exact refApply_4 a b (fun h => hz ⟨h, by decide, by decide⟩) w
  · exact refApply_5 a b (fun h => hz ⟨h, by decide, by decide⟩) w
  · cases ha : a.slt 0#64
    · exact refApplyP_6 a b (fun h => hz ⟨h, by decide, by decide⟩) ha w
    · exact refApplyN_6 a b (fun h => hz ⟨h, by decide, by decide⟩) ha w
  · exact refApply_7 a b w
  · exact refApply_8 a b w
  · exact refApply_9 a b w
  · exact refApply_10 a b w
  · exact refApply_11 a b w
  · exact refApply_12 a b w
  · exact refApply_13 a b w
  · exact refApply_14 a b w
  · exact refApply_15 a b w
  · exact refApply_16 a b w
  · exact refApply_17 a b w
end Go.Proofs.Ytbmommomhepfpaa
