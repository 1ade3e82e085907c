/- Walk of the law WordWides. -/
import Derived.Test.YtbmommomhepfpaaR17
import Derived.Test.YtbmommomhepfpaaW7
namespace Go.Proofs.Ytbmommomhepfpaa
open Go.RowKit
set_option linter.unusedVariables false

set_option maxRecDepth 100000 in
set_option maxHeartbeats 2000000 in
theorem wides_any (a b : BitVec 64) (w : World) : Calls Try.prog 14 #[s a, s b] w fun e w' => e = .returned (.bool true) ∧ Below w.heap.size w w' := by
  go_enter Try.func14, Try.ntmps14
  go_wp2_with fail
  refine (wide_any a b _).mono ?_
  rintro e w1 ⟨rfl, rfl⟩
  go_wp2_with fail
  refine (refWide_any a b _).mono ?_
  rintro e w2 ⟨rfl, hB2⟩
  go_wp2_with fail
  refine (inverse_any a _).mono ?_
  rintro e w3 ⟨rfl, rfl⟩
  go_wp2_with fail
  refine (refInverse_any a _).mono ?_
  rintro e w4 ⟨rfl, hB4⟩
  have hB := ch4 hB2 hB4
  clear hB2 hB4
  obtain ⟨q, hq⟩ : ∃ q, invOk a = q := ⟨_, rfl⟩
  rw [hq]
  clear hq
  cases q
  all_goals
    go_wp2_with fail
    go_ret
    exact ⟨rfl, hB⟩

set_option maxRecDepth 100000 in
set_option maxHeartbeats 2000000 in
theorem wordWides_walk (a b : BitVec 64) (w : World) : Calls Try.prog 3 #[s a, s b] w fun e w' => e = .returned (.bool true) ∧ Below w.heap.size w w' := by
  go_enter Try.func3, Try.ntmps3
  go_wp2_with fail
  refine (wides_any a b _).mono ?_
  rintro e w1 ⟨rfl, hB1⟩
  go_wp2_with fail
  refine (awake_any _).mono ?_
  rintro e w2 ⟨rfl, hB2⟩
  have hB := ch4 hB1 hB2
  clear hB1 hB2
  go_wp2_with fail
  go_ret
  exact ⟨rfl, hB⟩
end Go.Proofs.Ytbmommomhepfpaa
