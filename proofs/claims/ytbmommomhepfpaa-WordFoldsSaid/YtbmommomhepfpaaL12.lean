/- Walk of the law WordTells. -/
import Derived.Test.YtbmommomhepfpaaR18
import Derived.Test.YtbmommomhepfpaaL11
namespace Go.Proofs.Ytbmommomhepfpaa
open Go.RowKit
set_option linter.unusedVariables false

set_option maxRecDepth 100000 in
set_option maxHeartbeats 4000000 in
theorem tells_any (op : Int) (h0 : 0 ≤ op) (h1 : op ≤ 255) (a b : BitVec 64) (w : World) : Calls Try.prog 21 #[.int .u8 op, s a, s b] w fun e w' => e = .returned (.bool true) ∧ Below w.heap.size w w' := by
  go_enter Try.func21, Try.ntmps21
  go_wp2_with fail
  refine (apply_any op h0 h1 a b _).mono ?_
  rintro e w1 ⟨rfl, hB1⟩
  go_wp2_with fail
  refine (refApply_any op h0 h1 a b _).mono ?_
  rintro e w2 ⟨rfl, hB2⟩
  go_wp2_with fail
  refine (exact_any op h0 h1 a b _).mono ?_
  rintro e w3 ⟨rfl, hB3⟩
  go_wp2_with fail
  refine (refExact_any op h0 h1 a b _).mono ?_
  rintro e w4 ⟨rfl, hB4⟩
  have hB := ch4 (ch4 (ch4 hB1 hB2) hB3) hB4
  clear hB1 hB2 hB3 hB4
  obtain ⟨q, hq⟩ : ∃ q, exactV op a b = q := ⟨_, rfl⟩
  obtain ⟨n, hn⟩ : ∃ q, appE op b = q := ⟨_, rfl⟩
  rw [hq, hn]
  clear hq hn
  cases q
  all_goals
    go_wp2_with fail
    refine (name_any op h0 h1 _).mono ?_
    rintro e w5 ⟨rfl, hB5⟩
    go_wp2_with fail
    refine (refName_any op h0 h1 _).mono ?_
    rintro e w6 ⟨rfl, hB6⟩
    have hB' := ch4 (ch4 hB hB5) hB6
    clear hB hB5 hB6
    go_wp2_with fail
    go_ret
    exact ⟨rfl, hB'⟩

set_option maxRecDepth 100000 in
set_option maxHeartbeats 2000000 in
theorem wordTells_walk (op : Int) (h0 : 0 ≤ op) (h1 : op ≤ 255) (a b : BitVec 64) (w : World) : Calls Try.prog 10 #[.int .u8 op, s a, s b] w fun e w' => e = .returned (.bool true) ∧ Below w.heap.size w w' := by
  go_enter Try.func10, Try.ntmps10
  go_wp2_with fail
  refine (tells_any op h0 h1 a b _).mono ?_
  rintro e w1 ⟨rfl, hB1⟩
  go_wp2_with fail
  refine (awake_any _).mono ?_
  rintro e w2 ⟨rfl, hB2⟩
  have hB := ch4 hB1 hB2
  clear hB1 hB2
  go_wp2_with fail
  go_ret
  exact ⟨rfl, hB⟩
end Go.Proofs.Ytbmommomhepfpaa
