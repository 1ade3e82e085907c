/- The law WindowTells: its walk. -/
import Derived.Test.YtlblpmadehikgaaC2
namespace Go.Proofs.Ytlblpmadehikgaa
open Go.RowKit
set_option linter.unusedVariables false

set_option maxRecDepth 100000 in
set_option maxHeartbeats 1000000 in
theorem tells_law (a b ah t d : Int) (w : World) : Calls Try.prog 4 #[.agg #[.int .i64 a, .int .i64 b], .int .i64 ah, .int .i64 t, .int .i64 d] w fun e w' => e = .returned (.bool true) ∧ Below w.heap.size w w' := by
  go_enter Try.func4, Try.ntmps4
  go_wp2_with fail
  refine (tells_any _ _ _ _ _ _).mono ?_
  rintro e w1 ⟨rfl, hB⟩
  have HB := Hd.mk (ch4 (bl_alloc (Below.refl _ _)) hB)
  clear hB
  go_wp2_with fail
  refine (awake_any _).mono ?_
  rintro e w2 ⟨rfl, hB⟩
  have HB2 := Hd.mk (ch4 HB.out hB)
  clear hB
  go_wp2_with fail
  go_ret
  exact ⟨rfl, HB2.out⟩
end Go.Proofs.Ytlblpmadehikgaa
