/- Walk of word.Name. -/
import Derived.Test.YtbmommomhepfpaaW8
namespace Go.Proofs.Ytbmommomhepfpaa
open Go.RowKit

def NameV (op : Int) : ByteArray := if 17 < op then ⟨#[]⟩ else nameV op

set_option maxHeartbeats 1000000 in
theorem name_any (op : Int) (h0 : 0 ≤ op) (h1 : op ≤ 255) (w : World) :
    Calls Try.prog 23 #[.int .u8 op] w fun e w' => e = .returned (.string (NameV op)) ∧ Below w.heap.size w w' := by
  by_cases hg : 17 < op
  · rw [show NameV op = ⟨#[]⟩ from if_pos hg]
    go_enter Try.func23, Try.ntmps23
    go_wp2_with fail
    go_ret
    exact ⟨rfl, Below.refl _ _⟩
  · have hi := all_at op h0 (by omega)
    rw [show NameV op = nameV op from if_neg hg]
    go_enter Try.func23, Try.ntmps23
    go_wp2_with fail
    refine (all_run _).mono ?_
    rintro e w1 ⟨rfl, hB⟩
    go_wp2_with fail
    go_ret
    exact ⟨rfl, hB⟩
end Go.Proofs.Ytbmommomhepfpaa
