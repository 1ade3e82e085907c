/- The iterator windows: its making. -/
import Derived.Test.YtlblpmadehikgaaA9
namespace Go.Proofs.Ytlblpmadehikgaa
open Go.RowKit Go.Shelf
set_option linter.unusedVariables false

theorem windows_any (a : Option Addr) (n c : Nat) (ah h : Int) (w : World) : Calls Try.prog 32 #[.slice a n c, .int .i64 ah, .int .i64 h] w fun e w' =>
    e = .returned (.func (.func 47) #[] #[.pointer (some ⟨w.heap.size, 0, none⟩), .pointer (some ⟨w.heap.size + 2, 0, none⟩), .pointer (some ⟨w.heap.size + 1, 0, none⟩)]) ∧ w' = ((w.alloc (.cells #[.slice a n c] 24)).alloc (.cells #[.int .i64 ah] 3)).alloc (.cells #[.int .i64 h] 3) := by
  go_enter Try.func32, Try.ntmps32
  go_wp2_with fail
  go_ret
  exact ⟨rfl, rfl⟩
end Go.Proofs.Ytlblpmadehikgaa
