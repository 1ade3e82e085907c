/- Walks of the reference's names, Name. -/
import Derived.Test.YtbmommomhepfpaaR12
import Derived.Test.YtbmommomhepfpaaW9
namespace Go.Proofs.Ytbmommomhepfpaa
open Go.RowKit
set_option linter.unusedVariables false

def namesC : Array Value := #[.string (nameV 1), .string (nameV 2), .string (nameV 3), .string (nameV 4), .string (nameV 5), .string (nameV 6), .string (nameV 7), .string (nameV 8), .string (nameV 9), .string (nameV 10), .string (nameV 11), .string (nameV 12), .string (nameV 13), .string (nameV 14), .string (nameV 15), .string (nameV 16), .string (nameV 17)]

set_option maxRecDepth 100000 in
set_option maxHeartbeats 1000000 in
theorem names_any (w : World) : Calls Try.prog 36 #[] w fun e w' => e = .returned (.slice (some ⟨w.heap.size, 0, none⟩) 17 17) ∧ w' = w.alloc (.cells namesC 9) := by
  go_enter Try.func36, Try.ntmps36
  go_wp2_with fail
  go_ret
  exact ⟨rfl, by rfl⟩
theorem namesC_at (op : Int) (h1 : 1 ≤ op) (h2 : op ≤ 17) : namesC[(op - 1).toNat]? = some (.string (NameV op)) := by
  have hk : op = 1 ∨ op = 2 ∨ op = 3 ∨ op = 4 ∨ op = 5 ∨ op = 6 ∨ op = 7 ∨ op = 8 ∨ op = 9 ∨ op = 10 ∨ op = 11 ∨ op = 12 ∨ op = 13 ∨ op = 14 ∨ op = 15 ∨ op = 16 ∨ op = 17 := by omega
  rcases hk with rfl | rfl | rfl | rfl | rfl | rfl | rfl | rfl | rfl | rfl | rfl | rfl | rfl | rfl | rfl | rfl | rfl <;> rfl

set_option maxRecDepth 100000 in
set_option maxHeartbeats 1000000 in
theorem refName_any (op : Int) (h0 : 0 ≤ op) (h1 : op ≤ 255) (w : World) : Calls Try.prog 27 #[.int .u8 op] w fun e w' => e = .returned (.string (NameV op)) ∧ Below w.heap.size w w' := by
  by_cases hlo : op < 1
  · obtain rfl : op = 0 := by omega
    have e : NameV 0 = ⟨#[]⟩ := by decide
    rw [e]
    go_enter Try.func27, Try.ntmps27
    go_wp2_with fail
    go_ret
    exact ⟨rfl, Below.refl _ _⟩
  by_cases hhi : 17 < op
  · have e : NameV op = ⟨#[]⟩ := by rw [NameV, if_pos hhi]
    rw [e]
    go_enter Try.func27, Try.ntmps27
    go_wp2_with fail
    go_ret
    exact ⟨rfl, Below.refl _ _⟩
  · have hc : ∀ w : World, (w.alloc (.cells namesC 9)).cell? ⟨w.heap.size, (op - 1).toNat, none⟩ = some (.string (NameV op)) := fun w => by
      rw [cells_cell (World.alloc_heap_new w _)]; exact namesC_at op (by omega) (by omega)
    have hcw := hc w
    have h01 : 0 ≤ op - 1 := by omega
    obtain ⟨j, hj⟩ : ∃ j : Nat, op - 1 = (j : Int) := ⟨(op - 1).toNat, by omega⟩
    rw [hj, Int.toNat_natCast] at hcw
    obtain ⟨N, hN⟩ : ∃ N, NameV op = N := ⟨_, rfl⟩
    rw [hN] at hcw ⊢
    have hj17 : (j : Int) < 17 := by omega
    clear hc hN
    go_enter Try.func27, Try.ntmps27
    go_wp2_with fail
    refine (names_any _).mono ?_
    rintro e w1 ⟨rfl, rfl⟩
    go_wp2_with fail
    go_ret
    exact ⟨rfl, (Below.refl _ _).alloc (Nat.le_refl _) _⟩
end Go.Proofs.Ytbmommomhepfpaa
