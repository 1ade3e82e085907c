/- Times, aheads and horizons made of numbers. -/
import Derived.Test.YtlblpmadehikgaaA7
namespace Go.Proofs.Ytlblpmadehikgaa
open Go.RowKit
set_option linter.unusedVariables false

def e64 (n : Int) : Value := .int .u64 n
def aheadV (n : Nat) : Int := 1 + ((n % 1099511627776 : Nat) : Int)
def horV (n : Nat) : Int := ((n % 281474976710658 : Nat) : Int)
theorem ahead_of (n : Nat) (hn : n < 18446744073709551616) (w : World) : Calls Try.prog 12 #[.int .u64 (n : Int)] w fun e w' => e = .returned (.int .i64 (aheadV n)) ∧ Below w.heap.size w w' := by
  obtain ⟨m, hm⟩ : ∃ m, m = n % 1099511627776 := ⟨_, rfl⟩
  have HE : Hd (aheadV n = 1 + (m : Int)) := ⟨by rw [aheadV, hm]⟩
  have r1 : Int.tmod (n : Int) 1099511627776 = (m : Int) := by rw [Int.tmod_eq_emod_of_nonneg (by omega)]; omega
  have r2 : (n : Int) % 1099511627776 = (m : Int) := by omega
  have r3 : m < 1099511627776 := by omega
  have w1 : IntKind.i64.wrap (m : Int) = (m : Int) := IntWalk.i64_in _ ⟨by omega, by omega⟩
  have w2 : IntKind.i64.wrap (1 + (m : Int)) = 1 + (m : Int) := IntWalk.i64_in _ ⟨by omega, by omega⟩
  have w3 : IntKind.i64.wrap ((m : Int) + 1) = (m : Int) + 1 := IntWalk.i64_in _ ⟨by omega, by omega⟩
  clear hm
  go_enter Try.func12, Try.ntmps12
  go_wp2_with fail
  go_ret
  exact ⟨by rw [HE.out]; first | rfl | (simp [*]; done) | (simp [*]; omega), Below.refl _ _⟩
theorem hor_of (n : Nat) (hn : n < 18446744073709551616) (w : World) : Calls Try.prog 13 #[.int .u64 (n : Int)] w fun e w' => e = .returned (.int .i64 (horV n)) ∧ Below w.heap.size w w' := by
  obtain ⟨m, hm⟩ : ∃ m, m = n % 281474976710658 := ⟨_, rfl⟩
  have HE : Hd (horV n = (m : Int)) := ⟨by rw [horV, hm]⟩
  have r1 : Int.tmod (n : Int) 281474976710658 = (m : Int) := by rw [Int.tmod_eq_emod_of_nonneg (by omega)]; omega
  have r2 : (n : Int) % 281474976710658 = (m : Int) := by omega
  have r3 : m < 281474976710658 := by omega
  have w1 : IntKind.i64.wrap (m : Int) = (m : Int) := IntWalk.i64_in _ ⟨by omega, by omega⟩
  clear hm
  go_enter Try.func13, Try.ntmps13
  go_wp2_with fail
  go_ret
  exact ⟨by rw [HE.out]; first | rfl | (simp [*]; done) | (simp [*]; omega), Below.refl _ _⟩
theorem ahead_right (n : Nat) : aheadB (aheadV n) = true := by
  rw [aheadB, aheadV, decide_eq_true (by omega), decide_eq_true (by omega)]; rfl
theorem hor_right (n : Nat) : horB (horV n) = true := by
  rw [horB, horV, decide_eq_true (by omega), decide_eq_true (by omega)]; rfl
end Go.Proofs.Ytlblpmadehikgaa
