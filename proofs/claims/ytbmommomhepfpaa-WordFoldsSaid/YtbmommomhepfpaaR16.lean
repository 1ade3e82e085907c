/- The reference's Inverse, whole. -/
import Derived.Test.YtbmommomhepfpaaR15
namespace Go.Proofs.Ytbmommomhepfpaa
open Go.RowKit
set_option linter.unusedVariables false

set_option maxRecDepth 100000 in
set_option maxHeartbeats 1000000 in
theorem refInverse_even (a : BitVec 64) (hev : bi a 0 = 0) (w : World) : Calls Try.prog 29 #[s a] w fun e w' => e = .returned (.tuple #[s 0#64, .bool false]) ∧ Below w.heap.size w w' := by
  have HEV := Hd.mk hev
  clear hev
  go_enter Try.func29, Try.ntmps29
  go_wp2_with fail
  refine (bits_any a _).mono ?_
  rintro e w1 ⟨v1, rfl, hb1, hB1⟩
  obtain ⟨b1, off1, c1, rfl, hc1, _, hbw1, hcell1⟩ := hb1
  have hc0 := hcell1 0 (by decide)
  rw [HEV.out, Nat.add_zero] at hc0
  clear hcell1
  go_wp2_with fail
  go_ret2
  exact ⟨rfl, hB1⟩

theorem invOk_bit (a : BitVec 64) : invOk a = a.getLsbD 0 := by
  rw [← odd_bit0]; rfl
theorem refInverse_any (a : BitVec 64) (w : World) : Calls Try.prog 29 #[s a] w fun e w' => e = .returned (.tuple #[s (invV a), .bool (invOk a)]) ∧ Below w.heap.size w w' := by
  have hb := invOk_bit a
  cases h : invOk a
  · have e : invV a = 0#64 := by rw [invV, h]; rfl
    rw [e]
    exact refInverse_even a (by unfold bi; rw [← hb, h]; rfl) w
  · exact refInverse_odd a h (by unfold bi; rw [← hb, h]; rfl) w
end Go.Proofs.Ytbmommomhepfpaa
