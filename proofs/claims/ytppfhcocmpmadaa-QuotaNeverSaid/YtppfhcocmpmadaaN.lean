/- The law QuotaNever: its walk, all cases. -/
import Derived.Test.YtppfhcocmpmadaaNA
import Derived.Test.YtppfhcocmpmadaaNB
import Derived.Test.YtppfhcocmpmadaaNC
namespace Go.Proofs.Ytppfhcocmpmadaa
open Go.RowKit
set_option linter.unusedVariables false

theorem never_any (haw : AwakeC) (a b : Nat → Int) (ha : ∀ j, j < 4 → 0 ≤ a j ∧ a j ≤ 255) (hb : ∀ j, j < 4 → 0 ≤ b j ∧ b j ≤ 255) (v : Value) (xs : List Int) (w : World) (hs : SrcE e16 w v xs) (hx : ∀ x ∈ xs, 0 ≤ x ∧ x ≤ 65535) :
    Calls Try.prog 6 #[.agg (a8 a), .agg (a8 b), v] w fun e w' => e = .returned (.bool true) ∧ Below w.heap.size w w' := by
  have hm := mb a b ha hb
  have hc := mc xs hx
  obtain ⟨K, hK⟩ := stepAt_ex (mL a) (useK (mU a b) (mC xs)) (mC xs).length
  by_cases hlt : K < (mC xs).length
  · have hf0 := hK.bad hlt
    by_cases hf : (failsV (mL a) (useK (mU a b) (mC xs) (mC xs).length)).2 = 0
    · exact never_B haw a b ha hb v xs w hs hx _ _ _ _ _ rfl rfl rfl rfl rfl hm hc K _ hlt rfl hf0 hK hf
    · obtain ⟨j, hj, h1, h2, h3, h4⟩ := lsK_some hf
      exact never_C haw a b ha hb v xs w hs hx _ _ _ _ _ rfl rfl rfl rfl rfl hm hc K _ hlt rfl hf0 hK j _ hj h1 h2 h3 rfl h4
  · obtain rfl : K = (mC xs).length := by have := hK.le; omega
    exact never_A haw a b ha hb v xs w hs hx _ _ _ _ _ rfl rfl rfl rfl rfl hm hc hK (steps_all hm.right _ hK)
end Go.Proofs.Ytppfhcocmpmadaa
