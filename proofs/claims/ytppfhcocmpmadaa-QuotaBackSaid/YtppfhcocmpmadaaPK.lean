/- Plain laws for QuotaBack: charges that take others back. -/
import Derived.Test.YtppfhcocmpmadaaC0
import Derived.Test.YtppfhcocmpmadaaPN
namespace Go.Proofs.Ytppfhcocmpmadaa
open Go.RowKit
set_option linter.unusedVariables false

theorem backV_back (cs : List (Int × Int)) : backV (backV cs) = cs := by
  unfold backV
  rw [← List.map_reverse, List.reverse_reverse, List.map_map]
  have : ((fun x : Int × Int => (x.1, -x.2)) ∘ fun x : Int × Int => (x.1, -x.2)) = id := by
    funext x; simp
  rw [this, List.map_id]
theorem MC.back {cs : List (Int × Int)} (h : MC cs) : MC (backV cs) := by
  refine ⟨by rw [backV_len]; exact h.len, fun x hx => ?_, fun x hx => ?_⟩
  · simp only [backV, List.mem_map, List.mem_reverse] at hx
    obtain ⟨y, hy, rfl⟩ := hx
    exact h.kind y hy
  · simp only [backV, List.mem_map, List.mem_reverse] at hx
    obtain ⟨y, hy, rfl⟩ := hx
    have := h.amount y hy
    simp only; omega
theorem useK_back (U : Nat → Int) (cs : List (Int × Int)) : ∀ k, k ≤ cs.length → useK (useK U cs cs.length) (backV cs) k = useK U cs (cs.length - k) := by
  intro k
  induction k with
  | zero => intro _; rw [useK_zero, Nat.sub_zero]
  | succ k ih =>
    intro hk
    funext j
    rw [useK_succ _ _ k (by rw [backV_len]; omega) j, ih (by omega), backV_get cs k (by omega)]
    have e := useK_succ U cs (cs.length - (k + 1)) (by omega) j
    rw [show cs.length - (k + 1) + 1 = cs.length - k from by omega] at e
    rw [e]
    have e2 : cs.length - 1 - k = cs.length - (k + 1) := by omega
    simp only [e2]
    split <;> omega
theorem useK_backall {U V : Nat → Int} {cs B : List (Int × Int)} (hV : useK U cs cs.length = V) (hB : backV cs = B) : useK V B cs.length = U := by
  subst hV hB
  rw [useK_back U cs cs.length (Nat.le_refl _), Nat.sub_self, useK_zero]
theorem sum_back {S T : Nat → Int} {cs B : List (Int × Int)} (hS : useK zf cs cs.length = S) (hB : backV cs = B) (hT : useK zf B cs.length = T) (j : Nat) : -T j = S j := by
  have h1 := useK_backall hS hB
  have h2 := useK_sum S B cs.length j
  rw [h1, hT] at h2
  have : zf j = 0 := rfl
  omega
theorem stepAt_back {L U V : Nat → Int} {cs B : List (Int × Int)} (hm : MB L U) (hB : backV cs = B) (hV : useK U cs cs.length = V) (h : StepAt L (useK U cs) cs.length cs.length) : StepAt L (useK V B) cs.length cs.length := by
  subst hV hB
  refine ⟨Nat.le_refl _, fun j hj => ?_, fun h => by omega⟩
  rw [useK_back U cs (j + 1) hj]
  by_cases h0 : cs.length - (j + 1) = 0
  · rw [h0, useK_zero]
    exact fails_ok.2 fun i hi => by have := right_iff.1 hm.right i hi; exact failAt_ok (by omega) (by omega)
  · have := h.ok (cs.length - (j + 1) - 1) (by omega)
    rwa [show cs.length - (j + 1) - 1 + 1 = cs.length - (j + 1) from by omega] at this
theorem fails_none {L U : Nat → Int} (hm : MB L U) : (failsV L U).2 = 0 :=
  fails_ok.2 fun i hi => by have := right_iff.1 hm.right i hi; exact failAt_ok (by omega) (by omega)
theorem use_at {cs B : List (Int × Int)} (hB : backV cs = B) (hl : B.length = cs.length) (k j : Nat) (hk : k < cs.length) (hj : j = cs.length - 1 - k) : B[k] = (cs[j].1, -cs[j].2) := by
  subst hB hj
  exact backV_get cs k hk
end Go.Proofs.Ytppfhcocmpmadaa
