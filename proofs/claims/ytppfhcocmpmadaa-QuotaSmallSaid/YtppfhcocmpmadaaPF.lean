/- Plain laws for QuotaFails: prefixes of charges. -/
import Derived.Test.YtppfhcocmpmadaaC0
import Derived.Test.YtppfhcocmpmadaaPN
namespace Go.Proofs.Ytppfhcocmpmadaa
open Go.RowKit
set_option linter.unusedVariables false

theorem SrcC.take {w : World} {a : Option Addr} {n c : Nat} {cs : List (Int × Int)} (h : SrcC w (.slice a n c) cs) (k : Nat) (hk : k ≤ cs.length) : SrcC w (.slice a k c) (cs.take k) := by
  rcases h with ⟨rfl, a', c', hv, hn⟩ | ⟨b, off, c', hv, h1, h2, hb, hc⟩
  · simp only [Value.slice.injEq] at hv
    obtain ⟨rfl, rfl, rfl⟩ := hv
    obtain rfl : k = 0 := by simpa using hk
    exact .inl ⟨by simp, _, _, rfl, hn⟩
  · simp only [Value.slice.injEq] at hv
    obtain ⟨rfl, rfl, rfl⟩ := hv
    refine .inr ⟨b, off, c, by simp [Nat.min_eq_left hk], by simp; omega, h2, hb, fun j hj => ?_⟩
    have hj' : j < cs.length := by simp at hj; omega
    have := hc j hj'
    simpa using this
theorem useK_take (U : Nat → Int) (cs : List (Int × Int)) (m k : Nat) (h : k ≤ m) : useK U (cs.take m) k = useK U cs k := by
  funext j
  simp [useK, List.take_take, Nat.min_eq_left h]
theorem stepAt_take {L U : Nat → Int} {cs : List (Int × Int)} {K : Nat} (h : StepAt L (useK U cs) cs.length K) (m : Nat) (hm : m ≤ K) : StepAt L (useK U (cs.take m)) m m :=
  ⟨Nat.le_refl _, fun j hj => by rw [useK_take U cs m (j + 1) (by omega)]; exact h.ok j (by omega), fun h => by omega⟩
theorem stepAt_cut {L U : Nat → Int} {cs : List (Int × Int)} {K : Nat} (h : StepAt L (useK U cs) cs.length K) (hlt : K < cs.length) : StepAt L (useK U (cs.take (K + 1))) (K + 1) K :=
  ⟨by omega, fun j hj => by rw [useK_take U cs (K + 1) (j + 1) (by omega)]; exact h.ok j hj, fun _ => by rw [useK_take U cs (K + 1) (K + 1) (by omega)]; exact h.bad hlt⟩
theorem use_right {L U : Nat → Int} {cs : List (Int × Int)} {K : Nat} (hm : MB L U) (h : StepAt L (useK U cs) cs.length K) (k : Nat) (hk : k ≤ K) : rightB L (useK U cs k) = true := by
  cases k with
  | zero => rw [useK_zero]; exact hm.right
  | succ k => exact fails_right hm.lim (h.ok k (by omega))
/-- A charge that can be done, out of the charges. -/
theorem use_ok {L U : Nat → Int} {cs : List (Int × Int)} {K : Nat} (h : StepAt L (useK U cs) cs.length K) (k j : Nat) (hk : k < K) (hn : k < cs.length) (hj : j < 4) (hc : cs[k].1 = j) :
    0 ≤ useK U cs k j + cs[k].2 ∧ useK U cs k j + cs[k].2 ≤ L j ∧ upd (useK U cs k) j (useK U cs k j + cs[k].2) = useK U cs (k + 1) := by
  have e := useK_step U cs k hn j hj hc
  have hf := failAt_iff.1 (fails_ok.1 (h.ok k hk) j hj)
  rw [← e] at hf
  simp only [upd, if_pos] at hf
  exact ⟨hf.1, hf.2, e⟩
/-- The charge that cannot be done. -/
theorem use_bad {L U : Nat → Int} {cs : List (Int × Int)} {K : Nat} (hm : MB L U) (h : StepAt L (useK U cs) cs.length K) (j : Nat) (hn : K < cs.length) (hj : j < 4) (hc : cs[K].1 = j) :
    ¬ failAt (L j) (useK U cs K j + cs[K].2) = 0 ∧ (failsV L (useK U cs (K + 1))).2 = failAt (L j) (useK U cs K j + cs[K].2) := by
  have e := useK_step U cs K hn j hj hc
  have hr := use_right hm h K (Nat.le_refl _)
  have hb := h.bad hn
  by_cases hz : failAt (L j) (useK U cs K j + cs[K].2) = 0
  · exfalso
    refine hb (fails_ok.2 fun i hi => ?_)
    rw [← e, upd]
    by_cases hij : i = j
    · rw [if_pos hij, hij]; exact hz
    · rw [if_neg hij]; have := right_iff.1 hr i hi; exact failAt_ok (by omega) (by omega)
  · refine ⟨hz, ?_⟩
    rw [← e, fails_one hr j hj _ hz]
end Go.Proofs.Ytppfhcocmpmadaa
