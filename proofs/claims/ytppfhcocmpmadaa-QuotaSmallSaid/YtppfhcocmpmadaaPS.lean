/- Plain laws for QuotaSmall: 4096 charges, and one more. -/
import Derived.Test.YtppfhcocmpmadaaS3
import Derived.Test.YtppfhcocmpmadaaS2
namespace Go.Proofs.Ytppfhcocmpmadaa
open Go.RowKit
set_option linter.unusedVariables false

def bigC : List (Int × Int) := (List.range 4097).map fun j => (((j % 4 : Nat) : Int), bigA j)
theorem bigC_len : bigC.length = 4097 := by simp [bigC]
theorem bigC_get (j : Nat) (h : j < bigC.length) : bigC[j] = (((j % 4 : Nat) : Int), bigA j) := by simp [bigC]
theorem big_src {w : World} {base g : Nat} {xs : List Value} (h : w.ownsRow base 32 2 (.slice (some ⟨g, 0, none⟩) 4097 4097) 4097 xs) (hx : ∀ j, j < 4097 → BigAt xs j) : SrcC w (.slice (some ⟨g, 0, none⟩) 4097 4097) bigC := by
  refine .inr ⟨g, 0, 4097, by rw [bigC_len], by rw [bigC_len]; exact Nat.le_refl _, by simp [maxLen], (World.ownsRow.lt h g rfl).2, fun j hj => ?_⟩
  have hj' : j < 4097 := by rwa [bigC_len] at hj
  rw [Nat.zero_add, bigC_get j hj, h.cellAt (j * 2) (by omega), h.cellAt (j * 2 + 1) (by omega)]
  exact hx j hj'
def bigL : Nat → Int := lst [1099511627776, 1099511627776, 1099511627776, 1099511627776]
def bigU : Nat → Int := lst [0]
theorem bigL_at (j : Nat) (h : j < 4) : bigL j = 1099511627776 := by
  have : j = 0 ∨ j = 1 ∨ j = 2 ∨ j = 3 := by omega
  rcases this with rfl | rfl | rfl | rfl <;> rfl
theorem bigU_at (j : Nat) (h : j < 4) : bigU j = 0 := by
  have : j = 0 ∨ j = 1 ∨ j = 2 ∨ j = 3 := by omega
  rcases this with rfl | rfl | rfl | rfl <;> rfl
/-- What is used after k charges. -/
theorem big_use : ∀ k, k ≤ 4096 → ∀ j, j < 4 → useK bigU (bigC.take 4096) k j = if j < k % 8 ∧ k % 8 ≤ j + 4 then 1099511627776 else 0 := by
  intro k
  induction k with
  | zero => intro _ j hj; rw [useK_zero, bigU_at j hj, if_neg (by omega)]
  | succ k ih =>
    intro hk j hj
    have hl : k < (bigC.take 4096).length := by rw [List.length_take, bigC_len]; omega
    rw [useK_succ _ _ k hl j, ih (by omega) j hj, List.getElem_take, bigC_get]
    simp only [bigA]
    by_cases h1 : 4 ≤ k % 8
    · rw [if_pos h1]
      by_cases h2 : ((k % 4 : Nat) : Int) = (j : Int)
      · rw [if_pos h2, if_pos (by omega), if_neg (by omega)]; rfl
      · rw [if_neg h2]
        by_cases h3 : j < k % 8 ∧ k % 8 ≤ j + 4
        · rw [if_pos h3, if_pos (by omega)]; rfl
        · rw [if_neg h3, if_neg (by omega)]; rfl
    · rw [if_neg h1]
      by_cases h2 : ((k % 4 : Nat) : Int) = (j : Int)
      · rw [if_pos h2, if_neg (by omega), if_pos (by omega)]; rfl
      · rw [if_neg h2]
        by_cases h3 : j < k % 8 ∧ k % 8 ≤ j + 4
        · rw [if_pos h3, if_pos (by omega)]; rfl
        · rw [if_neg h3, if_neg (by omega)]; rfl
theorem big_right : rightB bigL bigU = true := right_iff.2 fun j hj => by rw [bigL_at j hj, bigU_at j hj]; omega
theorem big_tlen : (bigC.take 4096).length = 4096 := by rw [List.length_take, bigC_len]; rfl
theorem big_chk : chkV (bigC.take 4096) = 0 := chk_of (by rw [big_tlen]; exact Nat.le_refl _) fun x hx => by
  have := List.mem_of_mem_take hx
  simp only [bigC, List.mem_map, List.mem_range] at this
  obtain ⟨j, -, rfl⟩ := this
  refine okC_of ⟨by simp only; omega, by simp only; omega⟩ ?_
  simp only [bigA]
  split <;> omega
theorem big_steps : StepAt bigL (useK bigU (bigC.take 4096)) (bigC.take 4096).length 4096 := by
  rw [big_tlen]
  refine ⟨Nat.le_refl _, fun k hk => fails_ok.2 fun j hj => ?_, fun h => by omega⟩
  rw [big_use (k + 1) hk j hj, bigL_at j hj]
  split <;> exact failAt_ok (by omega) (by omega)
theorem big_end (j : Nat) (hj : j < 4) : useK bigU (bigC.take 4096) 4096 j = bigU j := by
  rw [big_use 4096 (Nat.le_refl _) j hj, if_neg (by omega), bigU_at j hj]
theorem big_bk : bk bigL (useK bigU (bigC.take 4096) 4096) = bk bigL bigU := bk_congr (fun j hj => rfl) (fun j hj => big_end j hj)
theorem long_chk {cs : List (Int × Int)} (h : 4096 < cs.length) : chkV cs = 5 := by rw [chkV, if_pos h]
theorem long_both {L U : Nat → Int} {cs : List (Int × Int)} (hr : rightB L U = true) (h : 4096 < cs.length) : bothV L U cs = 5 := by rw [bothV, if_pos hr, long_chk h]
/-- 4096 charges can be done. -/
theorem big_ok (n c : Nat) (a : Option Addr) (w : World) (hs : SrcC w (.slice a n c) bigC) :
    Calls Try.prog 13 #[v8 1099511627776 1099511627776 1099511627776 1099511627776 0 0 0 0, .slice a 4096 c] w fun e w' => e = .returned (.tuple #[v8 1099511627776 1099511627776 1099511627776 1099511627776 0 0 0 0, .int .i64 (-1), .int .i64 0]) ∧ Below w.heap.size w w' := by
  refine (steps_yes bigL bigU _ (bigC.take 4096) 4096 big_steps w (hs.take 4096 (by rw [bigC_len]; omega)) (both_of big_right big_chk)).mono fun e w' ⟨he, hB⟩ => ⟨he.trans ?_, hB⟩
  rw [stepR, big_tlen, if_neg (by omega), big_bk]
  rfl
end Go.Proofs.Ytppfhcocmpmadaa
