/- Plain laws for QuotaWrong: books and charges that are not right. -/
import Derived.Test.YtppfhcocmpmadaaC0
import Derived.Test.YtppfhcocmpmadaaPN
namespace Go.Proofs.Ytppfhcocmpmadaa
open Go.RowKit
set_option linter.unusedVariables false

theorem wrong_of {L U : Nat → Int} (j : Nat) (hj : j < 4) (h : ¬ (0 ≤ L j ∧ L j ≤ 1099511627776 ∧ 0 ≤ U j ∧ U j ≤ L j)) : rightB L U = false := by
  cases e : rightB L U
  · rfl
  · exact absurd (right_iff.1 e j hj) h
theorem chk_bad {cs : List (Int × Int)} {x : Int × Int} (hc : MC cs) (hx : okC x = false) : chkV (cs ++ [x]) = 251 := by
  have := hc.len
  rw [chkV, if_neg (by simp; omega), if_neg (by simp [hx])]
theorem both_wrong {L U : Nat → Int} {cs : List (Int × Int)} (h : rightB L U = false) : bothV L U cs = 250 := by rw [bothV, if_neg (by rw [h]; decide)]
/-- One of four charges that are not right, in a table of theirs. -/
theorem wrong_pick {n x1 x2 x3 x4 : Int} (h1 : (if -1 < n then -1 else n) = x1) (h2 : (if n < 4 then 4 else n) = x2) (h3 : (if -1099511627777 < n then -1099511627777 else n) = x3) (h4 : (if n < 1099511627777 then 1099511627777 else n) = x4)
    (r : Nat) (hr : r < 4) : ∃ y1 y2 : Int, ((#[.int .i64 x1, .int .i64 0, .int .i64 x2, .int .i64 0, .int .i64 0, .int .i64 x3, .int .i64 0, .int .i64 x4] : Array Value)[r * 2]? = some (.int .i64 y1) ∧
      (#[.int .i64 x1, .int .i64 0, .int .i64 x2, .int .i64 0, .int .i64 0, .int .i64 x3, .int .i64 0, .int .i64 x4] : Array Value)[r * 2 + 1]? = some (.int .i64 y2)) ∧ okC (y1, y2) = false := by
  have hx1 : x1 < 0 := by rw [← h1]; split <;> omega
  have hx2 : 4 ≤ x2 := by rw [← h2]; split <;> omega
  have hx3 : x3 < -1099511627776 := by rw [← h3]; split <;> omega
  have hx4 : 1099511627776 < x4 := by rw [← h4]; split <;> omega
  have hno : ∀ p q : Int, (p < 0 ∨ 4 ≤ p ∨ q < -1099511627776 ∨ 1099511627776 < q) → okC (p, q) = false := fun p q h => by
    cases e : okC (p, q)
    · rfl
    · have := (okC_iff _).1 e
      simp only at this
      omega
  have : r = 0 ∨ r = 1 ∨ r = 2 ∨ r = 3 := by omega
  rcases this with rfl | rfl | rfl | rfl
  · exact ⟨x1, 0, ⟨rfl, rfl⟩, hno _ _ (by omega)⟩
  · exact ⟨x2, 0, ⟨rfl, rfl⟩, hno _ _ (by omega)⟩
  · exact ⟨0, x3, ⟨rfl, rfl⟩, hno _ _ (by omega)⟩
  · exact ⟨0, x4, ⟨rfl, rfl⟩, hno _ _ (by omega)⟩
end Go.Proofs.Ytppfhcocmpmadaa
