/- What came in, as the walks read it. -/
import Derived.Test.YtlblpmadehikgaaC2
namespace Go.Proofs.Ytlblpmadehikgaa
open Go.RowKit
set_option linter.unusedVariables false

/-- A row of integers that came in, as a slice that reads. -/
theorem row_of {k : IntKind} {w : World} {a : Option Addr} {len cap : Nat} {zs : List Int}
    (h : (a = none ∧ len = 0 ∧ cap = 0 ∧ zs = []) ∨ ∃ x, a = some x ∧ len ≤ cap ∧ cap ≤ maxLen ∧ zs.length = cap ∧ (∀ i, i < zs.length → w.cell? (x.add i) = some (.int k (zs.getD i 0))) ∧ ∀ n ∈ zs, (Lit.int k n).wf = true) :
    ∃ xs : List Int, SrcE (fun n : Int => Value.int k n) w (.slice a len cap) xs ∧ xs.length = len ∧ ∀ n ∈ xs, (Lit.int k n).wf = true := by
  rcases h with ⟨rfl, rfl, rfl, rfl⟩ | ⟨x, rfl, hl, hm, hz, hc, hw⟩
  · exact ⟨[], .inl ⟨rfl, rfl⟩, rfl, by simp⟩
  · have hlen : (zs.take len).length = len := by simp; omega
    refine ⟨zs.take len, .inr ⟨x, cap, by rw [hlen], by omega, hm, fun j hj => ?_⟩, hlen, fun n hn => hw n (List.mem_of_mem_take hn)⟩
    rw [hc j (by omega), List.getElem_take, List.getD_eq_getElem?_getD, List.getElem?_eq_getElem (by omega), Option.getD_some]
end Go.Proofs.Ytlblpmadehikgaa
