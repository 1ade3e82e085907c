/- The law CellsActs: its walk. -/
import Derived.Test.YtnhkadknibinfaaT3
namespace Go.Proofs.Ytnhkadknibinfaa
open Go.RowKit
set_option linter.unusedVariables false

theorem acts_law {w : World} {pv lv : Value} {p : List Int} {ls : List Ac} (hp : SrcI w pv p) (hpm : p.length * 8 ≤ 140737488355328) (hl : SrcN actL w lv ls) (hk : ∀ a ∈ ls, 0 ≤ a.1 ∧ a.1 < 256) :
    Calls Try.prog 7 #[pv, lv] w fun e w' => e = .returned (.bool true) ∧ Below w.heap.size w w' := by
  have H := Hd.mk (acts_any hp hpm hl hk)
  clear hp hpm hl hk
  go_enter Try.func7, Try.ntmps7
  go_wp2_with fail
  refine H.out.mono ?_
  rintro e w1 ⟨rfl, hB1⟩
  have HB := Hd.mk hB1
  clear hB1 H
  go_wp2_with fail
  refine (awake_any _).mono ?_
  rintro e w2 ⟨rfl, hB2⟩
  have HB2 := Hd.mk hB2
  clear hB2
  go_wp2_with fail
  go_ret
  exact ⟨rfl, HB.out.trans (HB2.out.mono HB.out.size)⟩
/-- What the skeleton tells of the two lists. -/
theorem plan_row {w : World} {a : Option Addr} {len cap : Nat} {zs : List Int} (h : (a = none ∧ len = 0 ∧ cap = 0 ∧ zs = []) ∨
    ∃ x, a = some x ∧ len ≤ cap ∧ cap ≤ maxLen ∧ zs.length = cap ∧ (∀ i, i < zs.length → w.cell? (x.add i) = some (.int .i64 (zs.getD i 0))) ∧ ∀ n ∈ zs, (Lit.int .i64 n).wf = true) : ∃ p : List Int, p.length = len ∧ SrcI w (.slice a len cap) p := by
  obtain ⟨xs, h1, h2⟩ := row_read (fun n : Int => Value.int .i64 n) id .i64 (fun n _ => rfl) h
  exact ⟨xs, h2, h1⟩
theorem act_row {w : World} {a : Option Addr} {len cap : Nat} (h : IsRowS [.u8, .i64, .i64, .i64] w a len cap) : ∃ ls : List Ac, SrcN actL w (.slice a len cap) ls ∧ ∀ x ∈ ls, 0 ≤ x.1 ∧ x.1 < 256 := by
  obtain ⟨xs, _, h2, h3⟩ := row_src actL [.u8, .i64, .i64, .i64] (fun zs => (zs.getD 0 0, zs.getD 1 0, zs.getD 2 0, zs.getD 3 0)) rfl ⟨_, rfl⟩ (by
    intro zs hz
    match zs, hz with
    | [a, b, c, d], _ => rfl) h
  refine ⟨xs, h2, fun x hx => ?_⟩
  obtain ⟨zs, rfl, hz, hw⟩ := h3 x hx
  match zs, hz with
  | [a, b, c, d], _ =>
    have := bounds_u8 (hw 0 .u8 a rfl rfl)
    simp only [List.getD_cons_zero]
    omega
end Go.Proofs.Ytnhkadknibinfaa
