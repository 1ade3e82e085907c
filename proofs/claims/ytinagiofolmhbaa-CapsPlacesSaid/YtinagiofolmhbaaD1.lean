/- Clone of a script (for CapsPlaces). -/
import Derived.Test.YtinagiofolmhbaaC1
namespace Go.Proofs.Ytinagiofolmhbaa
open Go.RowKit
set_option linter.unusedVariables false
set_option linter.unusedSimpArgs false


set_option maxRecDepth 100000 in
theorem info58 : ∃ i z, Try.prog.info? 58 = some i ∧ i.zero = some z ∧ z.cells.size = 4 ∧ i.size = 4 ∧ i.bytes = 4 :=
  ⟨_, _, rfl, rfl, by kernel_rfl, by kernel_rfl, by kernel_rfl⟩
theorem clone_sm (v : Value) (l : List Sm) (w : World) (h : SrcN sL w v l) (hl : l.length ≤ 1000000) : Calls Try.prog 32 #[v] w fun e w' => ∃ v', e = .returned v' ∧ OwnN sL w' w.heap.size 58 v' l ∧ Below w.heap.size w w' := by
  have hsm := h.small
  obtain ⟨a, c, rfl⟩ := h.shape
  cases a with
  | none =>
    have hcs : l = [] ∧ c = 0 := by
      rcases h with ⟨rfl, a2, c2, hv, ha⟩ | ⟨b, off, c2, hv, _⟩
      · simp only [Value.slice.injEq] at hv
        obtain ⟨rfl, _, rfl⟩ := hv
        exact ⟨rfl, ha rfl⟩
      · simp at hv
    obtain ⟨rfl, rfl⟩ := hcs
    clear h
    have heq : ∀ W : World, (binOp .eql 22 (.slice none 0 0) (.slice none 0 0)).run Try.prog W = .ok (.bool true) W := fun W => run_eql_nil_slice W 22 58 none 0 0 0 0 Try.underlying22
    go_enter Try.func32, Try.ntmps32
    go_wp2_with fail
    go_ret
    exact ⟨_, rfl, OwnN.nil _ _ _ _, Below.refl _ _⟩
  | some ad =>
    have hB := (Below.refl w.heap.size w).alloc (Nat.le_refl _) (.cells #[] 58)
    obtain ⟨i, z, hi, hz, hzs, hsz, hby⟩ := info58
    obtain ⟨v', w', hr, ho, hg⟩ := OwnN.append (P := Try.prog) 22 i z 4 Try.underlying22 hi hz hsz hby hzs (by decide) (OwnN.made sL w w.heap.size 58 (Nat.le_refl _)) (by simp) (h.below hB) (by simp only [maxLen, List.length_nil]; omega) (by simp only [List.length_nil]; omega)
    have HO : Hd (OwnN sL w' w.heap.size 58 v' l) := ⟨by simpa using ho⟩
    have HB := Hd.mk (OwnN.grown (OwnN.made sL w w.heap.size 58 (Nat.le_refl _)) hB (by simp) hg)
    clear h ho hg hB
    have heq : ∀ W : World, (binOp .eql 22 (.slice (some ad) l.length c) (.slice none 0 0)).run Try.prog W = .ok (.bool false) W := fun W => Lib.run_eql_slice_nil W 22 58 (some ad) _ _ 0 0 Try.underlying22
    go_enter Try.func32, Try.ntmps32
    go_wp2_with (at_builtin; refine wpList_append_run rfl _ _ _ rfl rfl rfl hr ?_; clear hr)
    go_ret
    exact ⟨_, rfl, HO.out, HB.out⟩

end Go.Proofs.Ytinagiofolmhbaa
