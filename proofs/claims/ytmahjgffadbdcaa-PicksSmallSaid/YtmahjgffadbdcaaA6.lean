/- Walks of slices.Clone, For and Rank. -/
import Derived.Test.YtmahjgffadbdcaaA5
namespace Go.Proofs.Ytmahjgffadbdcaa
open Go.RowKit
set_option linter.unusedVariables false

/-- A slice of ints of the call's own, that append goes on with. -/
def AppI (w : World) (base : Nat) (v : Value) (l : List Int) : Prop := OwnE (fun n : Int => Value.int .i64 n) w base 3 v l
theorem info3 : ∃ i z, Try.prog.info? 3 = some i ∧ i.zero = some z ∧ z.cells.size = 1 ∧ i.size = 1 ∧ i.bytes = 8 :=
  ⟨_, _, rfl, rfl, by kernel_rfl, by kernel_rfl, by kernel_rfl⟩
theorem append_i {w : World} {base : Nat} {v sv : Value} {xs ys : List Int} (h : AppI w base v xs) (hbase : base ≤ w.heap.size) (hs : SrcI w sv ys) (hl : xs.length + ys.length ≤ 1000000) :
    ∃ v' w', (Builtin.append_ #[24, 24] 24 #[v, sv]).run Try.prog w = .ok v' w' ∧ AppI w' base v' (xs ++ ys) ∧ w.grownBy w' v.ownBlock := by
  obtain ⟨i, z, hi, hz, hzs, hsz, hby⟩ := info3
  exact OwnE.append (P := Try.prog) 24 24 i z 8 Try.underlying24 hi hz hsz hby hzs (fun x => rfl) h hbase sv ys hs (by simp only [maxLen]; omega) (by omega)
theorem push_i {W0 w : World} {base : Nat} {v : Value} {xs : List Int} (x : Int) (h : AppI w base v xs) (hB : Below base W0 w) (hb : base ≤ w.heap.size) (hl : xs.length ≤ 100000) :
    ∃ v' w', (Builtin.append_ #[24, 24] 24 #[v, .slice (some ⟨w.heap.size, 0, none⟩) 1 1]).run Try.prog (w.alloc (.cells #[.int .i64 x] 3)) = .ok v' w' ∧ AppI w' base v' (xs ++ [x]) ∧ Below base W0 w' ∧ (w.alloc (.cells #[.int .i64 x] 3)).grownBy w' v.ownBlock := by
  have hs : SrcI (w.alloc (.cells #[.int .i64 x] 3)) (.slice (some ⟨w.heap.size, 0, none⟩) 1 1) [x] :=
    .inr ⟨⟨w.heap.size, 0, none⟩, 1, rfl, by simp, by simp [maxLen], fun j hj => by
      obtain rfl : j = 0 := by simpa using hj
      rw [plain_add]; exact cells_cell (World.alloc_heap_new w _) 0⟩
  have ho : AppI (w.alloc (.cells #[.int .i64 x] 3)) base v xs := OwnE.alloc h (.cells #[.int .i64 x] 3)
  have hB1 := hB.alloc hb (.cells #[.int .i64 x] 3)
  obtain ⟨v', w', hr, ho', hg⟩ := append_i ho (by simp; omega) hs (by simp; omega)
  exact ⟨v', w', hr, ho', OwnE.grown ho hB1 (by simp; omega) hg, hg⟩

set_option maxRecDepth 100000 in
set_option maxHeartbeats 400000 in
theorem clone_any (v : Value) (l : List Int) (w : World) (h : SrcI w v l) (hl : l.length ≤ 1000000) : Calls Try.prog 21 #[v] w fun e w' => ∃ v', e = .returned v' ∧ OwnI w' w.heap.size v' l ∧ Below w.heap.size w w' := by
  have hsm := h.small
  obtain ⟨a, c, rfl⟩ := h.shape
  cases a with
  | none =>
    have hcs : l = [] ∧ c = 0 := by
      rcases h with ⟨hv, rfl⟩ | ⟨b, off, hv, _⟩
      · simp at hv; exact ⟨rfl, hv⟩
      · simp at hv
    obtain ⟨rfl, rfl⟩ := hcs
    clear h
    have heq : ∀ W : World, (binOp .eql 24 (.slice none 0 0) (.slice none 0 0)).run Try.prog W = .ok (.bool true) W := fun W => run_eql_nil_slice W 24 3 none 0 0 0 0 Try.underlying24
    go_enter Try.func21, Try.ntmps21
    go_wp2_with fail
    go_ret
    exact ⟨_, rfl, OwnI.nil _ _, Below.refl _ _⟩
  | some ad =>
    have hB := (Below.refl w.heap.size w).alloc (Nat.le_refl _) (.cells #[] 3)
    obtain ⟨v', w', hr, ho, hg⟩ := append_i (OwnE.made _ w w.heap.size 3 (Nat.le_refl _)) (by simp) (h.below hB) (by simpa using hl)
    have HO : Hd (OwnI w' w.heap.size v' l) := ⟨OwnI.of (e := 3) (by simpa [AppI] using ho)⟩
    have HB := Hd.mk (OwnE.grown (OwnE.made (fun n : Int => Value.int .i64 n) w w.heap.size 3 (Nat.le_refl _)) hB (by simp) hg)
    clear h ho hg hB
    have heq : ∀ W : World, (binOp .eql 24 (.slice (some ad) l.length c) (.slice none 0 0)).run Try.prog W = .ok (.bool false) W := fun W => Lib.run_eql_slice_nil W 24 3 (some ad) _ _ 0 0 Try.underlying24
    go_enter Try.func21, Try.ntmps21
    go_wp2_with (at_builtin; refine wpList_append_run rfl _ _ _ rfl rfl rfl hr ?_; clear hr)
    go_ret
    exact ⟨_, rfl, HO.out, HB.out⟩
end Go.Proofs.Ytmahjgffadbdcaa
