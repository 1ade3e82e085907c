/- Walk of the law WordFoldsOn. -/
import Derived.Test.YtbmommomhepfpaaP4
import Derived.Test.YtbmommomhepfpaaL8
namespace Go.Proofs.Ytbmommomhepfpaa
open Go.RowKit
set_option linter.unusedVariables false

theorem append_new_s {w : World} {sv : Value} {ys : List (BitVec 64)} (hs : SrcE s w sv ys) (hl : ys.length ≤ 1000000) :
    ∃ v' w', (Builtin.append_ #[32, 32] 32 #[.slice (some ⟨w.heap.size, 0, none⟩) 0 0, sv]).run Try.prog (w.alloc (.cells #[] 2)) = .ok v' w' ∧ OwnE s w' w.heap.size 2 v' ys ∧ Below w.heap.size w w' := by
  have hB := (Below.refl w.heap.size w).alloc (Nat.le_refl _) (.cells #[] 2)
  obtain ⟨v', w', hr, ho, hg⟩ := append_s (OwnE.made s w w.heap.size 2 (Nat.le_refl _)) (by simp) (hs.below hB) (by simpa using hl)
  exact ⟨v', w', hr, by simpa using ho, (OwnE.made s w w.heap.size 2 (Nat.le_refl _)).grown hB (by simp) hg⟩

set_option maxRecDepth 100000 in
set_option maxHeartbeats 4000000 in
theorem foldsOn_empty (op : Int) (h0 : 0 ≤ op) (h255 : op ≤ 255) (at' : Int) (ad : Option Addr) (c : Nat) (w : World) (hs : SrcE s w (.slice ad 0 c) []) :
    Calls Try.prog 8 #[.int .u8 op, .slice ad 0 c, .int .u8 at'] w fun e w' => e = .returned (.bool true) ∧ Below w.heap.size w w' := by
  obtain ⟨v1, w1, hr, ho, hB⟩ := append_new_s hs (by simp)
  obtain ⟨a1, c1, rfl⟩ := ho.src.shape
  rw [List.length_nil] at hr
  clear hs ho
  go_enter Try.func8, Try.ntmps8
  go_wp2_with (at_builtin; refine wpList_append_run rfl _ _ _ rfl rfl rfl hr ?_; clear hr)
  refine (fold_any (1 + op % 17) (by omega) (by omega) _ [] _ (.inl ⟨rfl, rfl⟩) (by simp)).mono ?_
  rintro e w2 ⟨rfl, hB2⟩
  rw [foldV_nil _ (by omega) (by omega)]
  have hB3 := hB.trans (hB2.mono hB.size)
  clear hB hB2
  go_wp2_with fail
  refine (awake_any _).mono ?_
  rintro e w4 ⟨rfl, hB4⟩
  have hB := hB3.trans (hB4.mono hB3.size)
  go_wp2_with fail
  go_ret
  exact ⟨rfl, hB⟩
end Go.Proofs.Ytbmommomhepfpaa
