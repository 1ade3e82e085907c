/- Own slices of int64 words. -/
import Derived.Test.YtbmommomhepfpaaRows
import Derived.Test.YtbmommomhepfpaaS
import Derived.Test.YtbmommomhepfpaaOwn
namespace Go.Proofs.Ytbmommomhepfpaa
open Go.RowKit

theorem info2 : ∃ i, Try.prog.info? 2 = some i ∧ i.zero = some (.int .i64 0) ∧ i.size = 1 ∧ i.bytes = 8 :=
  ⟨_, rfl, by kernel_rfl, by kernel_rfl, by kernel_rfl⟩
theorem s_one (x : BitVec 64) : (s x).oneCell' = true := rfl

theorem append_s {w : World} {base : Nat} {v sv : Value} {xs ys : List (BitVec 64)} (h : OwnE s w base 2 v xs) (hbase : base ≤ w.heap.size) (hs : SrcE s w sv ys) (hl : xs.length + ys.length ≤ 1000000) :
    ∃ v' w', (Builtin.append_ #[32, 32] 32 #[v, sv]).run Try.prog w = .ok v' w' ∧ OwnE s w' base 2 v' (xs ++ ys) ∧ w.grownBy w' v.ownBlock := by
  obtain ⟨i0, hi, hz0, hz1, hz2⟩ := info2
  exact h.append 32 32 i0 (.int .i64 0) 8 Try.underlying32 hi hz0 hz1 hz2 rfl s_one hbase sv ys hs (by simp only [maxLen]; omega) (by omega)

/-- A literal slice of two words, just made. -/
theorem src2 (w : World) (a b : BitVec 64) : SrcE s (w.alloc (.cells #[s a, s b] 2)) (.slice (some ⟨w.heap.size, 0, none⟩) 2 2) [a, b] :=
  .inr ⟨⟨w.heap.size, 0, none⟩, 2, rfl, by simp, by simp [maxLen], fun j hj => by
    rw [plain_add, Nat.zero_add, cells_cell (World.alloc_heap_new w _) j]
    have hj' : j = 0 ∨ j = 1 := by simp at hj; omega
    rcases hj' with rfl | rfl <;> rfl⟩

theorem SrcE.pre {α : Type} {enc : α → Value} {w : World} {a : Option Addr} {n c m : Nat} {ys : List α} (h : SrcE enc w (.slice a n c) ys) (hm : m ≤ ys.length) (hp : 0 < m ∨ a = none ∨ True) :
    SrcE enc w (.slice a m c) (ys.take m) := by
  rcases h with ⟨hv, rfl⟩ | ⟨ad, c', hv, hc, hmx, hcell⟩
  · obtain ⟨rfl, rfl, rfl⟩ := by simpa using hv
    obtain rfl : m = 0 := by simpa using hm
    exact .inl ⟨rfl, rfl⟩
  · obtain ⟨rfl, rfl, rfl⟩ := by simpa using hv
    refine .inr ⟨ad, c, by rw [List.length_take, Nat.min_eq_left hm], by rw [List.length_take]; omega, hmx, fun j hj => ?_⟩
    rw [List.length_take] at hj
    rw [hcell j (by omega)]
    simp
end Go.Proofs.Ytbmommomhepfpaa
