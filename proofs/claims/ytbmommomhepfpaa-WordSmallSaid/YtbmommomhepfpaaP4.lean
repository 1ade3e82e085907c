/- Plain facts on Fold. -/
import Derived.Test.YtbmommomhepfpaaW8
namespace Go.Proofs.Ytbmommomhepfpaa

theorem foldW_bad (op : Int) (l : List (BitVec 64)) : ∀ x, (foldW op l x).2 ≠ 0 → (foldW op l x).1 = 0#64 := by
  induction l with
  | nil => intro x h; exact absurd rfl h
  | cons y l ih =>
    intro x h
    rw [foldW] at h ⊢
    split at h
    · rw [if_pos ‹_›]; exact ih _ h
    · rw [if_neg ‹_›]
theorem foldW_append (op : Int) (l m : List (BitVec 64)) : ∀ x, foldW op (l ++ m) x = if (foldW op l x).2 = 0 then foldW op m (foldW op l x).1 else (0#64, (foldW op l x).2) := by
  induction l with
  | nil => intro x; rfl
  | cons y l ih =>
    intro x
    rw [List.cons_append, foldW, foldW]
    split
    · exact ih _
    · rename_i h
      first | rfl | exact (if_neg h).symm
theorem foldV_two (op : Int) (h1 : 1 ≤ op) (h2 : op ≤ 17) (l m : List (BitVec 64)) (hl : l ≠ []) :
    foldV op (l ++ m) = if (foldV op l).2 = 0 then foldV op ((foldV op l).1 :: m) else (0#64, (foldV op l).2) := by
  cases l with
  | nil => exact absurd rfl hl
  | cons x l =>
    have e : ∀ y t, foldV op (y :: t) = foldW op t y := fun y t => if_neg (by omega)
    rw [List.cons_append, e, e, e, foldW_append]
theorem foldV_one (op : Int) (h1 : 1 ≤ op) (h2 : op ≤ 17) (x : BitVec 64) : foldV op [x] = (x, 0) := if_neg (by omega)
theorem foldV_nil (op : Int) (h1 : 1 ≤ op) (h2 : op ≤ 17) : foldV op [] = (0#64, 2) := if_neg (by omega)
theorem foldV_bad1 (op : Int) (l : List (BitVec 64)) (h : (foldV op l).2 ≠ 0) : (foldV op l).1 = 0#64 := by
  rw [foldV.eq_def] at h ⊢
  split
  · rfl
  · rw [if_neg ‹_›] at h
    cases l with
    | nil => rfl
    | cons x t => exact foldW_bad op t x h
theorem sum_from (l : List (BitVec 64)) : ∀ z : BitVec 64, l.foldl (· + ·) z = z + l.foldl (· + ·) 0#64 := by
  induction l with
  | nil => intro z; simp
  | cons a l ih => intro z; rw [List.foldl_cons, List.foldl_cons, ih, ih (0#64 + a), BitVec.zero_add, BitVec.add_assoc]
theorem fold_add (l : List (BitVec 64)) : ∀ x, foldW 1 l x = (x + l.foldl (· + ·) 0#64, 0) := by
  induction l with
  | nil => intro x; simp [foldW]
  | cons y l ih =>
    intro x
    rw [foldW, if_pos (appE_1 y), appV_1, ih, List.foldl_cons, sum_from l (0#64 + y), BitVec.zero_add, BitVec.add_assoc]
theorem sub_sub' (x y z : BitVec 64) : x - y - z = x - (y + z) := by grind
theorem fold_sub (l : List (BitVec 64)) : ∀ x, foldW 2 l x = (x - (foldW 1 l 0#64).1, 0) := by
  induction l with
  | nil => intro x; simp [foldW]
  | cons y l ih =>
    intro x
    rw [foldW, if_pos (appE_2 y), appV_2, ih, fold_add, fold_add, List.foldl_cons, sum_from l (0#64 + y)]
    simp only [BitVec.zero_add, sub_sub']
end Go.Proofs.Ytbmommomhepfpaa
