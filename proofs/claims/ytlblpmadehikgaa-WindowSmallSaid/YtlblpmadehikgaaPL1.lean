/- Plain law: the windows of times in order. -/
import Derived.Test.YtlblpmadehikgaaB2
namespace Go.Proofs.Ytlblpmadehikgaa
set_option linter.unusedVariables false

/-- Is a time still in the last window? -/
def stillIn (o : Option (Int × Int)) (t : Int) : Bool := match o with
  | none => false
  | some w => decide (t < w.2)
/-- The windows of times in order, behind a last one. -/
def winsL (ah h : Int) : Option (Int × Int) → List Int → List (Int × Int)
  | _, [] => []
  | o, t :: ts => if h ≤ t then [] else if stillIn o t = true then winsL ah h o ts else (t, min (t + ah) h) :: winsL ah h (some (t, min (t + ah) h)) ts
theorem winsL_stop {ah h t : Int} {o : Option (Int × Int)} {ts : List Int} (h1 : h ≤ t) : winsL ah h o (t :: ts) = [] := by rw [winsL, if_pos h1]
theorem winsL_skip {ah h t : Int} {o : Option (Int × Int)} {ts : List Int} (h1 : t < h) (h2 : stillIn o t = true) : winsL ah h o (t :: ts) = winsL ah h o ts := by rw [winsL, if_neg (by omega), if_pos h2]
theorem winsL_new {ah h t : Int} {o : Option (Int × Int)} {ts : List Int} (h1 : t < h) (h2 : stillIn o t = false) :
    winsL ah h o (t :: ts) = (t, min (t + ah) h) :: winsL ah h (some (t, min (t + ah) h)) ts := by rw [winsL, if_neg (by omega), h2]; rfl
/-- Each window is right, begins with a time, and is as long as ahead, or cut at the horizon. -/
theorem winsL_mem {ah h : Int} (ha : 1 ≤ ah) : ∀ (ts : List Int) (o : Option (Int × Int)) (w : Int × Int), w ∈ winsL ah h o ts → w.1 ∈ ts ∧ w.1 < h ∧ w.2 = min (w.1 + ah) h ∧ w.1 < w.2
  | [], _, w, hw => by simp [winsL] at hw
  | t :: ts, o, w, hw => by
    rw [winsL] at hw
    split at hw
    · simp at hw
    · rename_i h1
      split at hw
      · obtain ⟨a, b, c, d⟩ := winsL_mem ha ts o w hw
        exact ⟨List.mem_cons_of_mem _ a, b, c, d⟩
      · rcases List.mem_cons.1 hw with rfl | hw
        · exact ⟨List.mem_cons_self, by show t < h; omega, rfl, by show t < min (t + ah) h; omega⟩
        · obtain ⟨a, b, c, d⟩ := winsL_mem ha ts _ w hw
          exact ⟨List.mem_cons_of_mem _ a, b, c, d⟩
end Go.Proofs.Ytlblpmadehikgaa
