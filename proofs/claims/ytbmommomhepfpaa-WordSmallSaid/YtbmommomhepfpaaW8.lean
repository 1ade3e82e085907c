/- Operations by their numbers. -/
import Derived.Test.YtbmommomhepfpaaP1
import Derived.Test.YtbmommomhepfpaaW7
namespace Go.Proofs.Ytbmommomhepfpaa
open Go.RowKit

theorem appE_1 (b : BitVec 64) : appE 1 b = 0 := by rw [appE, if_neg (by decide), if_neg (fun e => absurd e.2 (by decide))]
theorem appV_1 (a b : BitVec 64) : appV 1 a b = a + b := by rw [appV, if_pos (appE_1 b)]; rfl
theorem do_1 (a b : BitVec 64) (w : World) :
    Calls Try.prog 16 #[.int .u8 1, s a, s b] w fun e w' => e = .returned (s (a + b)) ∧ Below w.heap.size w w' := by
  have := do_any 1 (by decide) (by decide) a b w
  rwa [appV_1 a b] at this
theorem appE_2 (b : BitVec 64) : appE 2 b = 0 := by rw [appE, if_neg (by decide), if_neg (fun e => absurd e.2 (by decide))]
theorem appV_2 (a b : BitVec 64) : appV 2 a b = a - b := by rw [appV, if_pos (appE_2 b)]; rfl
theorem do_2 (a b : BitVec 64) (w : World) :
    Calls Try.prog 16 #[.int .u8 2, s a, s b] w fun e w' => e = .returned (s (a - b)) ∧ Below w.heap.size w w' := by
  have := do_any 2 (by decide) (by decide) a b w
  rwa [appV_2 a b] at this
theorem appE_3 (b : BitVec 64) : appE 3 b = 0 := by rw [appE, if_neg (by decide), if_neg (fun e => absurd e.2 (by decide))]
theorem appV_3 (a b : BitVec 64) : appV 3 a b = a * b := by rw [appV, if_pos (appE_3 b)]; rfl
theorem do_3 (a b : BitVec 64) (w : World) :
    Calls Try.prog 16 #[.int .u8 3, s a, s b] w fun e w' => e = .returned (s (a * b)) ∧ Below w.heap.size w w' := by
  have := do_any 3 (by decide) (by decide) a b w
  rwa [appV_3 a b] at this
theorem appE_4 (b : BitVec 64) (h : ¬ b = 0#64) : appE 4 b = 0 := by rw [appE, if_neg (by decide), if_neg (fun e => h e.1)]
theorem appV_4 (a b : BitVec 64) (h : ¬ b = 0#64) : appV 4 a b = a.sdiv b := by rw [appV, if_pos (appE_4 b h)]; rfl
theorem do_4 (a b : BitVec 64) (h : ¬ b = 0#64) (w : World) :
    Calls Try.prog 16 #[.int .u8 4, s a, s b] w fun e w' => e = .returned (s (a.sdiv b)) ∧ Below w.heap.size w w' := by
  have := do_any 4 (by decide) (by decide) a b w
  rwa [appV_4 a b h] at this
theorem appE_5 (b : BitVec 64) (h : ¬ b = 0#64) : appE 5 b = 0 := by rw [appE, if_neg (by decide), if_neg (fun e => h e.1)]
theorem appV_5 (a b : BitVec 64) (h : ¬ b = 0#64) : appV 5 a b = a.srem b := by rw [appV, if_pos (appE_5 b h)]; rfl
theorem do_5 (a b : BitVec 64) (h : ¬ b = 0#64) (w : World) :
    Calls Try.prog 16 #[.int .u8 5, s a, s b] w fun e w' => e = .returned (s (a.srem b)) ∧ Below w.heap.size w w' := by
  have := do_any 5 (by decide) (by decide) a b w
  rwa [appV_5 a b h] at this
theorem appE_6 (b : BitVec 64) (h : ¬ b = 0#64) : appE 6 b = 0 := by rw [appE, if_neg (by decide), if_neg (fun e => h e.1)]
theorem appV_6 (a b : BitVec 64) (h : ¬ b = 0#64) : appV 6 a b = modV a b := by rw [appV, if_pos (appE_6 b h)]; rfl
theorem do_6 (a b : BitVec 64) (h : ¬ b = 0#64) (w : World) :
    Calls Try.prog 16 #[.int .u8 6, s a, s b] w fun e w' => e = .returned (s (modV a b)) ∧ Below w.heap.size w w' := by
  have := do_any 6 (by decide) (by decide) a b w
  rwa [appV_6 a b h] at this
theorem appE_7 (b : BitVec 64) : appE 7 b = 0 := by rw [appE, if_neg (by decide), if_neg (fun e => absurd e.2 (by decide))]
theorem appV_7 (a b : BitVec 64) : appV 7 a b = a &&& b := by rw [appV, if_pos (appE_7 b)]; rfl
theorem do_7 (a b : BitVec 64) (w : World) :
    Calls Try.prog 16 #[.int .u8 7, s a, s b] w fun e w' => e = .returned (s (a &&& b)) ∧ Below w.heap.size w w' := by
  have := do_any 7 (by decide) (by decide) a b w
  rwa [appV_7 a b] at this
theorem appE_8 (b : BitVec 64) : appE 8 b = 0 := by rw [appE, if_neg (by decide), if_neg (fun e => absurd e.2 (by decide))]
theorem appV_8 (a b : BitVec 64) : appV 8 a b = a ||| b := by rw [appV, if_pos (appE_8 b)]; rfl
theorem do_8 (a b : BitVec 64) (w : World) :
    Calls Try.prog 16 #[.int .u8 8, s a, s b] w fun e w' => e = .returned (s (a ||| b)) ∧ Below w.heap.size w w' := by
  have := do_any 8 (by decide) (by decide) a b w
  rwa [appV_8 a b] at this
theorem appE_9 (b : BitVec 64) : appE 9 b = 0 := by rw [appE, if_neg (by decide), if_neg (fun e => absurd e.2 (by decide))]
theorem appV_9 (a b : BitVec 64) : appV 9 a b = a ^^^ b := by rw [appV, if_pos (appE_9 b)]; rfl
theorem do_9 (a b : BitVec 64) (w : World) :
    Calls Try.prog 16 #[.int .u8 9, s a, s b] w fun e w' => e = .returned (s (a ^^^ b)) ∧ Below w.heap.size w w' := by
  have := do_any 9 (by decide) (by decide) a b w
  rwa [appV_9 a b] at this
theorem appE_10 (b : BitVec 64) : appE 10 b = 0 := by rw [appE, if_neg (by decide), if_neg (fun e => absurd e.2 (by decide))]
theorem appV_10 (a b : BitVec 64) : appV 10 a b = a <<< (b &&& 63#64).toNat := by rw [appV, if_pos (appE_10 b)]; rfl
theorem do_10 (a b : BitVec 64) (w : World) :
    Calls Try.prog 16 #[.int .u8 10, s a, s b] w fun e w' => e = .returned (s (a <<< (b &&& 63#64).toNat)) ∧ Below w.heap.size w w' := by
  have := do_any 10 (by decide) (by decide) a b w
  rwa [appV_10 a b] at this
theorem appE_11 (b : BitVec 64) : appE 11 b = 0 := by rw [appE, if_neg (by decide), if_neg (fun e => absurd e.2 (by decide))]
theorem appV_11 (a b : BitVec 64) : appV 11 a b = a >>> (b &&& 63#64).toNat := by rw [appV, if_pos (appE_11 b)]; rfl
theorem do_11 (a b : BitVec 64) (w : World) :
    Calls Try.prog 16 #[.int .u8 11, s a, s b] w fun e w' => e = .returned (s (a >>> (b &&& 63#64).toNat)) ∧ Below w.heap.size w w' := by
  have := do_any 11 (by decide) (by decide) a b w
  rwa [appV_11 a b] at this
theorem appE_12 (b : BitVec 64) : appE 12 b = 0 := by rw [appE, if_neg (by decide), if_neg (fun e => absurd e.2 (by decide))]
theorem appV_12 (a b : BitVec 64) : appV 12 a b = a.sshiftRight (b &&& 63#64).toNat := by rw [appV, if_pos (appE_12 b)]; rfl
theorem do_12 (a b : BitVec 64) (w : World) :
    Calls Try.prog 16 #[.int .u8 12, s a, s b] w fun e w' => e = .returned (s (a.sshiftRight (b &&& 63#64).toNat)) ∧ Below w.heap.size w w' := by
  have := do_any 12 (by decide) (by decide) a b w
  rwa [appV_12 a b] at this
theorem appE_13 (b : BitVec 64) : appE 13 b = 0 := by rw [appE, if_neg (by decide), if_neg (fun e => absurd e.2 (by decide))]
theorem appV_13 (a b : BitVec 64) : appV 13 a b = truthV (a.slt b) := by rw [appV, if_pos (appE_13 b)]; rfl
theorem do_13 (a b : BitVec 64) (w : World) :
    Calls Try.prog 16 #[.int .u8 13, s a, s b] w fun e w' => e = .returned (s (truthV (a.slt b))) ∧ Below w.heap.size w w' := by
  have := do_any 13 (by decide) (by decide) a b w
  rwa [appV_13 a b] at this
theorem appE_14 (b : BitVec 64) : appE 14 b = 0 := by rw [appE, if_neg (by decide), if_neg (fun e => absurd e.2 (by decide))]
theorem appV_14 (a b : BitVec 64) : appV 14 a b = truthV (a.ult b) := by rw [appV, if_pos (appE_14 b)]; rfl
theorem do_14 (a b : BitVec 64) (w : World) :
    Calls Try.prog 16 #[.int .u8 14, s a, s b] w fun e w' => e = .returned (s (truthV (a.ult b))) ∧ Below w.heap.size w w' := by
  have := do_any 14 (by decide) (by decide) a b w
  rwa [appV_14 a b] at this
theorem appE_15 (b : BitVec 64) : appE 15 b = 0 := by rw [appE, if_neg (by decide), if_neg (fun e => absurd e.2 (by decide))]
theorem appV_15 (a b : BitVec 64) : appV 15 a b = truthV (a == b) := by rw [appV, if_pos (appE_15 b)]; rfl
theorem do_15 (a b : BitVec 64) (w : World) :
    Calls Try.prog 16 #[.int .u8 15, s a, s b] w fun e w' => e = .returned (s (truthV (a == b))) ∧ Below w.heap.size w w' := by
  have := do_any 15 (by decide) (by decide) a b w
  rwa [appV_15 a b] at this
theorem appE_16 (b : BitVec 64) : appE 16 b = 0 := by rw [appE, if_neg (by decide), if_neg (fun e => absurd e.2 (by decide))]
theorem appV_16 (a b : BitVec 64) : appV 16 a b = sminV a b := by rw [appV, if_pos (appE_16 b)]; rfl
theorem do_16 (a b : BitVec 64) (w : World) :
    Calls Try.prog 16 #[.int .u8 16, s a, s b] w fun e w' => e = .returned (s (sminV a b)) ∧ Below w.heap.size w w' := by
  have := do_any 16 (by decide) (by decide) a b w
  rwa [appV_16 a b] at this
theorem appE_17 (b : BitVec 64) : appE 17 b = 0 := by rw [appE, if_neg (by decide), if_neg (fun e => absurd e.2 (by decide))]
theorem appV_17 (a b : BitVec 64) : appV 17 a b = smaxV a b := by rw [appV, if_pos (appE_17 b)]; rfl
theorem do_17 (a b : BitVec 64) (w : World) :
    Calls Try.prog 16 #[.int .u8 17, s a, s b] w fun e w' => e = .returned (s (smaxV a b)) ∧ Below w.heap.size w w' := by
  have := do_any 17 (by decide) (by decide) a b w
  rwa [appV_17 a b] at this
end Go.Proofs.Ytbmommomhepfpaa
