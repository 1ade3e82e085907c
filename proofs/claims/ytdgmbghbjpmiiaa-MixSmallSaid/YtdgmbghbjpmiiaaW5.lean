/- Walks of mix.Last and of the examples of the chapter. -/
import Derived.Test.YtdgmbghbjpmiiaaW4
namespace Go.Proofs.Ytdgmbghbjpmiiaa
open Go.RowKit

def lastV (x : BitVec 64) (xs : List (BitVec 64)) : BitVec 64 := unmixV x - 11400714819323198485#64 - joinV xs * 11400714819323198485#64

set_option maxHeartbeats 400000 in
theorem last_nil (x : BitVec 64) (a : Option Addr) (c : Nat) (w : World) :
    Calls Try.prog 15 #[u x, .slice a 0 c] w fun e w' => e = .returned (u (lastV x [])) ∧ Below w.heap.size w w' := by
  go_enter Try.func15, Try.ntmps15
  go_wp2_with fail
  refine (unmix_any _ _).mono ?_
  rintro e w1 ⟨rfl, hb⟩
  go_wp2_with fail
  refine (join_nil _ _ _).mono ?_
  rintro e w2 ⟨rfl, rfl⟩
  go_wp2_with fail
  go_ret
  exact ⟨ret_u (by simp [lastV, joinV]), hb⟩

set_option maxHeartbeats 400000 in
theorem last_some (x : BitVec 64) (b off cap : Nat) (xs : List (BitVec 64)) (w : World) (hl : xs.length ≤ 4611686018427387904) (hbs : b < w.heap.size)
    (hc : ∀ j (h : j < xs.length), w.cell? ⟨b, off + j, none⟩ = some (u xs[j])) :
    Calls Try.prog 15 #[u x, .slice (some ⟨b, off, none⟩) xs.length cap] w fun e w' => e = .returned (u (lastV x xs)) ∧ Below w.heap.size w w' := by
  go_enter Try.func15, Try.ntmps15
  go_wp2_with fail
  refine (unmix_any _ _).mono ?_
  rintro e w1 ⟨rfl, hb⟩
  go_wp2_with fail
  refine (join_some b off cap xs w1 hl (fun j h => (hb.cell (p := ⟨b, off + j, none⟩) hbs).trans (hc j h))).mono ?_
  rintro e w2 ⟨rfl, rfl⟩
  go_wp2_with fail
  go_ret
  exact ⟨rfl, hb⟩

theorem ex1 : mixV 0#64 = 0#64 := by decide +kernel
theorem ex2 : mixV 11400714819323198485#64 = 16294208416658607535#64 := by decide +kernel
theorem ex3 : joinV [0#64] = 16294208416658607535#64 := by decide +kernel
theorem ex4 : lastV (joinV [3#64, 4#64]) [3#64] = 4#64 := by decide +kernel
theorem ex5 : textV 255#64 = { data := #[48, 48, 48, 48, 48, 48, 48, 48, 48, 48, 48, 55, 118] } := by decide +kernel
theorem ex6 : readE { data := #[103, 48, 48, 48, 48, 48, 48, 48, 48, 48, 48, 48, 48] } = 50 := by decide +kernel

set_option maxHeartbeats 1000000 in
theorem awake_any (w : World) : Calls Try.prog 13 #[] w fun e w' => e = .returned (.bool true) ∧ Below w.heap.size w w' := by
  go_enter Try.func13, Try.ntmps13
  go_wp2_with fail
  refine (Fold_yes 5#64 1 (by decide) (by decide) _).mono ?_
  rintro e w1 ⟨rfl, rfl⟩
  rw [show foldV 5#64 (Int.toNat 1) = 7#64 from by decide]
  go_wp2_with fail
  refine (Unfold_yes 7#64 1 (by decide) (by decide) _).mono ?_
  rintro e w1 ⟨rfl, rfl⟩
  rw [show unfoldV 7#64 (Int.toNat 1) = 5#64 from by decide]
  go_wp2_with fail
  refine (read_any _ (by decide) _).mono ?_
  rintro e w1 ⟨rfl, rfl⟩
  rw [ex6]
  go_wp2_with fail
  refine (mix_any 0#64 _).mono ?_
  rintro e w1 ⟨rfl, rfl⟩
  rw [ex1]
  go_wp2_with fail
  refine (mix_any 11400714819323198485#64 _).mono ?_
  rintro e w1 ⟨rfl, rfl⟩
  rw [ex2]
  go_wp2_with fail
  refine (join_nil _ _ _).mono ?_
  rintro e w1 ⟨rfl, rfl⟩
  go_wp2_with fail
  refine (join_some w.heap.size 0 1 [0#64] _ (by decide) ?_).mono ?_
  · intro j hj
    obtain rfl : j = 0 := by simp at hj; exact hj
    exact cells_cell (World.alloc_heap_new w _) 0
  rintro e w1 ⟨rfl, rfl⟩
  rw [ex3]
  go_wp2_with fail
  refine (join_some (w.heap.size + 1) 0 2 [3#64, 4#64] _ (by decide) ?_).mono ?_
  · intro j hj
    have hj : j < 2 := hj
    have : j = 0 ∨ j = 1 := by omega
    rcases this with rfl | rfl
    · refine cells_cell (c := #[.int .u64 3, .int .u64 4]) (e := 22) (f := (0, 0)) ?_ 0
      have := World.alloc_heap_new (w.alloc (.cells #[.int .u64 0] 22)) (.cells #[.int .u64 3, .int .u64 4] 22)
      rwa [World.size_alloc] at this
    · refine cells_cell (c := #[.int .u64 3, .int .u64 4]) (e := 22) (f := (0, 0)) ?_ 1
      have := World.alloc_heap_new (w.alloc (.cells #[.int .u64 0] 22)) (.cells #[.int .u64 3, .int .u64 4] 22)
      rwa [World.size_alloc] at this
  rintro e w1 ⟨rfl, rfl⟩
  go_wp2_with fail
  have hB0 : Below w.heap.size w (((w.alloc (.cells #[.int .u64 0] 22)).alloc (.cells #[.int .u64 3, .int .u64 4] 22)).alloc (.cells #[.int .u64 3] 22)) :=
    (((Below.refl _ _).alloc (Nat.le_refl _) _).alloc (by simp) _).alloc (by simp; omega) _
  refine (last_some (joinV [3#64, 4#64]) (w.heap.size + 1 + 1) 0 1 [3#64] _ (by decide) (by simp) ?_).mono ?_
  · intro j hj
    obtain rfl : j = 0 := by simp at hj; exact hj
    refine cells_cell (c := #[.int .u64 3]) (e := 22) (f := (0, 0)) ?_ 0
    have := World.alloc_heap_new ((w.alloc (.cells #[.int .u64 0] 22)).alloc (.cells #[.int .u64 3, .int .u64 4] 22)) (.cells #[.int .u64 3] 22)
    rwa [World.size_alloc, World.size_alloc] at this
  rintro e w1 ⟨rfl, hb1⟩
  rw [ex4]
  have hB1 := hB0.trans (hb1.mono (by simp; omega))
  clear hb1 hB0
  go_wp2_with fail
  refine (text_any 255#64 _).mono ?_
  rintro e w2 ⟨rfl, hb2⟩
  rw [ex5]
  have hB2 := hB1.trans (hb2.mono hB1.size)
  clear hb2 hB1
  go_wp2_with fail
  go_ret
  exact ⟨rfl, hB2⟩
end Go.Proofs.Ytdgmbghbjpmiiaa
