/- Walk of the examples of the chapter. -/
import Derived.Test.YtbmommomhepfpaaW6
namespace Go.Proofs.Ytbmommomhepfpaa
open Go.RowKit

theorem apply_lit (op p q r : Int) (h0 : 0 ≤ op ∧ op ≤ 255) (hp : -9223372036854775808 ≤ p ∧ p ≤ 9223372036854775807) (hq : -9223372036854775808 ≤ q ∧ q ≤ 9223372036854775807)
    (hr : -9223372036854775808 ≤ r ∧ r ≤ 9223372036854775807) (he : appE op (BitVec.ofInt 64 q) = 0) (hv : appV op (BitVec.ofInt 64 p) (BitVec.ofInt 64 q) = BitVec.ofInt 64 r) (w : World) :
    Calls Try.prog 22 #[.int .u8 op, .int .i64 p, .int .i64 q] w fun e w' => e = .returned (.tuple #[.int .i64 r, .int .i64 0]) ∧ Below w.heap.size w w' := by
  have := apply_any op h0.1 h0.2 (BitVec.ofInt 64 p) (BitVec.ofInt 64 q) w
  rw [he, hv, ← s_ofInt_int p hp.1 hp.2, ← s_ofInt_int q hq.1 hq.2, ← s_ofInt_int r hr.1 hr.2] at this
  exact this

theorem s_val (p : Int) (h0 : -9223372036854775808 ≤ p) (h1 : p ≤ 9223372036854775807) (x : BitVec 64) (h : x = BitVec.ofInt 64 p) : s x = .int .i64 p := by rw [h, s_ofInt_int p h0 h1]

theorem wide_lit (w : World) :
    Calls Try.prog 19 #[.int .i64 (-1), .int .i64 1] w fun e w' => e = .returned (.tuple #[.int .i64 (-1), .int .u64 18446744073709551615]) ∧ w = w' := by
  have := wide_any (BitVec.ofInt 64 (-1)) (BitVec.ofInt 64 1) w
  rw [← s_ofInt_int (-1) (by decide) (by decide), ← s_ofInt_int 1 (by decide) (by decide), s_val (-1) (by decide) (by decide) (wideHigh _ _) (by decide +kernel),
    show wideLow (BitVec.ofInt 64 (-1)) (BitVec.ofInt 64 1) = 18446744073709551615#64 from by decide +kernel] at this
  exact this
theorem inverse_lit (w : World) :
    Calls Try.prog 20 #[.int .i64 3] w fun e w' => e = .returned (.tuple #[.int .i64 (-6148914691236517205), .bool true]) ∧ w = w' := by
  have := inverse_any (BitVec.ofInt 64 3) w
  rw [← s_ofInt_int 3 (by decide) (by decide), s_val (-6148914691236517205) (by decide) (by decide) (invV _) (by decide +kernel),
    show invOk (BitVec.ofInt 64 3) = true from by decide +kernel] at this
  exact this
theorem exact_lit (w : World) :
    Calls Try.prog 17 #[.int .u8 1, .int .i64 9223372036854775807, .int .i64 1] w fun e w' => e = .returned (.tuple #[.bool false, .int .i64 0]) ∧ Below w.heap.size w w' := by
  have := exact_any 1 (by decide) (by decide) (BitVec.ofInt 64 9223372036854775807) (BitVec.ofInt 64 1) w
  rw [← s_ofInt_int 9223372036854775807 (by decide) (by decide), ← s_ofInt_int 1 (by decide) (by decide), 
    show exactV 1 (BitVec.ofInt 64 9223372036854775807) (BitVec.ofInt 64 1) = false from by decide +kernel, show appE 1 (BitVec.ofInt 64 1) = 0 from by decide +kernel] at this
  exact this
theorem fold_lit (B : Nat) (w : World) (h0 : w.cell? ⟨B, 0, none⟩ = some (.int .i64 9)) (h1 : w.cell? ⟨B, 1, none⟩ = some (.int .i64 3)) (h2 : w.cell? ⟨B, 2, none⟩ = some (.int .i64 2)) :
    Calls Try.prog 18 #[.int .u8 2, .slice (some ⟨B, 0, none⟩) 3 3] w fun e w' => e = .returned (.tuple #[.int .i64 4, .int .i64 0]) ∧ Below w.heap.size w w' := by
  have := fold_any 2 (by decide) (by decide) (.slice (some ⟨B, 0, none⟩) 3 3) [BitVec.ofInt 64 9, BitVec.ofInt 64 3, BitVec.ofInt 64 2] w
    (.inr ⟨⟨B, 0, none⟩, 3, rfl, by decide, by decide, fun j hj => by
      rw [plain_add, Nat.zero_add]
      have hj' : j = 0 ∨ j = 1 ∨ j = 2 := by simp at hj; omega
      rcases hj' with rfl | rfl | rfl
      · rw [h0, s_ofInt_int 9 (by decide) (by decide)]; rfl
      · rw [h1, s_ofInt_int 3 (by decide) (by decide)]; rfl
      · rw [h2, s_ofInt_int 2 (by decide) (by decide)]; rfl⟩) (by decide)
  rw [s_val 4 (by decide) (by decide) (foldV 2 _).1 (by decide +kernel), show (foldV 2 [BitVec.ofInt 64 9, BitVec.ofInt 64 3, BitVec.ofInt 64 2]).2 = 0 from by decide +kernel] at this
  exact this

def rowsC : Array Value := #[.int .u8 1, .int .i64 9223372036854775807, .int .i64 1, .int .i64 (-9223372036854775808), .int .u8 4, .int .i64 (-7), .int .i64 2, .int .i64 (-3), .int .u8 5, .int .i64 (-7), .int .i64 2, .int .i64 (-1), .int .u8 6, .int .i64 (-7), .int .i64 2, .int .i64 1, .int .u8 6, .int .i64 (-7), .int .i64 (-2), .int .i64 1, .int .u8 4, .int .i64 (-9223372036854775808), .int .i64 (-1), .int .i64 (-9223372036854775808), .int .u8 5, .int .i64 (-9223372036854775808), .int .i64 (-1), .int .i64 0, .int .u8 10, .int .i64 1, .int .i64 65, .int .i64 2, .int .u8 11, .int .i64 (-1), .int .i64 60, .int .i64 15, .int .u8 12, .int .i64 (-5), .int .i64 1, .int .i64 (-3), .int .u8 13, .int .i64 (-1), .int .i64 0, .int .i64 1, .int .u8 14, .int .i64 (-1), .int .i64 0, .int .i64 0]

set_option maxRecDepth 100000 in
set_option maxHeartbeats 4000000 in
theorem awake_any (w : World) : Calls Try.prog 15 #[] w fun e w' => e = .returned (.bool true) ∧ Below w.heap.size w w' := by
  go_enter Try.func15, Try.ntmps15
  go_wp2_with fail
  go_loopw [27] (fun i W => ∃ k : Nat, k ≤ 12 ∧ i = .int .i64 k ∧ Below (w.heap.size + 1) (w.alloc (.cells rowsC 51)) W) (fun i _ => 12 - (intOf i).toNat)
  case atStart => exact ⟨0, by omega, rfl, Below.refl _ _⟩
  case round =>
    obtain ⟨k, hk, rfl, hB⟩ := hrel
    have hcell : ∀ j v, rowsC[j]? = some v → wr.cell? ⟨w.heap.size, j, none⟩ = some v := fun j v hv => by
      rw [← hv, hB.cell (p := ⟨w.heap.size, j, none⟩) (by simp)]
      exact cells_cell (World.alloc_heap_new w _) j
    by_cases hlt : k < 12
    · have hsz := hB.size
      rw [World.size_alloc] at hsz
      have hk' : k = 0 ∨ k = 1 ∨ k = 2 ∨ k = 3 ∨ k = 4 ∨ k = 5 ∨ k = 6 ∨ k = 7 ∨ k = 8 ∨ k = 9 ∨ k = 10 ∨ k = 11 := by omega
      clear hk hlt
      rcases hk' with rfl | rfl | rfl | rfl | rfl | rfl | rfl | rfl | rfl | rfl | rfl | rfl
      · have c0 : wr.cell? ⟨w.heap.size, 0, none⟩ = some (.int .u8 1) := hcell _ _ rfl
        have c1 : wr.cell? ⟨w.heap.size, 1, none⟩ = some (.int .i64 9223372036854775807) := hcell _ _ rfl
        have c2 : wr.cell? ⟨w.heap.size, 2, none⟩ = some (.int .i64 1) := hcell _ _ rfl
        have c3 : wr.cell? ⟨w.heap.size, 3, none⟩ = some (.int .i64 (-9223372036854775808)) := hcell _ _ rfl
        clear hcell
        go_wp2_with fail
        refine (apply_lit 1 9223372036854775807 1 (-9223372036854775808) (by decide) (by decide) (by decide) (by decide) (by decide +kernel) (by decide +kernel) _).mono ?_
        rintro e w1 ⟨rfl, hB1⟩
        have hB2 := (hB.alloc (by omega) (.cells #[.int .u8 1, .int .i64 9223372036854775807, .int .i64 1, .int .i64 (-9223372036854775808)] 51)).trans (hB1.mono (by simp; omega))
        have hw3 : w1.cell? ⟨wr.heap.size, 3, none⟩ = some (.int .i64 (-9223372036854775808)) := (hB1.cell (p := ⟨wr.heap.size, 3, none⟩) (by simp)).trans (cells_cell (World.alloc_heap_new wr _) 3)
        clear hB1 hB c0 c1 c2 c3
        go_wp2_with fail
        go_roundw
        case rel => exact ⟨1, by omega, by rfl, hB2⟩
        case measure => simp [intOf]
      · have c0 : wr.cell? ⟨w.heap.size, 4, none⟩ = some (.int .u8 4) := hcell _ _ rfl
        have c1 : wr.cell? ⟨w.heap.size, 5, none⟩ = some (.int .i64 (-7)) := hcell _ _ rfl
        have c2 : wr.cell? ⟨w.heap.size, 6, none⟩ = some (.int .i64 2) := hcell _ _ rfl
        have c3 : wr.cell? ⟨w.heap.size, 7, none⟩ = some (.int .i64 (-3)) := hcell _ _ rfl
        clear hcell
        go_wp2_with fail
        refine (apply_lit 4 (-7) 2 (-3) (by decide) (by decide) (by decide) (by decide) (by decide +kernel) (by decide +kernel) _).mono ?_
        rintro e w1 ⟨rfl, hB1⟩
        have hB2 := (hB.alloc (by omega) (.cells #[.int .u8 4, .int .i64 (-7), .int .i64 2, .int .i64 (-3)] 51)).trans (hB1.mono (by simp; omega))
        have hw3 : w1.cell? ⟨wr.heap.size, 3, none⟩ = some (.int .i64 (-3)) := (hB1.cell (p := ⟨wr.heap.size, 3, none⟩) (by simp)).trans (cells_cell (World.alloc_heap_new wr _) 3)
        clear hB1 hB c0 c1 c2 c3
        go_wp2_with fail
        go_roundw
        case rel => exact ⟨2, by omega, by rfl, hB2⟩
        case measure => simp [intOf]
      · have c0 : wr.cell? ⟨w.heap.size, 8, none⟩ = some (.int .u8 5) := hcell _ _ rfl
        have c1 : wr.cell? ⟨w.heap.size, 9, none⟩ = some (.int .i64 (-7)) := hcell _ _ rfl
        have c2 : wr.cell? ⟨w.heap.size, 10, none⟩ = some (.int .i64 2) := hcell _ _ rfl
        have c3 : wr.cell? ⟨w.heap.size, 11, none⟩ = some (.int .i64 (-1)) := hcell _ _ rfl
        clear hcell
        go_wp2_with fail
        refine (apply_lit 5 (-7) 2 (-1) (by decide) (by decide) (by decide) (by decide) (by decide +kernel) (by decide +kernel) _).mono ?_
        rintro e w1 ⟨rfl, hB1⟩
        have hB2 := (hB.alloc (by omega) (.cells #[.int .u8 5, .int .i64 (-7), .int .i64 2, .int .i64 (-1)] 51)).trans (hB1.mono (by simp; omega))
        have hw3 : w1.cell? ⟨wr.heap.size, 3, none⟩ = some (.int .i64 (-1)) := (hB1.cell (p := ⟨wr.heap.size, 3, none⟩) (by simp)).trans (cells_cell (World.alloc_heap_new wr _) 3)
        clear hB1 hB c0 c1 c2 c3
        go_wp2_with fail
        go_roundw
        case rel => exact ⟨3, by omega, by rfl, hB2⟩
        case measure => simp [intOf]
      · have c0 : wr.cell? ⟨w.heap.size, 12, none⟩ = some (.int .u8 6) := hcell _ _ rfl
        have c1 : wr.cell? ⟨w.heap.size, 13, none⟩ = some (.int .i64 (-7)) := hcell _ _ rfl
        have c2 : wr.cell? ⟨w.heap.size, 14, none⟩ = some (.int .i64 2) := hcell _ _ rfl
        have c3 : wr.cell? ⟨w.heap.size, 15, none⟩ = some (.int .i64 1) := hcell _ _ rfl
        clear hcell
        go_wp2_with fail
        refine (apply_lit 6 (-7) 2 1 (by decide) (by decide) (by decide) (by decide) (by decide +kernel) (by decide +kernel) _).mono ?_
        rintro e w1 ⟨rfl, hB1⟩
        have hB2 := (hB.alloc (by omega) (.cells #[.int .u8 6, .int .i64 (-7), .int .i64 2, .int .i64 1] 51)).trans (hB1.mono (by simp; omega))
        have hw3 : w1.cell? ⟨wr.heap.size, 3, none⟩ = some (.int .i64 1) := (hB1.cell (p := ⟨wr.heap.size, 3, none⟩) (by simp)).trans (cells_cell (World.alloc_heap_new wr _) 3)
        clear hB1 hB c0 c1 c2 c3
        go_wp2_with fail
        go_roundw
        case rel => exact ⟨4, by omega, by rfl, hB2⟩
        case measure => simp [intOf]
      · have c0 : wr.cell? ⟨w.heap.size, 16, none⟩ = some (.int .u8 6) := hcell _ _ rfl
        have c1 : wr.cell? ⟨w.heap.size, 17, none⟩ = some (.int .i64 (-7)) := hcell _ _ rfl
        have c2 : wr.cell? ⟨w.heap.size, 18, none⟩ = some (.int .i64 (-2)) := hcell _ _ rfl
        have c3 : wr.cell? ⟨w.heap.size, 19, none⟩ = some (.int .i64 1) := hcell _ _ rfl
        clear hcell
        go_wp2_with fail
        refine (apply_lit 6 (-7) (-2) 1 (by decide) (by decide) (by decide) (by decide) (by decide +kernel) (by decide +kernel) _).mono ?_
        rintro e w1 ⟨rfl, hB1⟩
        have hB2 := (hB.alloc (by omega) (.cells #[.int .u8 6, .int .i64 (-7), .int .i64 (-2), .int .i64 1] 51)).trans (hB1.mono (by simp; omega))
        have hw3 : w1.cell? ⟨wr.heap.size, 3, none⟩ = some (.int .i64 1) := (hB1.cell (p := ⟨wr.heap.size, 3, none⟩) (by simp)).trans (cells_cell (World.alloc_heap_new wr _) 3)
        clear hB1 hB c0 c1 c2 c3
        go_wp2_with fail
        go_roundw
        case rel => exact ⟨5, by omega, by rfl, hB2⟩
        case measure => simp [intOf]
      · have c0 : wr.cell? ⟨w.heap.size, 20, none⟩ = some (.int .u8 4) := hcell _ _ rfl
        have c1 : wr.cell? ⟨w.heap.size, 21, none⟩ = some (.int .i64 (-9223372036854775808)) := hcell _ _ rfl
        have c2 : wr.cell? ⟨w.heap.size, 22, none⟩ = some (.int .i64 (-1)) := hcell _ _ rfl
        have c3 : wr.cell? ⟨w.heap.size, 23, none⟩ = some (.int .i64 (-9223372036854775808)) := hcell _ _ rfl
        clear hcell
        go_wp2_with fail
        refine (apply_lit 4 (-9223372036854775808) (-1) (-9223372036854775808) (by decide) (by decide) (by decide) (by decide) (by decide +kernel) (by decide +kernel) _).mono ?_
        rintro e w1 ⟨rfl, hB1⟩
        have hB2 := (hB.alloc (by omega) (.cells #[.int .u8 4, .int .i64 (-9223372036854775808), .int .i64 (-1), .int .i64 (-9223372036854775808)] 51)).trans (hB1.mono (by simp; omega))
        have hw3 : w1.cell? ⟨wr.heap.size, 3, none⟩ = some (.int .i64 (-9223372036854775808)) := (hB1.cell (p := ⟨wr.heap.size, 3, none⟩) (by simp)).trans (cells_cell (World.alloc_heap_new wr _) 3)
        clear hB1 hB c0 c1 c2 c3
        go_wp2_with fail
        go_roundw
        case rel => exact ⟨6, by omega, by rfl, hB2⟩
        case measure => simp [intOf]
      · have c0 : wr.cell? ⟨w.heap.size, 24, none⟩ = some (.int .u8 5) := hcell _ _ rfl
        have c1 : wr.cell? ⟨w.heap.size, 25, none⟩ = some (.int .i64 (-9223372036854775808)) := hcell _ _ rfl
        have c2 : wr.cell? ⟨w.heap.size, 26, none⟩ = some (.int .i64 (-1)) := hcell _ _ rfl
        have c3 : wr.cell? ⟨w.heap.size, 27, none⟩ = some (.int .i64 0) := hcell _ _ rfl
        clear hcell
        go_wp2_with fail
        refine (apply_lit 5 (-9223372036854775808) (-1) 0 (by decide) (by decide) (by decide) (by decide) (by decide +kernel) (by decide +kernel) _).mono ?_
        rintro e w1 ⟨rfl, hB1⟩
        have hB2 := (hB.alloc (by omega) (.cells #[.int .u8 5, .int .i64 (-9223372036854775808), .int .i64 (-1), .int .i64 0] 51)).trans (hB1.mono (by simp; omega))
        have hw3 : w1.cell? ⟨wr.heap.size, 3, none⟩ = some (.int .i64 0) := (hB1.cell (p := ⟨wr.heap.size, 3, none⟩) (by simp)).trans (cells_cell (World.alloc_heap_new wr _) 3)
        clear hB1 hB c0 c1 c2 c3
        go_wp2_with fail
        go_roundw
        case rel => exact ⟨7, by omega, by rfl, hB2⟩
        case measure => simp [intOf]
      · have c0 : wr.cell? ⟨w.heap.size, 28, none⟩ = some (.int .u8 10) := hcell _ _ rfl
        have c1 : wr.cell? ⟨w.heap.size, 29, none⟩ = some (.int .i64 1) := hcell _ _ rfl
        have c2 : wr.cell? ⟨w.heap.size, 30, none⟩ = some (.int .i64 65) := hcell _ _ rfl
        have c3 : wr.cell? ⟨w.heap.size, 31, none⟩ = some (.int .i64 2) := hcell _ _ rfl
        clear hcell
        go_wp2_with fail
        refine (apply_lit 10 1 65 2 (by decide) (by decide) (by decide) (by decide) (by decide +kernel) (by decide +kernel) _).mono ?_
        rintro e w1 ⟨rfl, hB1⟩
        have hB2 := (hB.alloc (by omega) (.cells #[.int .u8 10, .int .i64 1, .int .i64 65, .int .i64 2] 51)).trans (hB1.mono (by simp; omega))
        have hw3 : w1.cell? ⟨wr.heap.size, 3, none⟩ = some (.int .i64 2) := (hB1.cell (p := ⟨wr.heap.size, 3, none⟩) (by simp)).trans (cells_cell (World.alloc_heap_new wr _) 3)
        clear hB1 hB c0 c1 c2 c3
        go_wp2_with fail
        go_roundw
        case rel => exact ⟨8, by omega, by rfl, hB2⟩
        case measure => simp [intOf]
      · have c0 : wr.cell? ⟨w.heap.size, 32, none⟩ = some (.int .u8 11) := hcell _ _ rfl
        have c1 : wr.cell? ⟨w.heap.size, 33, none⟩ = some (.int .i64 (-1)) := hcell _ _ rfl
        have c2 : wr.cell? ⟨w.heap.size, 34, none⟩ = some (.int .i64 60) := hcell _ _ rfl
        have c3 : wr.cell? ⟨w.heap.size, 35, none⟩ = some (.int .i64 15) := hcell _ _ rfl
        clear hcell
        go_wp2_with fail
        refine (apply_lit 11 (-1) 60 15 (by decide) (by decide) (by decide) (by decide) (by decide +kernel) (by decide +kernel) _).mono ?_
        rintro e w1 ⟨rfl, hB1⟩
        have hB2 := (hB.alloc (by omega) (.cells #[.int .u8 11, .int .i64 (-1), .int .i64 60, .int .i64 15] 51)).trans (hB1.mono (by simp; omega))
        have hw3 : w1.cell? ⟨wr.heap.size, 3, none⟩ = some (.int .i64 15) := (hB1.cell (p := ⟨wr.heap.size, 3, none⟩) (by simp)).trans (cells_cell (World.alloc_heap_new wr _) 3)
        clear hB1 hB c0 c1 c2 c3
        go_wp2_with fail
        go_roundw
        case rel => exact ⟨9, by omega, by rfl, hB2⟩
        case measure => simp [intOf]
      · have c0 : wr.cell? ⟨w.heap.size, 36, none⟩ = some (.int .u8 12) := hcell _ _ rfl
        have c1 : wr.cell? ⟨w.heap.size, 37, none⟩ = some (.int .i64 (-5)) := hcell _ _ rfl
        have c2 : wr.cell? ⟨w.heap.size, 38, none⟩ = some (.int .i64 1) := hcell _ _ rfl
        have c3 : wr.cell? ⟨w.heap.size, 39, none⟩ = some (.int .i64 (-3)) := hcell _ _ rfl
        clear hcell
        go_wp2_with fail
        refine (apply_lit 12 (-5) 1 (-3) (by decide) (by decide) (by decide) (by decide) (by decide +kernel) (by decide +kernel) _).mono ?_
        rintro e w1 ⟨rfl, hB1⟩
        have hB2 := (hB.alloc (by omega) (.cells #[.int .u8 12, .int .i64 (-5), .int .i64 1, .int .i64 (-3)] 51)).trans (hB1.mono (by simp; omega))
        have hw3 : w1.cell? ⟨wr.heap.size, 3, none⟩ = some (.int .i64 (-3)) := (hB1.cell (p := ⟨wr.heap.size, 3, none⟩) (by simp)).trans (cells_cell (World.alloc_heap_new wr _) 3)
        clear hB1 hB c0 c1 c2 c3
        go_wp2_with fail
        go_roundw
        case rel => exact ⟨10, by omega, by rfl, hB2⟩
        case measure => simp [intOf]
      · have c0 : wr.cell? ⟨w.heap.size, 40, none⟩ = some (.int .u8 13) := hcell _ _ rfl
        have c1 : wr.cell? ⟨w.heap.size, 41, none⟩ = some (.int .i64 (-1)) := hcell _ _ rfl
        have c2 : wr.cell? ⟨w.heap.size, 42, none⟩ = some (.int .i64 0) := hcell _ _ rfl
        have c3 : wr.cell? ⟨w.heap.size, 43, none⟩ = some (.int .i64 1) := hcell _ _ rfl
        clear hcell
        go_wp2_with fail
        refine (apply_lit 13 (-1) 0 1 (by decide) (by decide) (by decide) (by decide) (by decide +kernel) (by decide +kernel) _).mono ?_
        rintro e w1 ⟨rfl, hB1⟩
        have hB2 := (hB.alloc (by omega) (.cells #[.int .u8 13, .int .i64 (-1), .int .i64 0, .int .i64 1] 51)).trans (hB1.mono (by simp; omega))
        have hw3 : w1.cell? ⟨wr.heap.size, 3, none⟩ = some (.int .i64 1) := (hB1.cell (p := ⟨wr.heap.size, 3, none⟩) (by simp)).trans (cells_cell (World.alloc_heap_new wr _) 3)
        clear hB1 hB c0 c1 c2 c3
        go_wp2_with fail
        go_roundw
        case rel => exact ⟨11, by omega, by rfl, hB2⟩
        case measure => simp [intOf]
      · have c0 : wr.cell? ⟨w.heap.size, 44, none⟩ = some (.int .u8 14) := hcell _ _ rfl
        have c1 : wr.cell? ⟨w.heap.size, 45, none⟩ = some (.int .i64 (-1)) := hcell _ _ rfl
        have c2 : wr.cell? ⟨w.heap.size, 46, none⟩ = some (.int .i64 0) := hcell _ _ rfl
        have c3 : wr.cell? ⟨w.heap.size, 47, none⟩ = some (.int .i64 0) := hcell _ _ rfl
        clear hcell
        go_wp2_with fail
        refine (apply_lit 14 (-1) 0 0 (by decide) (by decide) (by decide) (by decide) (by decide +kernel) (by decide +kernel) _).mono ?_
        rintro e w1 ⟨rfl, hB1⟩
        have hB2 := (hB.alloc (by omega) (.cells #[.int .u8 14, .int .i64 (-1), .int .i64 0, .int .i64 0] 51)).trans (hB1.mono (by simp; omega))
        have hw3 : w1.cell? ⟨wr.heap.size, 3, none⟩ = some (.int .i64 0) := (hB1.cell (p := ⟨wr.heap.size, 3, none⟩) (by simp)).trans (cells_cell (World.alloc_heap_new wr _) 3)
        clear hB1 hB c0 c1 c2 c3
        go_wp2_with fail
        go_roundw
        case rel => exact ⟨12, by omega, by rfl, hB2⟩
        case measure => simp [intOf]
    · obtain rfl : k = 12 := by omega
      clear hcell
      have hsz := hB.size
      rw [World.size_alloc] at hsz
      have hB0 : Below w.heap.size w wr := ((Below.refl _ _).alloc (Nat.le_refl _) _).trans (hB.mono (by omega))
      clear hB
      go_wp2_with fail
      refine (fold_lit wr.heap.size _ (by simp) (by simp) (by simp)).mono ?_
      rintro e w2 ⟨rfl, hB2⟩
      have hB3 := (hB0.alloc (by omega) (.cells #[.int .i64 9, .int .i64 3, .int .i64 2] 2)).trans (hB2.mono (by simp; omega))
      clear hB0 hB2
      go_wp2_with fail
      refine (wide_lit _).mono ?_
      rintro e w3 ⟨rfl, rfl⟩
      go_wp2_with fail
      refine (inverse_lit _).mono ?_
      rintro e w4 ⟨rfl, rfl⟩
      go_wp2_with fail
      refine (exact_lit _).mono ?_
      rintro e w5 ⟨rfl, hB5⟩
      have hB6 := hB3.trans (hB5.mono hB3.size)
      clear hB3 hB5
      go_wp2_with fail
      go_ret
      exact ⟨rfl, hB6⟩
end Go.Proofs.Ytbmommomhepfpaa
