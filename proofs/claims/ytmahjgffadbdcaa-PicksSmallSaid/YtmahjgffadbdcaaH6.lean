/- The law PicksSmall: its walk. -/
import Derived.Test.YtmahjgffadbdcaaH5
import Derived.Deep.RegionHeld3
namespace Go.Proofs.Ytmahjgffadbdcaa
open Go.RowKit
set_option linter.unusedVariables false

theorem bl_alloc {B W : World} {o : Obj} (h : Below B.heap.size B W) : Below B.heap.size B (W.alloc o) := h.alloc h.size _
def n7 : Array Value := #[.int .i64 (-9223372036854775808), .int .i64 (-1), .int .i64 0, .int .i64 1, .int .i64 16, .int .i64 17, .int .i64 9223372036854775807]
theorem n7_at {W : World} {g : Nat} (h : W.heap[g]? = some (.cells n7 3 (0, 0))) (k : Nat) (hk : k < 7) : ∃ p : Int, W.cell? ⟨g, k, none⟩ = some (.int .i64 p) ∧ -9223372036854775808 ≤ p ∧ p ≤ 9223372036854775807 := by
  have : k = 0 ∨ k = 1 ∨ k = 2 ∨ k = 3 ∨ k = 4 ∨ k = 5 ∨ k = 6 := by omega
  rcases this with rfl | rfl | rfl | rfl | rfl | rfl | rfl <;> exact ⟨_, cells_cell h _, by decide, by decide⟩
theorem keepN {W W' : World} {g : Nat} {o : Obj} (h : W.heap[g]? = some o) (hB : Below W.heap.size W W') : W'.heap[g]? = some o := (hB.block g (by rw [Array.getElem?_eq_some_iff] at h; exact h.1)).trans h
def five : List Int := [3, 7, 9, 12, 16]

set_option maxRecDepth 100000 in
set_option maxHeartbeats 8000000 in
theorem small_law (w : World) : Calls Try.prog 6 #[] w fun e w' => e = .returned (.bool true) ∧ Below w.heap.size w w' := by
  go_enter Try.func6, Try.ntmps6
  go_wp2_with fail
  go_loopw [13] (fun i W => ∃ k : Nat, k ≤ 1296 ∧ i = .int .i64 k ∧ Below w.heap.size w W) (fun i _ => 1296 - (intOf i).toNat)
  case atStart => exact ⟨0, by omega, rfl, Below.refl _ _⟩
  case round =>
    obtain ⟨k, hk, rfl, hB⟩ := hrel
    have HB := Hd.mk hB
    clear hB
    by_cases hlt : k < 1296
    · obtain ⟨i1, hi1⟩ : ∃ i, i = k % 6 := ⟨_, rfl⟩
      obtain ⟨q1, hq1⟩ : ∃ i, i = k / 6 := ⟨_, rfl⟩
      obtain ⟨i2, hi2⟩ : ∃ i, i = q1 % 6 := ⟨_, rfl⟩
      obtain ⟨q2, hq2⟩ : ∃ i, i = k / 36 := ⟨_, rfl⟩
      obtain ⟨i3, hi3⟩ : ∃ i, i = q2 % 6 := ⟨_, rfl⟩
      obtain ⟨i4, hi4⟩ : ∃ i, i = k / 216 := ⟨_, rfl⟩
      obtain ⟨t, ht⟩ : ∃ i, i = k % 27 := ⟨_, rfl⟩
      have r_1 : Int.tmod (k : Int) 6 = (i1 : Int) := by rw [Int.tmod_eq_emod_of_nonneg (by omega)]; omega
      have e_1 : (k : Int) % 6 = (i1 : Int) := by omega
      have d_1 : Int.tdiv (k : Int) 6 = (q1 : Int) := by rw [Int.tdiv_eq_ediv_of_nonneg (by omega)]; omega
      have f_1 : (k : Int) / 6 = (q1 : Int) := by omega
      have w_1 : IntKind.i64.wrap (q1 : Int) = (q1 : Int) := IntWalk.i64_in _ ⟨by omega, by omega⟩
      have r_2 : Int.tmod (q1 : Int) 6 = (i2 : Int) := by rw [Int.tmod_eq_emod_of_nonneg (by omega)]; omega
      have e_2 : (q1 : Int) % 6 = (i2 : Int) := by omega
      have d_2 : Int.tdiv (k : Int) 36 = (q2 : Int) := by rw [Int.tdiv_eq_ediv_of_nonneg (by omega)]; omega
      have f_2 : (k : Int) / 36 = (q2 : Int) := by omega
      have w_2 : IntKind.i64.wrap (q2 : Int) = (q2 : Int) := IntWalk.i64_in _ ⟨by omega, by omega⟩
      have r_3 : Int.tmod (q2 : Int) 6 = (i3 : Int) := by rw [Int.tmod_eq_emod_of_nonneg (by omega)]; omega
      have e_3 : (q2 : Int) % 6 = (i3 : Int) := by omega
      have d_4 : Int.tdiv (k : Int) 216 = (i4 : Int) := by rw [Int.tdiv_eq_ediv_of_nonneg (by omega)]; omega
      have f_4 : (k : Int) / 216 = (i4 : Int) := by omega
      have w_4 : IntKind.i64.wrap (i4 : Int) = (i4 : Int) := IntWalk.i64_in _ ⟨by omega, by omega⟩
      have r_5 : Int.tmod (k : Int) 27 = (t : Int) := by rw [Int.tmod_eq_emod_of_nonneg (by omega)]; omega
      have e_5 : (k : Int) % 27 = (t : Int) := by omega
      have w_6 : IntKind.i64.wrap ((t : Int) - 1) = (t : Int) - 1 := IntWalk.i64_in _ ⟨by omega, by omega⟩
      have HT : Hd (t ≤ 26) := ⟨by omega⟩
      have k0 : (0 : Int) ≤ (k : Int) := by omega
      have k1 : (k : Int) < 1296 := by omega
      have HK := Hd.mk hlt
      clear hi1 hq1 hi2 hq2 hi3 hi4 ht hk hlt
      go_wp2_with fail
      obtain ⟨g, hg⟩ : ∃ g, wr.heap.size = g := ⟨_, rfl⟩
      obtain ⟨wl, hW⟩ : ∃ x, wr.alloc (.cells #[.int .i64 i1, .int .i64 i2, .int .i64 i3, .int .i64 i4] 3) = x := ⟨_, rfl⟩
      have HBL : Hd (Below w.heap.size w wl) := ⟨by rw [← hW]; exact bl_alloc HB.out⟩
      have FL : Hd (SrcI wl (.slice (some ⟨g, 0, none⟩) 4 4) [(i1 : Int), i2, i3, i4]) := ⟨by rw [← hW, ← hg]; exact srcLitI wr [(i1 : Int), i2, i3, i4] (by simp)⟩
      rw [hW, hg]
      clear hW hg HB
      go_wp2_with fail
      go_loopw [27] (fun j W => ∃ m : Nat, m ≤ 5 ∧ j = .int .i64 m ∧ Below wl.heap.size wl W) (fun j _ => 5 - (intOf j).toNat)
      case atStart => exact ⟨0, by omega, rfl, Below.refl _ _⟩
      case round =>
        obtain ⟨m, hm, rfl, hB⟩ := hrel
        have HBR := Hd.mk hB
        clear hB
        by_cases hlm : m < 5
        · obtain ⟨mm, hmm⟩ : ∃ x, x = min m 3 := ⟨_, rfl⟩
          have hmin : min (m : Int) 3 = (mm : Int) := by omega
          have m0 : (0 : Int) ≤ (m : Int) := by omega
          have m1 : (m : Int) < 5 := by omega
          have m4 : (m : Int) ≤ 4 := by omega
          have mm0 : (0 : Int) ≤ (mm : Int) := by omega
          have mm3 : (mm : Int) ≤ 3 := by omega
          have n4 : m ≤ 4 := by omega
          have nm3 : mm ≤ 3 := by omega
          have FT := Hd.mk (FL.out.takeA m (by simpa using n4))
          have HLT : Hd ((([(i1 : Int), i2, i3, i4] : List Int).take m).length ≤ 4) := ⟨by simp [List.length_take]; omega⟩
          obtain ⟨X, hX⟩ : ∃ X, ([(i1 : Int), i2, i3, i4] : List Int).take m = X := ⟨_, rfl⟩
          rw [hX] at FT HLT
          have HM := Hd.mk hlm
          have H1 : Hd (∀ Y, Below wl.heap.size wl Y → Calls Try.prog 19 #[.slice (some ⟨Y.heap.size, 0, none⟩) 3 3, .slice (some ⟨g, 0, none⟩) m 4] (Y.alloc (.cells #[.int .i64 1, .int .i64 3, .int .i64 4] 3)).drew fun e w' => e = .returned (.bool true) ∧ Below (Y.alloc (.cells #[.int .i64 1, .int .i64 3, .int .i64 4] 3)).drew.heap.size (Y.alloc (.cells #[.int .i64 1, .int .i64 3, .int .i64 4] 3)).drew w') :=
            ⟨fun Y h => orders_any _ _ [1, 3, 4] X _ ((srcLitI Y [1, 3, 4] (by simp)).below (bl_drew (Below.refl _ _))) (FT.out.below (bl_drew (bl_alloc h))) (by simp) (by have := HLT.out; omega) (fun _ => by have := HLT.out; omega)⟩
          have H2 : Hd (∀ Y, Below wl.heap.size wl Y → Calls Try.prog 19 #[.slice (some ⟨g, 0, none⟩) m 4, .slice (some ⟨Y.heap.size, 0, none⟩) 2 2] (Y.alloc (.cells #[.int .i64 4, .int .i64 1] 3)) fun e w' => e = .returned (.bool true) ∧ Below (Y.alloc (.cells #[.int .i64 4, .int .i64 1] 3)).heap.size (Y.alloc (.cells #[.int .i64 4, .int .i64 1] 3)) w') :=
            ⟨fun Y h => orders_any _ _ X [4, 1] _ (FT.out.below (bl_alloc h)) (srcLitI Y [4, 1] (by simp)) (by have := HLT.out; omega) (by simp) (fun _ => by simp)⟩
          have H3 : Hd (∀ Y, Below wl.heap.size wl Y → Calls Try.prog 20 #[.slice (some ⟨g, 0, none⟩) m 4, .slice (some ⟨Y.heap.size, 0, none⟩) mm 3, .int .i64 ((t : Int) - 1)] (Y.alloc (.cells #[.int .i64 3, .int .i64 1, .int .i64 4] 3)) fun e w' => e = .returned (.bool true) ∧ Below (Y.alloc (.cells #[.int .i64 3, .int .i64 1, .int .i64 4] 3)).heap.size (Y.alloc (.cells #[.int .i64 3, .int .i64 1, .int .i64 4] 3)) w') :=
            ⟨fun Y h => tells_any _ _ X (([3, 1, 4] : List Int).take mm) _ _ (FT.out.below (bl_alloc h)) ((srcLitI Y [3, 1, 4] (by simp)).takeA mm (by simpa using nm3)) (by have := HLT.out; omega) (by omega) (by have := HT.out; omega)⟩
          clear hmm hX FT HLT hlm
          have hF0 := HBR.out
          go_wp2_with fail
          go_region_held3 (fun Y => Below wl.heap.size wl Y)
            (first | with_reducible assumption | (repeat (with_reducible first | exact Below.refl _ _ | apply bl_alloc | apply bl_drew | (apply bl_call; assumption) | assumption)))
            (first
            | (go_at_call 19; with_reducible refine (H1.out _ (by repeat (with_reducible first | exact Below.refl _ _ | apply bl_alloc | apply bl_drew | (apply bl_call; assumption) | assumption))).mono ?_; rintro e wx ⟨rfl, hB1⟩)
            | (go_at_call 19; with_reducible refine (H2.out _ (by repeat (with_reducible first | exact Below.refl _ _ | apply bl_alloc | apply bl_drew | (apply bl_call; assumption) | assumption))).mono ?_; rintro e wy ⟨rfl, hB2⟩)
            | (go_at_call 20; with_reducible refine (H3.out _ (by repeat (with_reducible first | exact Below.refl _ _ | apply bl_alloc | apply bl_drew | (apply bl_call; assumption) | assumption))).mono ?_; rintro e wz ⟨rfl, hB3⟩))
          all_goals
            have hS9 : Below wl.heap.size wl wz := by assumption
            have HS9 := Hd.mk hS9
            clear hS9
            go_wp2_with fail
            go_roundw
            case rel => exact ⟨m + 1, HM.out, by go_num, HS9.out⟩
            case measure => have := HM.out; simp [intOf] <;> omega
        · obtain rfl : m = 5 := by omega
          have HBX := Hd.mk (ch4 HBL.out HBR.out)
          clear HBR FL HBL
          go_wp2_with fail
          go_roundw
          case rel => exact ⟨k + 1, HK.out, by go_num, HBX.out⟩
          case measure => have := HK.out; simp [intOf] <;> omega
    · obtain rfl : k = 1296 := by omega
      clear hlt hk
      rw [show ((1296 : Nat) : Int) = 1296 from rfl]
      go_wp2_with fail
      obtain ⟨g, hg⟩ : ∃ g, wr.heap.size = g := ⟨_, rfl⟩
      obtain ⟨wn, hW⟩ : ∃ x, wr.alloc (.cells n7 3) = x := ⟨_, rfl⟩
      have HBN : Hd (Below w.heap.size w wn) := ⟨by rw [← hW]; exact bl_alloc HB.out⟩
      have HN7 : Hd (wn.heap[g]? = some (.cells n7 3 (0, 0))) := ⟨by rw [← hW, ← hg]; exact World.alloc_heap_new _ _⟩
      have hW2 : wr.alloc (.cells #[.int .i64 (-9223372036854775808), .int .i64 (-1), .int .i64 0, .int .i64 1, .int .i64 16, .int .i64 17, .int .i64 9223372036854775807] 3) = wn := hW
      rw [hW2, hg]
      clear hW hW2 hg HB
      go_wp2_with fail
      go_loopw [62] (fun i W => ∃ k : Nat, k ≤ 7 ∧ i = .int .i64 k ∧ Below wn.heap.size wn W) (fun i _ => 7 - (intOf i).toNat)
      case atStart => exact ⟨0, by omega, rfl, Below.refl _ _⟩
      case round =>
        obtain ⟨k, hk, rfl, hB⟩ := hrel
        have HBR := Hd.mk hB
        by_cases hlt : k < 7
        · obtain ⟨p, hp, hp0, hp1⟩ := n7_at (keepN HN7.out hB) k hlt
          have k0 : (0 : Int) ≤ (k : Int) := by omega
          have k1 : (k : Int) < 7 := by omega
          have HP0 := Hd.mk hp0
          have HP1 := Hd.mk hp1
          have HK := Hd.mk hlt
          clear hB hlt hk hp0 hp1
          go_wp2_with fail
          clear hp
          obtain ⟨LA, hW⟩ : ∃ W, (wr.alloc (.cells #[.int .i64 p] 3)) = W := ⟨_, rfl⟩
          have hX : Below wr.heap.size wr LA := by rw [← hW]; exact (Below.refl _ _).alloc (Nat.le_refl _) _
          have hS0 : SrcI LA (.slice (some ⟨wr.heap.size, 0, none⟩) 1 1) [p] := by
            rw [← hW]
            have h := srcLitI wr [p] (by simp)
            exact h
          rw [hW]
          clear hW
          have HB31 := Hd.mk (ch4 HBR.out hX)
          clear HBR
          clear hX
          have FLA0 := Hd.mk hS0
          clear hS0
          refine (orders_any _ _ [p] [] _ FLA0.out (.inl ⟨rfl, rfl⟩) (by simp) (by simp) (fun _ => by simp)).mono ?_
          rintro e w32 ⟨rfl, hB⟩
          have HB33 := Hd.mk (ch4 HB31.out hB)
          have FLA0_33 := Hd.mk (FLA0.out.below hB)
          clear HB31 FLA0
          clear hB
          clear FLA0_33
          go_wp2_with fail
          obtain ⟨LB, hW⟩ : ∃ W, ((w32.alloc (.cells #[.int .i64 2, .int .i64 p] 3)).alloc (.cells #[.int .i64 p] 3)) = W := ⟨_, rfl⟩
          have hX : Below w32.heap.size w32 LB := by rw [← hW]; exact ((Below.refl _ _).alloc (Nat.le_refl _) _).alloc (by simp) _
          have hS0 : SrcI LB (.slice (some ⟨w32.heap.size, 0, none⟩) 2 2) [2, p] := by
            rw [← hW]
            have h := srcLitI w32 [2, p] (by simp)
            exact (SrcI.below h ((Below.refl _ _).alloc (Nat.le_refl _) _))
          have hS1 : SrcI LB (.slice (some ⟨w32.heap.size + 1, 0, none⟩) 1 1) [p] := by
            rw [← hW]
            have h := srcLitI (w32.alloc (.cells #[.int .i64 2, .int .i64 p] 3)) [p] (by simp)
            simp only [World.size_alloc] at h
            exact h
          rw [hW]
          clear hW
          have HB34 := Hd.mk (ch4 HB33.out hX)
          clear HB33
          clear hX
          have FLB0 := Hd.mk hS0
          clear hS0
          have FLB1 := Hd.mk hS1
          clear hS1
          refine (orders_any _ _ [2, p] [p] _ FLB0.out FLB1.out (by simp) (by simp) (fun _ => by simp)).mono ?_
          rintro e w35 ⟨rfl, hB⟩
          have HB36 := Hd.mk (ch4 HB34.out hB)
          have FLB0_36 := Hd.mk (FLB0.out.below hB)
          have FLB1_36 := Hd.mk (FLB1.out.below hB)
          clear HB34 FLB0 FLB1
          clear hB
          clear FLB0_36
          clear FLB1_36
          go_wp2_with fail
          obtain ⟨LC, hW⟩ : ∃ W, ((w35.alloc (.cells #[.int .i64 p, .int .i64 16] 3)).alloc (.cells #[.int .i64 p, .int .i64 2] 3)) = W := ⟨_, rfl⟩
          have hX : Below w35.heap.size w35 LC := by rw [← hW]; exact ((Below.refl _ _).alloc (Nat.le_refl _) _).alloc (by simp) _
          have hS0 : SrcI LC (.slice (some ⟨w35.heap.size, 0, none⟩) 2 2) [p, 16] := by
            rw [← hW]
            have h := srcLitI w35 [p, 16] (by simp)
            exact (SrcI.below h ((Below.refl _ _).alloc (Nat.le_refl _) _))
          have hS1 : SrcI LC (.slice (some ⟨w35.heap.size + 1, 0, none⟩) 2 2) [p, 2] := by
            rw [← hW]
            have h := srcLitI (w35.alloc (.cells #[.int .i64 p, .int .i64 16] 3)) [p, 2] (by simp)
            simp only [World.size_alloc] at h
            exact h
          rw [hW]
          clear hW
          have HB37 := Hd.mk (ch4 HB36.out hX)
          clear HB36
          clear hX
          have FLC0 := Hd.mk hS0
          clear hS0
          have FLC1 := Hd.mk hS1
          clear hS1
          refine (orders_any _ _ [p, 16] [p, 2] _ FLC0.out FLC1.out (by simp) (by simp) (fun _ => by simp)).mono ?_
          rintro e w38 ⟨rfl, hB⟩
          have HB39 := Hd.mk (ch4 HB37.out hB)
          have FLC0_39 := Hd.mk (FLC0.out.below hB)
          have FLC1_39 := Hd.mk (FLC1.out.below hB)
          clear HB37 FLC0 FLC1
          clear hB
          clear FLC0_39
          clear FLC1_39
          go_wp2_with fail
          obtain ⟨LD, hW⟩ : ∃ W, ((w38.alloc (.cells #[.int .i64 1, .int .i64 2] 3)).alloc (.cells #[.int .i64 p] 3)) = W := ⟨_, rfl⟩
          have hX : Below w38.heap.size w38 LD := by rw [← hW]; exact ((Below.refl _ _).alloc (Nat.le_refl _) _).alloc (by simp) _
          have hS0 : SrcI LD (.slice (some ⟨w38.heap.size, 0, none⟩) 2 2) [1, 2] := by
            rw [← hW]
            have h := srcLitI w38 [1, 2] (by simp)
            exact (SrcI.below h ((Below.refl _ _).alloc (Nat.le_refl _) _))
          have hS1 : SrcI LD (.slice (some ⟨w38.heap.size + 1, 0, none⟩) 1 1) [p] := by
            rw [← hW]
            have h := srcLitI (w38.alloc (.cells #[.int .i64 1, .int .i64 2] 3)) [p] (by simp)
            simp only [World.size_alloc] at h
            exact h
          rw [hW]
          clear hW
          have HB40 := Hd.mk (ch4 HB39.out hX)
          clear HB39
          clear hX
          have FLD0 := Hd.mk hS0
          clear hS0
          have FLD1 := Hd.mk hS1
          clear hS1
          refine (orders_any _ _ [1, 2] [p] _ FLD0.out FLD1.out (by simp) (by simp) (fun _ => by simp)).mono ?_
          rintro e w41 ⟨rfl, hB⟩
          have HB42 := Hd.mk (ch4 HB40.out hB)
          have FLD0_42 := Hd.mk (FLD0.out.below hB)
          have FLD1_42 := Hd.mk (FLD1.out.below hB)
          clear HB40 FLD0 FLD1
          clear hB
          clear FLD0_42
          clear FLD1_42
          go_wp2_with fail
          obtain ⟨LE, hW⟩ : ∃ W, ((w41.alloc (.cells #[.int .i64 p, .int .i64 2] 3)).alloc (.cells #[.int .i64 2, .int .i64 p] 3)) = W := ⟨_, rfl⟩
          have hX : Below w41.heap.size w41 LE := by rw [← hW]; exact ((Below.refl _ _).alloc (Nat.le_refl _) _).alloc (by simp) _
          have hS0 : SrcI LE (.slice (some ⟨w41.heap.size, 0, none⟩) 2 2) [p, 2] := by
            rw [← hW]
            have h := srcLitI w41 [p, 2] (by simp)
            exact (SrcI.below h ((Below.refl _ _).alloc (Nat.le_refl _) _))
          have hS1 : SrcI LE (.slice (some ⟨w41.heap.size + 1, 0, none⟩) 2 2) [2, p] := by
            rw [← hW]
            have h := srcLitI (w41.alloc (.cells #[.int .i64 p, .int .i64 2] 3)) [2, p] (by simp)
            simp only [World.size_alloc] at h
            exact h
          rw [hW]
          clear hW
          have HB43 := Hd.mk (ch4 HB42.out hX)
          clear HB42
          clear hX
          have FLE0 := Hd.mk hS0
          clear hS0
          have FLE1 := Hd.mk hS1
          clear hS1
          refine (tells_any _ _ [p, 2] [2, p] p _ FLE0.out FLE1.out (by simp) HP0.out HP1.out).mono ?_
          rintro e w44 ⟨rfl, hB⟩
          have HB45 := Hd.mk (ch4 HB43.out hB)
          have FLE0_45 := Hd.mk (FLE0.out.below hB)
          have FLE1_45 := Hd.mk (FLE1.out.below hB)
          clear HB43 FLE0 FLE1
          clear hB
          clear FLE0_45 FLE1_45
          go_wp2_with fail
          obtain ⟨LF, hW⟩ : ∃ W, ((w44.alloc (.cells #[.int .i64 1, .int .i64 2] 3)).alloc (.cells #[.int .i64 2, .int .i64 p] 3)) = W := ⟨_, rfl⟩
          have hX : Below w44.heap.size w44 LF := by rw [← hW]; exact ((Below.refl _ _).alloc (Nat.le_refl _) _).alloc (by simp) _
          have hS0 : SrcI LF (.slice (some ⟨w44.heap.size, 0, none⟩) 2 2) [1, 2] := by
            rw [← hW]
            have h := srcLitI w44 [1, 2] (by simp)
            exact (SrcI.below h ((Below.refl _ _).alloc (Nat.le_refl _) _))
          have hS1 : SrcI LF (.slice (some ⟨w44.heap.size + 1, 0, none⟩) 2 2) [2, p] := by
            rw [← hW]
            have h := srcLitI (w44.alloc (.cells #[.int .i64 1, .int .i64 2] 3)) [2, p] (by simp)
            simp only [World.size_alloc] at h
            exact h
          rw [hW]
          clear hW
          have HB46 := Hd.mk (ch4 HB45.out hX)
          clear HB45
          clear hX
          have FLF0 := Hd.mk hS0
          clear hS0
          have FLF1 := Hd.mk hS1
          clear hS1
          refine (tells_any _ _ [1, 2] [2, p] 1 _ FLF0.out FLF1.out (by simp) (by omega) (by omega)).mono ?_
          rintro e w47 ⟨rfl, hB⟩
          have HB48 := Hd.mk (ch4 HB46.out hB)
          have FLF0_48 := Hd.mk (FLF0.out.below hB)
          have FLF1_48 := Hd.mk (FLF1.out.below hB)
          clear HB46 FLF0 FLF1
          clear hB
          clear FLF0_48 FLF1_48
          go_wp2_with fail
          go_roundw
          case rel => exact ⟨k + 1, HK.out, by go_num, HB48.out⟩
          case measure => have := HK.out; simp [intOf] <;> omega
        · obtain rfl : k = 7 := by omega
          rw [show ((7 : Nat) : Int) = 7 from rfl]
          have HBX := Hd.mk (ch4 HBN.out HBR.out)
          clear hB HBR HBN HN7 hlt hk
          go_wp2_with fail
          obtain ⟨LV, hW⟩ : ∃ W, (wr.alloc (.cells #[.int .i64 3, .int .i64 7, .int .i64 9, .int .i64 12, .int .i64 16] 3)) = W := ⟨_, rfl⟩
          have hX : Below wr.heap.size wr LV := by rw [← hW]; exact (Below.refl _ _).alloc (Nat.le_refl _) _
          have hS0 : SrcI LV (.slice (some ⟨wr.heap.size, 0, none⟩) 5 5) [3, 7, 9, 12, 16] := by
            rw [← hW]
            have h := srcLitI wr [3, 7, 9, 12, 16] (by simp)
            exact h
          rw [hW]
          clear hW
          have HB61 := Hd.mk (ch4 HBX.out hX)
          clear HBX
          clear hX
          have FLV0 := Hd.mk hS0
          clear hS0
          go_wp2_with fail
          refine (clone_app _ _ _ FLV0.out (by simp)).mono ?_
          rintro e w62 ⟨v7, rfl, hO, hB⟩
          have FNo62 := Hd.mk ((OwnI.of hO).src)
          have HB63 := Hd.mk (ch4 HB61.out hB)
          have Fv_63 := Hd.mk (FLV0.out.below hB)
          clear HB61 FLV0
          clear hB hO
          have FV := Hd.mk (show SrcI w62 _ five from Fv_63.out)
          have FO := Hd.mk (show SrcI w62 v7 five from FNo62.out)
          clear Fv_63 FNo62
          have HWB := Hd.mk HB63.out
          clear HB63
          obtain ⟨wf, hwf⟩ : ∃ x, w62 = x := ⟨_, rfl⟩
          rw [hwf] at FV FO HWB ⊢
          clear hwf
          obtain ⟨a7, c7, rfl⟩ := FO.out.shape
          go_wp2_with fail
          go_loopw [7, 113] (fun v i W => ∃ k : Nat, k ≤ 120 ∧ i = .int .i64 k ∧ SrcI W v (nthV 5 five (min k 119)) ∧ Below wf.heap.size wf W) (fun _ i _ => 122 - (intOf i).toNat)
          case atStart => exact ⟨0, by omega, rfl, FO.out, Below.refl _ _⟩
          case round =>
            obtain ⟨k, hk, rfl, hS, hB⟩ := hrel
            have HBR := Hd.mk (ch4 HWB.out hB)
            have HBF := Hd.mk hB
            have FVR := Hd.mk (FV.out.below hB)
            have k0 : (0 : Int) ≤ (k : Int) := by omega
            by_cases hlt : k < 120
            · have hmin : min k 119 = k := by omega
              rw [hmin] at hS
              obtain ⟨hp, hr⟩ := nth_spec 5 five (by decide) rfl k hlt
              obtain ⟨O, hO⟩ : ∃ O, nthV 5 five k = O := ⟨_, rfl⟩
              rw [hO] at hS hp hr
              have hol : O.length = 5 := hp.length_eq
              have HOL := Hd.mk hol
              have hok : okO O = true := decide_eq_true (OkO.perm (of_decide_eq_true (by decide : okO five = true)) hp)
              have HOK := Hd.mk hok
              have HNN := Hd.mk (next_nth (l := O) (S := five) (by decide) hp)
              have HR := Hd.mk hr
              have HO := Hd.mk hO
              have FO2 := Hd.mk hS
              have HK := Hd.mk hlt
              have k1 : (k : Int) < 120 := by omega
              have k2 : (k : Int) < 121 := by omega
              have k3 : ¬ (k : Int) = 120 := by omega
              obtain ⟨a8, c8, rfl⟩ := hS.shape
              clear hB hS hlt hk hmin hp hr hO hol hok
              clear HBR
              go_wp2_with fail
              refine (nth_at (l := five) (r := k) (by decide) HK.out (by have := HK.out; omega) HO.out FVR.out).mono ?_
              rintro e w71 ⟨v9, rfl, hO, hB⟩
              have FNn71 := Hd.mk (hO.src)
              have HB72 := Hd.mk (ch4 HBF.out hB)
              have Fv_72 := Hd.mk (FVR.out.below hB)
              have Fo_72 := Hd.mk (FO2.out.below hB)
              clear HBF FVR FO2
              clear hB hO
              obtain ⟨a9, c9, rfl⟩ := FNn71.out.shape
              go_wp2_with fail
              refine (equal_at (b := true) (by simp) FNn71.out Fo_72.out).mono ?_
              rintro e w73 ⟨rfl, hB⟩
              have HB74 := Hd.mk (ch4 HB72.out hB)
              have Fv_74 := Hd.mk (Fv_72.out.below hB)
              have Fo_74 := Hd.mk (Fo_72.out.below hB)
              have Fn_74 := Hd.mk (FNn71.out.below hB)
              clear HB72 Fv_72 Fo_72 FNn71
              clear hB
              go_wp2_with fail
              refine (tells_any _ _ O five k _ Fn_74.out Fv_74.out (by have := HOL.out; omega) (by omega) (by omega)).mono ?_
              rintro e w75 ⟨rfl, hB⟩
              have HB76 := Hd.mk (ch4 HB74.out hB)
              have Fv_76 := Hd.mk (Fv_74.out.below hB)
              have Fo_76 := Hd.mk (Fo_74.out.below hB)
              have Fn_76 := Hd.mk (Fn_74.out.below hB)
              clear HB74 Fv_74 Fo_74 Fn_74
              clear hB
              clear Fn_76
              go_wp2_with fail
              rcases HNN.out with ⟨hz1, hz2⟩ | ⟨hz2, hz1⟩
              · have hk119 : k = 119 := by
                  rw [HR.out] at hz2
                  have : fac five.length = 120 := by decide
                  omega
                have HK9 := Hd.mk hk119
                have HZ1 := Hd.mk hz1
                clear hz1 hz2 hk119
                refine (next_last HOK.out HZ1.out Fo_76.out).mono ?_
                rintro e w77 ⟨v12, rfl, hO, hB⟩
                have HB78 := Hd.mk (ch4 HB76.out hB)
                have Fv_78 := Hd.mk (Fv_76.out.below hB)
                have Fo_78 := Hd.mk (Fo_76.out.below hB)
                clear HB76 Fv_76 Fo_76
                obtain ⟨a12, c12, rfl⟩ := hO.src.shape
                clear hB hO
                go_wp2_with fail
                go_roundw
                case rel => exact ⟨k + 1, HK.out, by go_num, by rw [show min (k + 1) 119 = k by have := HK9.out; omega, HO.out]; exact Fo_78.out, HB78.out⟩
                case measure => have := HK.out; simp [intOf] <;> omega
              · have hz3 : k + 1 < 120 := by
                  rw [HR.out] at hz2
                  have : fac five.length = 120 := by decide
                  omega
                have HZ2 := Hd.mk hz3
                clear hz3
                have HZ1 : Hd (nextV O = some (nthV 5 five (k + 1))) := ⟨by rw [hz1, HR.out]; rfl⟩
                clear hz1 hz2
                refine (next_at' HOK.out HZ1.out Fo_76.out).mono ?_
                rintro e w77 ⟨v12, rfl, hO, hB⟩
                have FNx77 := Hd.mk (hO.src)
                have HB78 := Hd.mk (ch4 HB76.out hB)
                have Fv_78 := Hd.mk (Fv_76.out.below hB)
                have Fo_78 := Hd.mk (Fo_76.out.below hB)
                clear HB76 Fv_76 Fo_76
                clear hB hO
                have hxs := FNx77.out.shape
                obtain ⟨XX, hXX⟩ : ∃ X, nthV 5 five (k + 1) = X := ⟨_, rfl⟩
                rw [hXX] at FNx77 hxs
                have HXX := Hd.mk hXX
                obtain ⟨a12, c12, rfl⟩ := hxs
                clear hXX
                go_wp2_with fail
                go_roundw
                case rel => exact ⟨k + 1, HK.out, by go_num, by rw [show min (k + 1) 119 = k + 1 by have := HZ2.out; omega, HXX.out]; exact FNx77.out, HB78.out⟩
                case measure => have := HK.out; simp [intOf] <;> omega
            · obtain rfl : k = 120 := by omega
              clear hlt hk hB hS
              go_wp2_with fail
              refine (nth_over (l := five) (r := 120) (by decide) (by decide) (by omega) FVR.out).mono ?_
              rintro e w91 ⟨v9, rfl, hO, hB⟩
              have FNn91 := Hd.mk (hO.src)
              have HB92 := Hd.mk (ch4 HBR.out hB)
              have Fv_92 := Hd.mk (FVR.out.below hB)
              clear HBR FVR
              clear hB hO
              obtain ⟨a9, c9, rfl⟩ := FNn91.out.shape
              go_wp2_with fail
              refine (whole_any _).mono ?_
              rintro e w93 ⟨rfl, hB⟩
              have HB94 := Hd.mk (ch4 HB92.out hB)
              have Fv_94 := Hd.mk (Fv_92.out.below hB)
              have Fn_94 := Hd.mk (FNn91.out.below hB)
              clear HB92 Fv_92 FNn91
              clear hB
              go_wp2_with fail
              refine (awake_any _).mono ?_
              rintro e w95 ⟨rfl, hB⟩
              have HB96 := Hd.mk (ch4 HB94.out hB)
              have Fv_96 := Hd.mk (Fv_94.out.below hB)
              have Fn_96 := Hd.mk (Fn_94.out.below hB)
              clear HB94 Fv_94 Fn_94
              clear hB
              go_wp2_with fail
              go_ret
              exact ⟨rfl, HB96.out⟩
end Go.Proofs.Ytmahjgffadbdcaa
