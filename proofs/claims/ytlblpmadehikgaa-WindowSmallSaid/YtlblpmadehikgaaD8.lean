/- The law WindowSmall: its walk. -/
import Derived.Test.YtlblpmadehikgaaE8
import Derived.Deep.DeepCutAuto
namespace Go.Proofs.Ytlblpmadehikgaa
open Go.RowKit Go.Shelf
set_option linter.unusedVariables false

/-- The numbers at the limits. -/
def n13 : List Int := [(-9223372036854775808), (-1), 0, 1, 5, 1099511627775, 1099511627776, 1099511627777, 281474976710655, 281474976710656, 281474976710657, 281474976710658, 9223372036854775807]
theorem srcN (w : World) : SrcI (w.alloc (.cells #[.int .i64 (-9223372036854775808), .int .i64 (-1), .int .i64 0, .int .i64 1, .int .i64 5, .int .i64 1099511627775, .int .i64 1099511627776, .int .i64 1099511627777, .int .i64 281474976710655, .int .i64 281474976710656, .int .i64 281474976710657, .int .i64 281474976710658, .int .i64 9223372036854775807] 3)) (.slice (some ⟨w.heap.size, 0, none⟩) 13 13) n13 := srcLitI w n13 (by decide)
theorem srcN_at {w : World} {b : Nat} (h : SrcI w (.slice (some ⟨b, 0, none⟩) 13 13) n13) {k : Nat} (hk : k < 13) : ∃ x, w.cell? ⟨b, k, none⟩ = some (.int .i64 x) := by
  obtain ⟨b', off, hb, _, hx⟩ := h.at k hk
  obtain ⟨rfl, rfl⟩ : b = b' ∧ 0 = off := by simpa using hb
  rw [Nat.zero_add] at hx
  exact ⟨_, hx⟩

set_option maxRecDepth 100000 in
set_option maxHeartbeats 8000000 in
theorem small_law (w : World) : Calls Try.prog 7 #[] w fun e w' => e = .returned (.bool true) ∧ Below w.heap.size w w' := by
  go_enter Try.func7, Try.ntmps7
  go_wp2_with fail
  go_loopw [20] (fun i W => ∃ k : Nat, k ≤ 2401 ∧ i = .int .i64 k ∧ Below w.heap.size w W) (fun i _ => 2401 - (intOf i).toNat)
  case atStart => exact ⟨0, by omega, rfl, Below.refl _ _⟩
  case round =>
    obtain ⟨k, hk, rfl, hB⟩ := hrel
    have HB := Hd.mk hB
    clear hB
    by_cases hlt : k < 2401
    · have k0 : (0 : Int) ≤ (k : Int) := by omega
      have k1 : (k : Int) < 2401 := by omega
      have HLT := Hd.mk hlt
      obtain ⟨mm, hmm⟩ : ∃ m : Nat, 1 + k % 4 = m := ⟨_, rfl⟩
      have hmi : 1 + (k : Int) % 4 = (mm : Int) := by omega
      have hmi2 : (k : Int) % 4 + 1 = (mm : Int) := by omega
      have hm4 : mm ≤ 4 := by omega
      have hm0 : (0 : Int) ≤ (mm : Int) := by omega
      have hm5 : (mm : Int) ≤ 4 := by omega
      obtain ⟨p1, hp1⟩ : ∃ p, (k : Int) % 7 = p := ⟨_, rfl⟩
      obtain ⟨p2, hp2⟩ : ∃ p, (k : Int) / 7 % 7 = p := ⟨_, rfl⟩
      obtain ⟨p3, hp3⟩ : ∃ p, (k : Int) / 49 % 7 = p := ⟨_, rfl⟩
      obtain ⟨p4, hp4⟩ : ∃ p, (k : Int) / 343 = p := ⟨_, rfl⟩
      clear hlt hk hmm
      go_wp2_with fail
      clear hp1 hp2 hp3 hp4
      obtain ⟨L, hW⟩ : ∃ Y, wr.alloc (.cells #[.int .i64 p1, .int .i64 p2, .int .i64 p3, .int .i64 p4] 3) = Y := ⟨_, rfl⟩
      have hX : Below wr.heap.size wr L := by rw [← hW]; exact bl_alloc (Below.refl _ _)
      have hS : SrcI L (.slice (some ⟨wr.heap.size, 0, none⟩) 4 4) [p1, p2, p3, p4] := by rw [← hW]; exact srcLitI wr [p1, p2, p3, p4] (by simp)
      try rw [hW]
      clear hW
      have FL := Hd.mk hS
      have HBL := Hd.mk (HB.out.trans (hX.mono HB.out.size))
      clear hX hS HB
      obtain ⟨g, hg⟩ : ∃ g, wr.heap.size = g := ⟨_, rfl⟩
      rw [hg] at FL
      try rw [hg]
      clear hg
      go_loopw [34] (fun i W => ∃ q : Nat, q ≤ 5 ∧ i = .int .i64 q ∧ Below L.heap.size L W) (fun i _ => 5 - (intOf i).toNat)
      case atStart => exact ⟨0, by omega, rfl, Below.refl _ _⟩
      case round =>
        obtain ⟨q, hq, rfl, hB⟩ := hrel
        have HB := Hd.mk hB
        clear hB
        by_cases hqt : q < 5
        · have q0 : (0 : Int) ≤ (q : Int) := by omega
          have q1 : (q : Int) < 5 := by omega
          have HQ := Hd.mk hqt
          have F1 := Hd.mk (FL.out.below HB.out)
          have F2 := Hd.mk (F1.out.takeA mm (by simpa using hm4))
          have HL2 : Hd ((([p1, p2, p3, p4] : List Int).take mm).length = mm) := ⟨by rw [List.length_take]; simp; omega⟩
          clear hqt hq
          go_wp2_with fail
          refine (plans_any _ _ _ _ _ F2.out (by rw [HL2.out]; omega)).mono ?_
          rintro e w2 ⟨rfl, hB2⟩
          have F3 := Hd.mk (F1.out.below hB2)
          have HB2 := Hd.mk (HB.out.trans (hB2.mono HB.out.size))
          clear hB2
          go_wp2_with fail
          refine (plans_any _ _ _ _ _ F3.out (by simp)).mono ?_
          rintro e w3 ⟨rfl, hB3⟩
          have HB3 := Hd.mk (HB2.out.trans (hB3.mono HB2.out.size))
          clear hB3
          go_wp2_with fail
          go_roundw
          case rel => exact ⟨q + 1, HQ.out, by go_num, HB3.out⟩
          case measure => have := HQ.out; simp [intOf] <;> omega
        · obtain rfl : q = 5 := by omega
          have HBR := Hd.mk (HBL.out.trans (HB.out.mono HBL.out.size))
          rw [show ((5 : Nat) : Int) = 5 from rfl]
          go_wp2_with fail
          go_roundw
          case rel => exact ⟨k + 1, HLT.out, by go_num, HBR.out⟩
          case measure => have := HLT.out; simp [intOf] <;> omega
    · obtain rfl : k = 2401 := by omega
      clear hlt hk
      rw [show ((2401 : Nat) : Int) = 2401 from rfl]
      go_wp2_with fail
      obtain ⟨L, hW⟩ : ∃ Y, wr.alloc (.cells #[.int .i64 (-9223372036854775808), .int .i64 (-1), .int .i64 0, .int .i64 1, .int .i64 5, .int .i64 1099511627775, .int .i64 1099511627776, .int .i64 1099511627777, .int .i64 281474976710655, .int .i64 281474976710656, .int .i64 281474976710657, .int .i64 281474976710658, .int .i64 9223372036854775807] 3) = Y := ⟨_, rfl⟩
      have hX : Below wr.heap.size wr L := by rw [← hW]; exact bl_alloc (Below.refl _ _)
      have hS : SrcI L (.slice (some ⟨wr.heap.size, 0, none⟩) 13 13) n13 := by rw [← hW]; exact srcN wr
      try rw [hW]
      clear hW
      obtain ⟨g, hg⟩ : ∃ g, wr.heap.size = g := ⟨_, rfl⟩
      rw [hg] at hS
      try rw [hg]
      have FN := Hd.mk hS
      have HBL := Hd.mk (HB.out.trans (hX.mono HB.out.size))
      clear hX hS HB hg
      go_loopw [60] (fun i W => ∃ k : Nat, k ≤ 13 ∧ i = .int .i64 k ∧ Below L.heap.size L W) (fun i _ => 13 - (intOf i).toNat)
      case atStart => exact ⟨0, by omega, rfl, Below.refl _ _⟩
      case round =>
        obtain ⟨k, hk, rfl, hB⟩ := hrel
        have HB := Hd.mk hB
        clear hB
        by_cases hlt : k < 13
        · have k0 : (0 : Int) ≤ (k : Int) := by omega
          have k1 : (k : Int) < 13 := by omega
          have HLT := Hd.mk hlt
          obtain ⟨x, hx⟩ := srcN_at (FN.out.below HB.out) hlt
          clear hlt hk
          go_wp2_with fail
          clear hx
          obtain ⟨w3, rfl⟩ : ∃ Y, Y = wr := ⟨_, rfl⟩
          go_loopw [66] (fun i W => ∃ k : Nat, k ≤ 13 ∧ i = .int .i64 k ∧ Below w3.heap.size w3 W) (fun i _ => 13 - (intOf i).toNat)
          case atStart => exact ⟨0, by omega, rfl, Below.refl _ _⟩
          case round =>
            obtain ⟨j, hj, rfl, hB⟩ := hrel
            have HB4 := Hd.mk hB
            clear hB
            by_cases hjt : j < 13
            · have j0 : (0 : Int) ≤ (j : Int) := by omega
              have j1 : (j : Int) < 13 := by omega
              have HJ := Hd.mk hjt
              have FN4 := Hd.mk (FN.out.below (HB.out.trans (HB4.out.mono HB.out.size)))
              obtain ⟨y, hy⟩ := srcN_at FN4.out hjt
              clear hjt hj
              go_wp2_with fail
              clear hy
              have FZ := Hd.mk (SrcI.nil wr)
              refine (plans_any _ [] _ _ _ FZ.out (by simp)).mono ?_
              rintro e w1 ⟨rfl, hB⟩
              have HB2 := Hd.mk (ch4 HB4.out hB)
              have Fn_2 := Hd.mk (FN4.out.below hB)
              have Fz_2 := Hd.mk (FZ.out.below hB)
              clear HB4 FN4 FZ
              clear hB
              clear Fz_2
              go_wp2_with fail
              obtain ⟨A3, hW⟩ : ∃ Y, (w1.alloc (.cells #[.int .i64 x] 3)) = Y := ⟨_, rfl⟩
              have hX : Below w1.heap.size w1 A3 := by rw [← hW]; exact bl_alloc (Below.refl _ _)
              have hS : SrcI A3 (.slice (some ⟨w1.heap.size, 0, none⟩) 1 1) [x] := by rw [← hW]; exact srcLitI w1 [x] (by simp)
              rw [hW]
              clear hW
              have HB4 := Hd.mk (ch4 HB2.out hX)
              have Fn_4 := Hd.mk (Fn_2.out.below hX)
              clear HB2 Fn_2
              clear hX
              have FLa := Hd.mk hS
              clear hS
              refine (plans_any _ _ _ _ _ FLa.out (by simp)).mono ?_
              rintro e w5 ⟨rfl, hB⟩
              have HB6 := Hd.mk (ch4 HB4.out hB)
              have Fn_6 := Hd.mk (Fn_4.out.below hB)
              have Fa_6 := Hd.mk (FLa.out.below hB)
              clear HB4 Fn_4 FLa
              clear hB
              clear Fa_6
              go_wp2_with fail
              obtain ⟨A7, hW⟩ : ∃ Y, (w5.alloc (.cells #[.int .i64 x, .int .i64 y] 3)) = Y := ⟨_, rfl⟩
              have hX : Below w5.heap.size w5 A7 := by rw [← hW]; exact bl_alloc (Below.refl _ _)
              have hS : SrcI A7 (.slice (some ⟨w5.heap.size, 0, none⟩) 2 2) [x, y] := by rw [← hW]; exact srcLitI w5 [x, y] (by simp)
              rw [hW]
              clear hW
              have HB8 := Hd.mk (ch4 HB6.out hX)
              have Fn_8 := Hd.mk (Fn_6.out.below hX)
              clear HB6 Fn_6
              clear hX
              have FLb := Hd.mk hS
              clear hS
              refine (plans_any _ _ _ _ _ FLb.out (by simp)).mono ?_
              rintro e w9 ⟨rfl, hB⟩
              have HB10 := Hd.mk (ch4 HB8.out hB)
              have Fn_10 := Hd.mk (Fn_8.out.below hB)
              have Fb_10 := Hd.mk (FLb.out.below hB)
              clear HB8 Fn_8 FLb
              clear hB
              clear Fb_10
              go_wp2_with fail
              obtain ⟨A11, hW⟩ : ∃ Y, (w9.alloc (.cells #[.int .i64 281474976710656, .int .i64 0] 3)) = Y := ⟨_, rfl⟩
              have hX : Below w9.heap.size w9 A11 := by rw [← hW]; exact bl_alloc (Below.refl _ _)
              have hS : SrcI A11 (.slice (some ⟨w9.heap.size, 0, none⟩) 2 2) [281474976710656, 0] := by rw [← hW]; exact srcLitI w9 [281474976710656, 0] (by simp)
              rw [hW]
              clear hW
              have HB12 := Hd.mk (ch4 HB10.out hX)
              have Fn_12 := Hd.mk (Fn_10.out.below hX)
              clear HB10 Fn_10
              clear hX
              have FLc := Hd.mk hS
              clear hS
              refine (plans_any _ _ _ _ _ FLc.out (by simp)).mono ?_
              rintro e w13 ⟨rfl, hB⟩
              have HB14 := Hd.mk (ch4 HB12.out hB)
              have Fn_14 := Hd.mk (Fn_12.out.below hB)
              have Fc_14 := Hd.mk (FLc.out.below hB)
              clear HB12 Fn_12 FLc
              clear hB
              clear Fc_14
              go_wp2_with fail
              have HB5 := Hd.mk HB14.out
              clear HB14
              obtain ⟨w5, rfl⟩ : ∃ Y, Y = w13 := ⟨_, rfl⟩
              go_loopw [97] (fun i W => ∃ k : Nat, k ≤ 13 ∧ i = .int .i64 k ∧ Below w5.heap.size w5 W) (fun i _ => 13 - (intOf i).toNat)
              case atStart => exact ⟨0, by omega, rfl, Below.refl _ _⟩
              case round =>
                obtain ⟨i, hi, rfl, hB⟩ := hrel
                have HB6 := Hd.mk hB
                clear hB
                by_cases hit : i < 13
                · have i0 : (0 : Int) ≤ (i : Int) := by omega
                  have i1 : (i : Int) < 13 := by omega
                  have HI := Hd.mk hit
                  obtain ⟨z, hz⟩ := srcN_at (Fn_14.out.below HB6.out) hit
                  clear hit hi
                  go_wp2_with fail
                  clear hz
                  refine (tells_any _ _ _ _ _ _).mono ?_
                  rintro e w7 ⟨rfl, hB7⟩
                  have HB7 := Hd.mk (HB6.out.trans (hB7.mono HB6.out.size))
                  clear hB7
                  go_wp2_with fail
                  refine (tells_any _ _ _ _ _ _).mono ?_
                  rintro e w8 ⟨rfl, hB8⟩
                  have HB8 := Hd.mk (HB7.out.trans (hB8.mono HB7.out.size))
                  clear hB8
                  go_wp2_with fail
                  refine (tells_any _ _ _ _ _ _).mono ?_
                  rintro e w9 ⟨rfl, hB9⟩
                  have HB9 := Hd.mk (HB8.out.trans (hB9.mono HB8.out.size))
                  clear hB9
                  go_wp2_with fail
                  go_roundw
                  case rel => exact ⟨i + 1, HI.out, by go_num, HB9.out⟩
                  case measure => have := HI.out; simp [intOf] <;> omega
                · obtain rfl : i = 13 := by omega
                  have HBR := Hd.mk (HB5.out.trans (HB6.out.mono HB5.out.size))
                  rw [show ((13 : Nat) : Int) = 13 from rfl]
                  go_wp2_with fail
                  go_roundw
                  case rel => exact ⟨j + 1, HJ.out, by go_num, HBR.out⟩
                  case measure => have := HJ.out; simp [intOf] <;> omega
            · obtain rfl : j = 13 := by omega
              have HBR := Hd.mk (HB.out.trans (HB4.out.mono HB.out.size))
              rw [show ((13 : Nat) : Int) = 13 from rfl]
              go_wp2_with fail
              go_roundw
              case rel => exact ⟨k + 1, HLT.out, by go_num, HBR.out⟩
              case measure => have := HLT.out; simp [intOf] <;> omega
        · obtain rfl : k = 13 := by omega
          have HBR := Hd.mk (HBL.out.trans (HB.out.mono HBL.out.size))
          clear hlt hk HB
          rw [show ((13 : Nat) : Int) = 13 from rfl]
          go_wp2_with (refine make_ints 4097 (by decide) rfl _ _ rfl wr.heap.size rfl rfl (Nat.le_refl _) ?_)
          intro wm hO hg2
          have HBM := Hd.mk (HBR.out.trans ((show Below wr.heap.size wr wm from ⟨hg2.os, hg2.tape, hg2.output, hg2.size, fun k hk => hg2.block k hk (by simp)⟩).mono HBR.out.size))
          obtain ⟨gm, hgm⟩ : ∃ g, wr.heap.size = g := ⟨_, rfl⟩
          rw [hgm] at hO ⊢
          have F0 := Hd.mk (OwnE.src hO)
          have h1 := SrcI.drop (b := gm) (off := 0) (n := 4097) (c := 4097) (OwnE.src hO) 1 (by rw [zL_len]; omega)
          rw [zL_len, zL_drop1 4096] at h1
          have F1 : Hd (SrcI wm (.slice (some ⟨gm, 1, none⟩) 4096 4096) (zL 4096)) := ⟨h1⟩
          clear hO hg2 hgm h1 HBR
          go_wp2_with fail
          obtain ⟨I, hI⟩ : ∃ I, inL (zL 4096) 1 (zL 4096).length = I := ⟨_, rfl⟩
          have HIL : Hd (I.length = 4096) := ⟨by rw [← hI, zL_len]; exact zeros_in _ _ (Nat.le_refl _)⟩
          refine (next_some (zeros_right 4096 (by decide)) (zeros_wins 4095) hI F1.out).mono ?_
          rintro e w1 ⟨v13, rfl, hO, hB⟩
          have HB2 := Hd.mk (ch4 HBM.out hB)
          have Fa_2 := Hd.mk (F0.out.below hB)
          have Fb_2 := Hd.mk (F1.out.below hB)
          clear HBM F0 F1
          obtain ⟨a13, c13, rfl⟩ := hO.src.shape
          rw [HIL.out]
          clear hO hB hI HIL
          go_wp2_with fail
          obtain ⟨A3, hW⟩ : ∃ W, (w1.alloc (.cells #[.int .i64 0, .int .i64 1] 28)) = W := ⟨_, rfl⟩
          have hX : Below w1.heap.size w1 A3 := by rw [← hW]; exact bl_alloc (Below.refl _ _)
          have hF : BoxF A3 w1.heap.size (.cells #[.int .i64 0, .int .i64 1] 28 (0, 0)) := by rw [← hW]; exact World.alloc_heap_new _ _
          have HZA3 : Hd (A3.heap.size = w1.heap.size + 1) := ⟨by rw [← hW]; simp⟩
          rw [hW]
          clear hW
          have HB4 := Hd.mk (ch4 HB2.out hX)
          have Fa_4 := Hd.mk (Fa_2.out.below hX)
          have Fb_4 := Hd.mk (Fb_2.out.below hX)
          clear HB2 Fa_2 Fb_2
          clear hX
          have FB4 := Hd.mk hF
          clear hF
          refine (next_bad _ _ 0 (-1) _ Fa_4.out 5 zeros_many (by decide)).mono ?_
          rintro e w5 ⟨rfl, hB⟩
          have HB6 := Hd.mk (ch4 HB4.out hB)
          have Fa_6 := Hd.mk (Fa_4.out.below hB)
          have Fb_6 := Hd.mk (Fb_4.out.below hB)
          have Fx12_6 := Hd.mk (FB4.out.below hB)
          clear HB4 Fa_4 Fb_4 FB4
          clear hB
          go_wp2_with fail
          obtain ⟨A7, hW⟩ : ∃ W, (w5.alloc (.cells #[.int .i64 0, .int .i64 0] 28)) = W := ⟨_, rfl⟩
          have hX : Below w5.heap.size w5 A7 := by rw [← hW]; exact bl_alloc (Below.refl _ _)
          have hF : BoxF A7 w5.heap.size (.cells #[.int .i64 0, .int .i64 0] 28 (0, 0)) := by rw [← hW]; exact World.alloc_heap_new _ _
          have HZA7 : Hd (A7.heap.size = w5.heap.size + 1) := ⟨by rw [← hW]; simp⟩
          rw [hW]
          clear hW
          have HB8 := Hd.mk (ch4 HB6.out hX)
          have Fa_8 := Hd.mk (Fa_6.out.below hX)
          have Fb_8 := Hd.mk (Fb_6.out.below hX)
          have Fx12_8 := Hd.mk (Fx12_6.out.below hX)
          clear HB6 Fa_6 Fb_6 Fx12_6
          clear hX
          have FB8 := Hd.mk hF
          clear hF
          refine (count_at (n := 1) (zeros_right 4096 (by decide)) (zeros_wins 4095) rfl Fb_8.out).mono ?_
          rintro e w9 ⟨rfl, hB⟩
          have HB10 := Hd.mk (ch4 HB8.out hB)
          have Fa_10 := Hd.mk (Fa_8.out.below hB)
          have Fb_10 := Hd.mk (Fb_8.out.below hB)
          have Fx12_10 := Hd.mk (Fx12_8.out.below hB)
          have Fx15_10 := Hd.mk (FB8.out.below hB)
          clear HB8 Fa_8 Fb_8 Fx12_8 FB8
          clear hB
          go_wp2_with fail
          refine (awake_any _).mono ?_
          rintro e w11 ⟨rfl, hB⟩
          have HB12 := Hd.mk (ch4 HB10.out hB)
          have Fa_12 := Hd.mk (Fa_10.out.below hB)
          have Fb_12 := Hd.mk (Fb_10.out.below hB)
          have Fx12_12 := Hd.mk (Fx12_10.out.below hB)
          have Fx15_12 := Hd.mk (Fx15_10.out.below hB)
          clear HB10 Fa_10 Fb_10 Fx12_10 Fx15_10
          clear hB
          go_wp2_with fail
          go_ret
          exact ⟨rfl, HB12.out⟩
end Go.Proofs.Ytlblpmadehikgaa
