/- The law CellsWrong: its walk. -/
import Derived.Test.YtnhkadknibinfaaD1
import Derived.Deep.DeepCutAuto
import Derived.Lib.MinMax
namespace Go.Proofs.Ytnhkadknibinfaa
open Go.RowKit
set_option linter.unusedVariables false


theorem ld_under {a : List (List Int)} {s : List Nat} (h : shape a = s) (o k : Int) (ho : o < 1 ∨ (s.length : Int) < o) : ldE a o k = 211 := by
  have : a.length = s.length := by rw [← h]; simp [shape]
  unfold ldE; rw [if_pos (by omega)]
theorem ld_out {a : List (List Int)} (h : shape a = S9) (r : Nat) (hr : r < 4) (i : Int) (hi : i < 0 ∨ 4 ≤ i) : ldE a ((r : Int) + 1) i = 212 := by
  obtain ⟨n, hn⟩ : ∃ n, S9[r]? = some n := ⟨_, List.getElem?_eq_getElem (by show r < 4; omega)⟩
  have hn4 : n ≤ 4 := by
    have : r = 0 ∨ r = 1 ∨ r = 2 ∨ r = 3 := by omega
    rcases this with rfl | rfl | rfl | rfl <;> simp [S9] at hn <;> omega
  by_cases h0 : i < 0
  · obtain ⟨hl, _⟩ := shape_get h r hn
    unfold ldE
    rw [if_neg (by omega)]
    have : at2 a ((r : Int) + 1, i) = none := by unfold at2; rw [if_pos (.inr h0)]
    rw [this]; rfl
  · obtain ⟨k, rfl⟩ : ∃ k : Nat, i = k := ⟨i.toNat, by omega⟩
    exact ld_none h r k hn (by omega)

theorem make44 (W : World) (n : Nat) (hn : n ≤ 1024) : (Instr.makeSlice 44 (.int .i64 (n : Int)) (.int .i64 (n : Int))).run Try.prog W = .ok (.slice (some ⟨W.heap.size, 0, none⟩) n n) (W.alloc (.cells (Zc n) 3)) := by
  obtain ⟨i, hi, hz, hs, hb⟩ := info_parts (P := Try.prog) (e := 3) (z := .int .i64 0) (size := 1) (bytes := 8) (by kernel_rfl)
  have := run_make (P := Try.prog) W 44 3 i _ Try.underlying44 hi hz .i64 .i64 (n : Int) (n : Int) (by omega) (by omega) (by rw [hb]; omega) (by omega)
  rw [this, hs]
  simp only [Int.toNat_natCast]
  rfl
theorem srcI_zeros {W : World} {b n : Nat} (h : W.heap[b]? = some (.cells (Zc n) 3 (0, 0))) (hn : n ≤ 1024) : SrcI W (.slice (some ⟨b, 0, none⟩) n n) (List.replicate n 0) :=
  .inr ⟨⟨b, 0, none⟩, n, by simp, by simp, by simp only [maxLen]; omega, fun j hj => by
    rw [plain_add, Nat.zero_add, cells_cell h, Zc_get n j (by simpa using hj)]; simp⟩

theorem shape_len4 {a : List (List Int)} (h : shape a = S9) : a.length = 4 := by
  have := congrArg List.length h
  simpa [shape, S9] using this

set_option maxRecDepth 100000 in
set_option maxHeartbeats 4000000 in
theorem wrong_law {w : World} {lv : Value} {ls : List Sm} (hl : SrcS w lv ls) (n k : Int) (wy : Nat) (hwy : wy < 256) :
    Calls Try.prog 6 #[lv, .int .i64 n, .int .i64 k, .int .u8 (wy : Int)] w fun e w' => e = .returned (.bool true) ∧ Below w.heap.size w w' := by
  have FL := Hd.mk hl
  clear hl
  go_enter Try.func6, Try.ntmps6
  go_wp2_with fail
  refine (awake_any _).mono ?_
  rintro e w1 ⟨rfl, hB0⟩
  have HB0 := Hd.mk hB0
  clear hB0
  go_wp2_with fail
  refine (made_any _).mono ?_
  rintro e w2 ⟨M, p0, rfl, hm, hp, hB1⟩
  have HM0 := Hd.mk hm
  have FB0 := Hd.mk (Held.below (HB0.out.trans (hB1.mono HB0.out.size)) (fun k hk => hp k (Nat.lt_of_lt_of_le hk HB0.out.size)))
  have FL0 := Hd.mk (FB0.out.imp fun W hW => SrcS.below FL.out hW)
  clear hm hp hB1 HB0 FL
  go_wp2_with fail
  refine (do_any HM0.out rfl FL0.out true 0).mono ?_
  rintro e w1 ⟨rfl, hm, hs⟩
  have FB_2 := Hd.mk (FB0.out.step hs)
  have Fl_2 := Hd.mk (FL0.out.step hs)
  have HM2 := Hd.mk hm
  clear FB0 FL0 HM0
  clear hs hm
  clear Fl_2
  have HSH := Hd.mk (doV_sh (marks := true) (floor := 0) _ ls (show ShOk S9 ⟨[[0, 0], [0, 0, 0], [], [0, 0, 0, 0]], []⟩ from ⟨⟨by decide, by decide, by simp, by decide⟩, rfl⟩))
  generalize doV true 0 ⟨[[0, 0], [0, 0, 0], [], [0, 0, 0, 0]], []⟩ ls = st at *
  go_wp2_with fail
  obtain ⟨L0, hL0⟩ : ∃ L, st.now.flatten = L := ⟨_, rfl⟩
  obtain ⟨mk, hmk⟩ : ∃ m, st.marks.length = m := ⟨_, rfl⟩
  refine (x_all HM2.out hL0).mono ?_
  rintro e w3 ⟨a3, c3, p3, rfl, hm, hf, hs⟩
  have FNb03 := Hd.mk hf
  clear hf
  have FB_4 := Hd.mk (FB_2.out.step hs)
  have HM4 := Hd.mk hm
  clear FB_2 HM2
  clear hs hm
  have HXM := x_marks HM4.out
  rw [hmk] at HXM
  go_wp2_with fail
  refine HXM.mono ?_
  rintro e w5 ⟨rfl, rfl⟩
  clear HXM
  obtain ⟨mn, hmn⟩ : ∃ m, min n 0 = m := ⟨_, rfl⟩
  obtain ⟨mx, hmx⟩ : ∃ m, max n 5 = m := ⟨_, rfl⟩
  have mn0 : mn < 1 := by omega
  have mx5 : 4 < mx := by omega
  go_wp2_with fail
  obtain ⟨A5, hW⟩ : ∃ W, (w3.alloc (.cells #[.int .i64 mn, .int .i64 mx] 3)) = W := ⟨_, rfl⟩
  obtain ⟨p5, hm, hf, hs⟩ := lit_box HM4.out (.cells #[.int .i64 mn, .int .i64 mx] 3)
  rw [hW] at hm hf hs
  rw [hW]
  clear hW
  have FNlit15 := Hd.mk hf
  clear hf
  have FB_6 := Hd.mk (FB_4.out.step hs)
  have Fb0_6 := Hd.mk (FNb03.out.step hs)
  have HM6 := Hd.mk hm
  clear FB_4 FNb03 HM4
  clear hs hm
  go_loopw [54] (fun i W => ∃ j : Nat, j ≤ 2 ∧ i = .int .i64 j ∧ Hd (MemAt W p5 M st) ∧ Hd (Step p5 A5 p5 W)) (fun i _ => 2 - (intOf i).toNat)
  case atStart => exact ⟨0, by omega, rfl, ⟨HM6.out⟩, ⟨Step.refl _ _⟩⟩
  case round =>
    obtain ⟨j, hj, rfl, HMR, HSR⟩ := hrel
    have FBX := Hd.mk (FNlit15.out.step HSR.out)
    have hj3 : j = 0 ∨ j = 1 ∨ j = 2 := by omega
    rcases hj3 with rfl | rfl | rfl
    · have hbx0 := FBX.out.now
      have hx := cells_cell hbx0 0
      clear hbx0
      simp only [List.getElem?_toArray, List.getElem?_cons_zero] at hx
      have HSX : Hd (Held p5 wr (fun W => Held p5 wr (fun _ => True))) := ⟨fun _ _ _ _ => trivial⟩
      have HS0 := HSR
      have hE : ldE st.now mn 0 = 211 := ld_under HSH.out.2 _ _ (by simp only [S9, List.length_cons, List.length_nil]; omega)
      have hV : ldV st.now mn 0 = 0 := ld_bad (by rw [hE]; decide)
      have hT : storeS st mn 0 1 = st := storeS_bad (by rw [hE]; decide)
      have hN : mn < 1 ∨ (st.now.length : Int) < mn := by rw [show st.now.length = 4 from shape_len4 HSH.out.2]; omega
      go_wp2_with fail
      refine (y_load HMR.out hV hE).mono ?_
      rintro e w7 ⟨rfl, rfl⟩
      go_wp2_with fail
      refine (y_store HMR.out (v := 1) hV hE hT).mono ?_
      rintro e w8 ⟨rfl, hm, hs⟩
      have HM8 := Hd.mk hm
      have HS8 := Hd.mk (HS0.out.trans hs)
      clear hm hs HMR HS0
      go_wp2_with fail
      refine (x_norow HM8.out mn hN).mono ?_
      rintro e w9 ⟨v9, rfl, hm, hs⟩
      have HM9 := Hd.mk hm
      have HS9 := Hd.mk (HS8.out.trans hs)
      clear hm hs HM8 HS8
      clear hE hV hT hN
      go_wp2_with fail
      go_roundw
      case rel => exact ⟨1, by omega, rfl, HM9, HS9⟩
      case measure => simp [intOf]
    · have hbx0 := FBX.out.now
      have hx := cells_cell hbx0 1
      clear hbx0
      simp only [List.getElem?_toArray, List.getElem?_cons_zero, List.getElem?_cons_succ] at hx
      have HSX : Hd (Held p5 wr (fun W => Held p5 wr (fun _ => True))) := ⟨fun _ _ _ _ => trivial⟩
      have HS0 := HSR
      have hE : ldE st.now mx 0 = 211 := ld_under HSH.out.2 _ _ (by simp only [S9, List.length_cons, List.length_nil]; omega)
      have hV : ldV st.now mx 0 = 0 := ld_bad (by rw [hE]; decide)
      have hT : storeS st mx 0 1 = st := storeS_bad (by rw [hE]; decide)
      have hN : mx < 1 ∨ (st.now.length : Int) < mx := by rw [show st.now.length = 4 from shape_len4 HSH.out.2]; omega
      go_wp2_with fail
      refine (y_load HMR.out hV hE).mono ?_
      rintro e w7 ⟨rfl, rfl⟩
      go_wp2_with fail
      refine (y_store HMR.out (v := 1) hV hE hT).mono ?_
      rintro e w8 ⟨rfl, hm, hs⟩
      have HM8 := Hd.mk hm
      have HS8 := Hd.mk (HS0.out.trans hs)
      clear hm hs HMR HS0
      go_wp2_with fail
      refine (x_norow HM8.out mx hN).mono ?_
      rintro e w9 ⟨v9, rfl, hm, hs⟩
      have HM9 := Hd.mk hm
      have HS9 := Hd.mk (HS8.out.trans hs)
      clear hm hs HM8 HS8
      clear hE hV hT hN
      go_wp2_with fail
      go_roundw
      case rel => exact ⟨2, by omega, rfl, HM9, HS9⟩
      case measure => simp [intOf]
    · have HMZ := HMR
      have HSZ := HSR
      clear HMR HSR FBX
      have FZB6 := Hd.mk (FB_6.out.step HSZ.out)
      have FZb06 := Hd.mk (Fb0_6.out.step HSZ.out)
      clear FB_6 Fb0_6 FNlit15 HM6
      have HMq7 := HMZ
      clear HMZ HSZ
      obtain ⟨kn, hkn⟩ : ∃ m, min k (-1) = m := ⟨_, rfl⟩
      obtain ⟨kx, hkx⟩ : ∃ m, max k 4 = m := ⟨_, rfl⟩
      have kn0 : kn < 0 := by omega
      have kx4 : 4 ≤ kx := by omega
      obtain ⟨r, hr⟩ : ∃ r, wy % 4 = r := ⟨_, rfl⟩
      have r1 : Int.tmod (wy : Int) 4 = (r : Int) := by rw [Int.tmod_eq_emod_of_nonneg (by omega)]; omega
      have r2 : (wy : Int) % 4 = (r : Int) := by omega
      have r3 : r < 4 := by omega
      obtain ⟨oo, ho⟩ : ∃ o : Int, 1 + (r : Int) = o := ⟨_, rfl⟩
      have q0 : IntKind.i64.wrap (r : Int) = (r : Int) := IntWalk.i64_in _ ⟨by omega, by omega⟩
      have q1 : IntKind.i64.wrap (1 + (r : Int)) = oo := by rw [ho]; exact IntWalk.i64_in _ ⟨by omega, by omega⟩
      have q2 : IntKind.u8.wrap (r : Int) = (r : Int) := by unfold IntKind.wrap; simp [IntKind.bits]; omega
      have HO : Hd (oo = (r : Int) + 1) := ⟨by omega⟩
      clear hr
      go_wp2_with fail
      obtain ⟨A8, hW⟩ : ∃ W, (wr.alloc (.cells #[.int .i64 kn, .int .i64 kx] 3)) = W := ⟨_, rfl⟩
      obtain ⟨p8, hm, hf, hs⟩ := lit_box HMq7.out (.cells #[.int .i64 kn, .int .i64 kx] 3)
      rw [hW] at hm hf hs
      rw [hW]
      clear hW
      have FNlit28 := Hd.mk hf
      clear hf
      have FB_9 := Hd.mk (FZB6.out.step hs)
      have Fb0_9 := Hd.mk (FZb06.out.step hs)
      have HM9 := Hd.mk hm
      clear FZB6 FZb06 HMq7
      clear hs hm
      go_loopw [93] (fun i W => ∃ j : Nat, j ≤ 2 ∧ i = .int .i64 j ∧ Hd (MemAt W p8 M st) ∧ Hd (Step p8 A8 p8 W)) (fun i _ => 2 - (intOf i).toNat)
      case atStart => exact ⟨0, by omega, rfl, ⟨HM9.out⟩, ⟨Step.refl _ _⟩⟩
      case round =>
        obtain ⟨j, hj, rfl, HMR, HSR⟩ := hrel
        have FBX := Hd.mk (FNlit28.out.step HSR.out)
        have hj3 : j = 0 ∨ j = 1 ∨ j = 2 := by omega
        rcases hj3 with rfl | rfl | rfl
        · have hbx0 := FBX.out.now
          have hx := cells_cell hbx0 0
          clear hbx0
          simp only [List.getElem?_toArray, List.getElem?_cons_zero] at hx
          have HSX : Hd (Held p8 wr (fun W => Held p8 wr (fun _ => True))) := ⟨fun _ _ _ _ => trivial⟩
          have HS0 := HSR
          have hE : ldE st.now oo kn = 212 := by rw [HO.out]; exact ld_out HSH.out.2 r r3 _ (by omega)
          have hV : ldV st.now oo kn = 0 := ld_bad (by rw [hE]; decide)
          have hT : storeS st oo kn 1 = st := storeS_bad (by rw [hE]; decide)
          go_wp2_with fail
          refine (y_load HMR.out hV hE).mono ?_
          rintro e w10 ⟨rfl, rfl⟩
          go_wp2_with fail
          refine (y_store HMR.out (v := 1) hV hE hT).mono ?_
          rintro e w11 ⟨rfl, hm, hs⟩
          have HM11 := Hd.mk hm
          have HS11 := Hd.mk (HS0.out.trans hs)
          clear hm hs HMR HS0
          go_wp2_with fail
          go_roundw
          case rel => exact ⟨_, _, _, _, _, _, _, _, _, _, _, _, _, _, _, _, _, _, _, _, _, _, _, _, _, _, _, _, _, _, _, _, _, _, _, _, _, ⟨1, by omega, rfl, HM11, HS11⟩, rfl⟩
          case measure => simp [intOf]
        · have hbx0 := FBX.out.now
          have hx := cells_cell hbx0 1
          clear hbx0
          simp only [List.getElem?_toArray, List.getElem?_cons_zero, List.getElem?_cons_succ] at hx
          have HSX : Hd (Held p8 wr (fun W => Held p8 wr (fun _ => True))) := ⟨fun _ _ _ _ => trivial⟩
          have HS0 := HSR
          have hE : ldE st.now oo kx = 212 := by rw [HO.out]; exact ld_out HSH.out.2 r r3 _ (by omega)
          have hV : ldV st.now oo kx = 0 := ld_bad (by rw [hE]; decide)
          have hT : storeS st oo kx 1 = st := storeS_bad (by rw [hE]; decide)
          go_wp2_with fail
          refine (y_load HMR.out hV hE).mono ?_
          rintro e w10 ⟨rfl, rfl⟩
          go_wp2_with fail
          refine (y_store HMR.out (v := 1) hV hE hT).mono ?_
          rintro e w11 ⟨rfl, hm, hs⟩
          have HM11 := Hd.mk hm
          have HS11 := Hd.mk (HS0.out.trans hs)
          clear hm hs HMR HS0
          go_wp2_with fail
          go_roundw
          case rel => exact ⟨_, _, _, _, _, _, _, _, _, _, _, _, _, _, _, _, _, _, _, _, _, _, _, _, _, _, _, _, _, _, _, _, _, _, _, _, _, ⟨2, by omega, rfl, HM11, HS11⟩, rfl⟩
          case measure => simp [intOf]
        · have HMZ := HMR
          have HSZ := HSR
          clear HMR HSR FBX
          have FZB9 := Hd.mk (FB_9.out.step HSZ.out)
          have FZb09 := Hd.mk (Fb0_9.out.step HSZ.out)
          clear FB_9 Fb0_9 FNlit28 HM9
          have HMq10 := HMZ
          clear HMZ HSZ
          obtain ⟨nn, hnn⟩ : ∃ m, min n (-1) = m := ⟨_, rfl⟩
          obtain ⟨nx, hnx⟩ : ∃ m, max n 1025 = m := ⟨_, rfl⟩
          have nn0 : nn < 0 := by omega
          have nx0 : 1024 < nx := by omega
          have hr4 : r = 0 ∨ r = 1 ∨ r = 2 ∨ r = 3 := by omega
          rcases hr4 with rfl | rfl | rfl | rfl
          · have r1b : Int.tmod (wy : Int) 4 = 0 := r1
            have r2b : (wy : Int) % 4 = 0 := r2
            clear r1 r2 q0 q1 q2 r3 ho HO
            have hmk17 : ∀ W : World, (Instr.makeSlice 44 (.int .i64 17) (.int .i64 17)).run Try.prog W = .ok (.slice (some ⟨W.heap.size, 0, none⟩) 17 17) (W.alloc (.cells (Zc 17) 3)) := fun W => make44 W 17 (by omega)
            go_wp2_with fail
            obtain ⟨hb0, hb1, hb2, hb3, _⟩ := alloc5 wr (.cells #[.int .i64 1, .int .i64 nn] 3) (.cells #[.int .i64 nx] 3) (.cells #[.int .i64 1024, .int .i64 1] 3) (.cells (Zc 17) 3) (.cells #[.slice (some ⟨wr.heap.size, 0, none⟩) 2 2, .slice (some ⟨wr.heap.size + 1, 0, none⟩) 1 1, .slice (some ⟨wr.heap.size + 1 + 1, 0, none⟩) 2 2, .slice (some ⟨wr.heap.size + 1 + 1 + 1, 0, none⟩) 17 17] 44)
            have hBx := bl_alloc (o := .cells #[.slice (some ⟨wr.heap.size, 0, none⟩) 2 2, .slice (some ⟨wr.heap.size + 1, 0, none⟩) 1 1, .slice (some ⟨wr.heap.size + 1 + 1, 0, none⟩) 2 2, .slice (some ⟨wr.heap.size + 1 + 1 + 1, 0, none⟩) 17 17] 44) (bl_alloc (o := .cells (Zc 17) 3) (bl_alloc (o := .cells #[.int .i64 1024, .int .i64 1] 3) (bl_alloc (o := .cells #[.int .i64 nx] 3) (bl_alloc (o := .cells #[.int .i64 1, .int .i64 nn] 3) (Below.refl wr.heap.size wr)))))
            obtain ⟨wx, hW⟩ : ∃ W, (((((wr.alloc (.cells #[.int .i64 1, .int .i64 nn] 3)).alloc (.cells #[.int .i64 nx] 3)).alloc (.cells #[.int .i64 1024, .int .i64 1] 3)).alloc (.cells (Zc 17) 3)).alloc (.cells #[.slice (some ⟨wr.heap.size, 0, none⟩) 2 2, .slice (some ⟨wr.heap.size + 1, 0, none⟩) 1 1, .slice (some ⟨wr.heap.size + 1 + 1, 0, none⟩) 2 2, .slice (some ⟨wr.heap.size + 1 + 1 + 1, 0, none⟩) 17 17] 44)) = W := ⟨_, rfl⟩
            rw [hW] at hb0 hb1 hb2 hb3 hBx ⊢
            clear hW hmk17
            have hS := srcI_box3 hb0 [1, nn] rfl (by simp)
            clear hb0 hb1 hb2 hb3
            have hRV : rightV [1, nn] = false := by simp [rightV, rightL]; omega
            obtain ⟨hm, hs⟩ := HMq10.out.below hBx
            have HSR := Hd.mk hS
            clear hS
            have FB_11 := Hd.mk (FZB9.out.step hs)
            have Fb0_11 := Hd.mk (FZb09.out.step hs)
            have HM11 := Hd.mk hm
            clear FZB9 FZb09 HMq10
            clear hs hm
            clear hBx
            refine (new_wrong _ [1, nn] _ HSR.out hRV).mono ?_
            rintro e wy1 ⟨rfl, hB⟩
            have HSR2 := Hd.mk (HSR.out.below hB)
            obtain ⟨hm, hs⟩ := HM11.out.below hB
            clear hB
            have FB_12 := Hd.mk (FB_11.out.step hs)
            have Fb0_12 := Hd.mk (Fb0_11.out.step hs)
            have HM12 := Hd.mk hm
            clear FB_11 Fb0_11 HM11
            clear hs hm
            go_wp2_with fail
            have HRA := right_any _ [1, nn] _ HSR2.out
            rw [hRV] at HRA
            refine HRA.mono ?_
            rintro e wy2 ⟨rfl, hB⟩
            obtain ⟨hm, hs⟩ := HM12.out.below hB
            clear hB hRV HRA HSR HSR2
            have FB_13 := Hd.mk (FB_12.out.step hs)
            have Fb0_13 := Hd.mk (Fb0_12.out.step hs)
            have HM13 := Hd.mk hm
            clear FB_12 Fb0_12 HM12
            clear hs hm
            go_wp2_with fail
            refine (x_all HM13.out hL0).mono ?_
            rintro e w14 ⟨a14, c14, p14, rfl, hm, hf, hs⟩
            have FNb114 := Hd.mk hf
            clear hf
            have FB_15 := Hd.mk (FB_13.out.step hs)
            have Fb0_15 := Hd.mk (Fb0_13.out.step hs)
            have HM15 := Hd.mk hm
            clear FB_13 Fb0_13 HM13
            clear hs hm
            go_wp2_with fail
            refine (equal_at28 (l := L0) (m := L0) (b := true) (decide_eq_true rfl) (AppI.src FNb114.out.now) (AppI.src Fb0_15.out.now)).mono ?_
            rintro e w16 ⟨rfl, hB⟩
            obtain ⟨hm, hs⟩ := HM15.out.below hB
            clear hB
            have FB_17 := Hd.mk (FB_15.out.step hs)
            have Fb0_17 := Hd.mk (Fb0_15.out.step hs)
            have Fb1_17 := Hd.mk (FNb114.out.step hs)
            have HM17 := Hd.mk hm
            clear FB_15 Fb0_15 FNb114 HM15
            clear hs hm
            have HXM := x_marks HM17.out
            rw [hmk] at HXM
            go_wp2_with fail
            refine HXM.mono ?_
            rintro e wy3 ⟨rfl, rfl⟩
            clear HXM
            go_wp2_with fail
            go_ret
            exact ⟨rfl, FB_17.out.now⟩
          · have r1b : Int.tmod (wy : Int) 4 = 1 := r1
            have r2b : (wy : Int) % 4 = 1 := r2
            clear r1 r2 q0 q1 q2 r3 ho HO
            have hmk17 : ∀ W : World, (Instr.makeSlice 44 (.int .i64 17) (.int .i64 17)).run Try.prog W = .ok (.slice (some ⟨W.heap.size, 0, none⟩) 17 17) (W.alloc (.cells (Zc 17) 3)) := fun W => make44 W 17 (by omega)
            go_wp2_with fail
            obtain ⟨hb0, hb1, hb2, hb3, _⟩ := alloc5 wr (.cells #[.int .i64 1, .int .i64 nn] 3) (.cells #[.int .i64 nx] 3) (.cells #[.int .i64 1024, .int .i64 1] 3) (.cells (Zc 17) 3) (.cells #[.slice (some ⟨wr.heap.size, 0, none⟩) 2 2, .slice (some ⟨wr.heap.size + 1, 0, none⟩) 1 1, .slice (some ⟨wr.heap.size + 1 + 1, 0, none⟩) 2 2, .slice (some ⟨wr.heap.size + 1 + 1 + 1, 0, none⟩) 17 17] 44)
            have hBx := bl_alloc (o := .cells #[.slice (some ⟨wr.heap.size, 0, none⟩) 2 2, .slice (some ⟨wr.heap.size + 1, 0, none⟩) 1 1, .slice (some ⟨wr.heap.size + 1 + 1, 0, none⟩) 2 2, .slice (some ⟨wr.heap.size + 1 + 1 + 1, 0, none⟩) 17 17] 44) (bl_alloc (o := .cells (Zc 17) 3) (bl_alloc (o := .cells #[.int .i64 1024, .int .i64 1] 3) (bl_alloc (o := .cells #[.int .i64 nx] 3) (bl_alloc (o := .cells #[.int .i64 1, .int .i64 nn] 3) (Below.refl wr.heap.size wr)))))
            obtain ⟨wx, hW⟩ : ∃ W, (((((wr.alloc (.cells #[.int .i64 1, .int .i64 nn] 3)).alloc (.cells #[.int .i64 nx] 3)).alloc (.cells #[.int .i64 1024, .int .i64 1] 3)).alloc (.cells (Zc 17) 3)).alloc (.cells #[.slice (some ⟨wr.heap.size, 0, none⟩) 2 2, .slice (some ⟨wr.heap.size + 1, 0, none⟩) 1 1, .slice (some ⟨wr.heap.size + 1 + 1, 0, none⟩) 2 2, .slice (some ⟨wr.heap.size + 1 + 1 + 1, 0, none⟩) 17 17] 44)) = W := ⟨_, rfl⟩
            rw [hW] at hb0 hb1 hb2 hb3 hBx ⊢
            clear hW hmk17
            have hS := srcI_box3 hb1 [nx] rfl (by simp)
            clear hb0 hb1 hb2 hb3
            have hRV : rightV [nx] = false := by simp [rightV, rightL]; omega
            obtain ⟨hm, hs⟩ := HMq10.out.below hBx
            have HSR := Hd.mk hS
            clear hS
            have FB_11 := Hd.mk (FZB9.out.step hs)
            have Fb0_11 := Hd.mk (FZb09.out.step hs)
            have HM11 := Hd.mk hm
            clear FZB9 FZb09 HMq10
            clear hs hm
            clear hBx
            refine (new_wrong _ [nx] _ HSR.out hRV).mono ?_
            rintro e wy1 ⟨rfl, hB⟩
            have HSR2 := Hd.mk (HSR.out.below hB)
            obtain ⟨hm, hs⟩ := HM11.out.below hB
            clear hB
            have FB_12 := Hd.mk (FB_11.out.step hs)
            have Fb0_12 := Hd.mk (Fb0_11.out.step hs)
            have HM12 := Hd.mk hm
            clear FB_11 Fb0_11 HM11
            clear hs hm
            go_wp2_with fail
            have HRA := right_any _ [nx] _ HSR2.out
            rw [hRV] at HRA
            refine HRA.mono ?_
            rintro e wy2 ⟨rfl, hB⟩
            obtain ⟨hm, hs⟩ := HM12.out.below hB
            clear hB hRV HRA HSR HSR2
            have FB_13 := Hd.mk (FB_12.out.step hs)
            have Fb0_13 := Hd.mk (Fb0_12.out.step hs)
            have HM13 := Hd.mk hm
            clear FB_12 Fb0_12 HM12
            clear hs hm
            go_wp2_with fail
            refine (x_all HM13.out hL0).mono ?_
            rintro e w14 ⟨a14, c14, p14, rfl, hm, hf, hs⟩
            have FNb114 := Hd.mk hf
            clear hf
            have FB_15 := Hd.mk (FB_13.out.step hs)
            have Fb0_15 := Hd.mk (Fb0_13.out.step hs)
            have HM15 := Hd.mk hm
            clear FB_13 Fb0_13 HM13
            clear hs hm
            go_wp2_with fail
            refine (equal_at28 (l := L0) (m := L0) (b := true) (decide_eq_true rfl) (AppI.src FNb114.out.now) (AppI.src Fb0_15.out.now)).mono ?_
            rintro e w16 ⟨rfl, hB⟩
            obtain ⟨hm, hs⟩ := HM15.out.below hB
            clear hB
            have FB_17 := Hd.mk (FB_15.out.step hs)
            have Fb0_17 := Hd.mk (Fb0_15.out.step hs)
            have Fb1_17 := Hd.mk (FNb114.out.step hs)
            have HM17 := Hd.mk hm
            clear FB_15 Fb0_15 FNb114 HM15
            clear hs hm
            have HXM := x_marks HM17.out
            rw [hmk] at HXM
            go_wp2_with fail
            refine HXM.mono ?_
            rintro e wy3 ⟨rfl, rfl⟩
            clear HXM
            go_wp2_with fail
            go_ret
            exact ⟨rfl, FB_17.out.now⟩
          · have r1b : Int.tmod (wy : Int) 4 = 2 := r1
            have r2b : (wy : Int) % 4 = 2 := r2
            clear r1 r2 q0 q1 q2 r3 ho HO
            have hmk17 : ∀ W : World, (Instr.makeSlice 44 (.int .i64 17) (.int .i64 17)).run Try.prog W = .ok (.slice (some ⟨W.heap.size, 0, none⟩) 17 17) (W.alloc (.cells (Zc 17) 3)) := fun W => make44 W 17 (by omega)
            go_wp2_with fail
            obtain ⟨hb0, hb1, hb2, hb3, _⟩ := alloc5 wr (.cells #[.int .i64 1, .int .i64 nn] 3) (.cells #[.int .i64 nx] 3) (.cells #[.int .i64 1024, .int .i64 1] 3) (.cells (Zc 17) 3) (.cells #[.slice (some ⟨wr.heap.size, 0, none⟩) 2 2, .slice (some ⟨wr.heap.size + 1, 0, none⟩) 1 1, .slice (some ⟨wr.heap.size + 1 + 1, 0, none⟩) 2 2, .slice (some ⟨wr.heap.size + 1 + 1 + 1, 0, none⟩) 17 17] 44)
            have hBx := bl_alloc (o := .cells #[.slice (some ⟨wr.heap.size, 0, none⟩) 2 2, .slice (some ⟨wr.heap.size + 1, 0, none⟩) 1 1, .slice (some ⟨wr.heap.size + 1 + 1, 0, none⟩) 2 2, .slice (some ⟨wr.heap.size + 1 + 1 + 1, 0, none⟩) 17 17] 44) (bl_alloc (o := .cells (Zc 17) 3) (bl_alloc (o := .cells #[.int .i64 1024, .int .i64 1] 3) (bl_alloc (o := .cells #[.int .i64 nx] 3) (bl_alloc (o := .cells #[.int .i64 1, .int .i64 nn] 3) (Below.refl wr.heap.size wr)))))
            obtain ⟨wx, hW⟩ : ∃ W, (((((wr.alloc (.cells #[.int .i64 1, .int .i64 nn] 3)).alloc (.cells #[.int .i64 nx] 3)).alloc (.cells #[.int .i64 1024, .int .i64 1] 3)).alloc (.cells (Zc 17) 3)).alloc (.cells #[.slice (some ⟨wr.heap.size, 0, none⟩) 2 2, .slice (some ⟨wr.heap.size + 1, 0, none⟩) 1 1, .slice (some ⟨wr.heap.size + 1 + 1, 0, none⟩) 2 2, .slice (some ⟨wr.heap.size + 1 + 1 + 1, 0, none⟩) 17 17] 44)) = W := ⟨_, rfl⟩
            rw [hW] at hb0 hb1 hb2 hb3 hBx ⊢
            clear hW hmk17
            have hS := srcI_box3 hb2 [1024, 1] rfl (by simp)
            clear hb0 hb1 hb2 hb3
            have hRV : rightV [1024, 1] = false := by decide
            obtain ⟨hm, hs⟩ := HMq10.out.below hBx
            have HSR := Hd.mk hS
            clear hS
            have FB_11 := Hd.mk (FZB9.out.step hs)
            have Fb0_11 := Hd.mk (FZb09.out.step hs)
            have HM11 := Hd.mk hm
            clear FZB9 FZb09 HMq10
            clear hs hm
            clear hBx
            refine (new_wrong _ [1024, 1] _ HSR.out hRV).mono ?_
            rintro e wy1 ⟨rfl, hB⟩
            have HSR2 := Hd.mk (HSR.out.below hB)
            obtain ⟨hm, hs⟩ := HM11.out.below hB
            clear hB
            have FB_12 := Hd.mk (FB_11.out.step hs)
            have Fb0_12 := Hd.mk (Fb0_11.out.step hs)
            have HM12 := Hd.mk hm
            clear FB_11 Fb0_11 HM11
            clear hs hm
            go_wp2_with fail
            have HRA := right_any _ [1024, 1] _ HSR2.out
            rw [hRV] at HRA
            refine HRA.mono ?_
            rintro e wy2 ⟨rfl, hB⟩
            obtain ⟨hm, hs⟩ := HM12.out.below hB
            clear hB hRV HRA HSR HSR2
            have FB_13 := Hd.mk (FB_12.out.step hs)
            have Fb0_13 := Hd.mk (Fb0_12.out.step hs)
            have HM13 := Hd.mk hm
            clear FB_12 Fb0_12 HM12
            clear hs hm
            go_wp2_with fail
            refine (x_all HM13.out hL0).mono ?_
            rintro e w14 ⟨a14, c14, p14, rfl, hm, hf, hs⟩
            have FNb114 := Hd.mk hf
            clear hf
            have FB_15 := Hd.mk (FB_13.out.step hs)
            have Fb0_15 := Hd.mk (Fb0_13.out.step hs)
            have HM15 := Hd.mk hm
            clear FB_13 Fb0_13 HM13
            clear hs hm
            go_wp2_with fail
            refine (equal_at28 (l := L0) (m := L0) (b := true) (decide_eq_true rfl) (AppI.src FNb114.out.now) (AppI.src Fb0_15.out.now)).mono ?_
            rintro e w16 ⟨rfl, hB⟩
            obtain ⟨hm, hs⟩ := HM15.out.below hB
            clear hB
            have FB_17 := Hd.mk (FB_15.out.step hs)
            have Fb0_17 := Hd.mk (Fb0_15.out.step hs)
            have Fb1_17 := Hd.mk (FNb114.out.step hs)
            have HM17 := Hd.mk hm
            clear FB_15 Fb0_15 FNb114 HM15
            clear hs hm
            have HXM := x_marks HM17.out
            rw [hmk] at HXM
            go_wp2_with fail
            refine HXM.mono ?_
            rintro e wy3 ⟨rfl, rfl⟩
            clear HXM
            go_wp2_with fail
            go_ret
            exact ⟨rfl, FB_17.out.now⟩
          · have r1b : Int.tmod (wy : Int) 4 = 3 := r1
            have r2b : (wy : Int) % 4 = 3 := r2
            clear r1 r2 q0 q1 q2 r3 ho HO
            have hmk17 : ∀ W : World, (Instr.makeSlice 44 (.int .i64 17) (.int .i64 17)).run Try.prog W = .ok (.slice (some ⟨W.heap.size, 0, none⟩) 17 17) (W.alloc (.cells (Zc 17) 3)) := fun W => make44 W 17 (by omega)
            go_wp2_with fail
            obtain ⟨hb0, hb1, hb2, hb3, _⟩ := alloc5 wr (.cells #[.int .i64 1, .int .i64 nn] 3) (.cells #[.int .i64 nx] 3) (.cells #[.int .i64 1024, .int .i64 1] 3) (.cells (Zc 17) 3) (.cells #[.slice (some ⟨wr.heap.size, 0, none⟩) 2 2, .slice (some ⟨wr.heap.size + 1, 0, none⟩) 1 1, .slice (some ⟨wr.heap.size + 1 + 1, 0, none⟩) 2 2, .slice (some ⟨wr.heap.size + 1 + 1 + 1, 0, none⟩) 17 17] 44)
            have hBx := bl_alloc (o := .cells #[.slice (some ⟨wr.heap.size, 0, none⟩) 2 2, .slice (some ⟨wr.heap.size + 1, 0, none⟩) 1 1, .slice (some ⟨wr.heap.size + 1 + 1, 0, none⟩) 2 2, .slice (some ⟨wr.heap.size + 1 + 1 + 1, 0, none⟩) 17 17] 44) (bl_alloc (o := .cells (Zc 17) 3) (bl_alloc (o := .cells #[.int .i64 1024, .int .i64 1] 3) (bl_alloc (o := .cells #[.int .i64 nx] 3) (bl_alloc (o := .cells #[.int .i64 1, .int .i64 nn] 3) (Below.refl wr.heap.size wr)))))
            obtain ⟨wx, hW⟩ : ∃ W, (((((wr.alloc (.cells #[.int .i64 1, .int .i64 nn] 3)).alloc (.cells #[.int .i64 nx] 3)).alloc (.cells #[.int .i64 1024, .int .i64 1] 3)).alloc (.cells (Zc 17) 3)).alloc (.cells #[.slice (some ⟨wr.heap.size, 0, none⟩) 2 2, .slice (some ⟨wr.heap.size + 1, 0, none⟩) 1 1, .slice (some ⟨wr.heap.size + 1 + 1, 0, none⟩) 2 2, .slice (some ⟨wr.heap.size + 1 + 1 + 1, 0, none⟩) 17 17] 44)) = W := ⟨_, rfl⟩
            rw [hW] at hb0 hb1 hb2 hb3 hBx ⊢
            clear hW hmk17
            have hS := srcI_zeros hb3 (by omega)
            clear hb0 hb1 hb2 hb3
            have hRV : rightV (List.replicate 17 0) = false := by decide
            obtain ⟨hm, hs⟩ := HMq10.out.below hBx
            have HSR := Hd.mk hS
            clear hS
            have FB_11 := Hd.mk (FZB9.out.step hs)
            have Fb0_11 := Hd.mk (FZb09.out.step hs)
            have HM11 := Hd.mk hm
            clear FZB9 FZb09 HMq10
            clear hs hm
            clear hBx
            refine (new_wrong _ (List.replicate 17 0) _ HSR.out hRV).mono ?_
            rintro e wy1 ⟨rfl, hB⟩
            have HSR2 := Hd.mk (HSR.out.below hB)
            obtain ⟨hm, hs⟩ := HM11.out.below hB
            clear hB
            have FB_12 := Hd.mk (FB_11.out.step hs)
            have Fb0_12 := Hd.mk (Fb0_11.out.step hs)
            have HM12 := Hd.mk hm
            clear FB_11 Fb0_11 HM11
            clear hs hm
            go_wp2_with fail
            have HRA := right_any _ (List.replicate 17 0) _ HSR2.out
            rw [hRV] at HRA
            refine HRA.mono ?_
            rintro e wy2 ⟨rfl, hB⟩
            obtain ⟨hm, hs⟩ := HM12.out.below hB
            clear hB hRV HRA HSR HSR2
            have FB_13 := Hd.mk (FB_12.out.step hs)
            have Fb0_13 := Hd.mk (Fb0_12.out.step hs)
            have HM13 := Hd.mk hm
            clear FB_12 Fb0_12 HM12
            clear hs hm
            go_wp2_with fail
            refine (x_all HM13.out hL0).mono ?_
            rintro e w14 ⟨a14, c14, p14, rfl, hm, hf, hs⟩
            have FNb114 := Hd.mk hf
            clear hf
            have FB_15 := Hd.mk (FB_13.out.step hs)
            have Fb0_15 := Hd.mk (Fb0_13.out.step hs)
            have HM15 := Hd.mk hm
            clear FB_13 Fb0_13 HM13
            clear hs hm
            go_wp2_with fail
            refine (equal_at28 (l := L0) (m := L0) (b := true) (decide_eq_true rfl) (AppI.src FNb114.out.now) (AppI.src Fb0_15.out.now)).mono ?_
            rintro e w16 ⟨rfl, hB⟩
            obtain ⟨hm, hs⟩ := HM15.out.below hB
            clear hB
            have FB_17 := Hd.mk (FB_15.out.step hs)
            have Fb0_17 := Hd.mk (Fb0_15.out.step hs)
            have Fb1_17 := Hd.mk (FNb114.out.step hs)
            have HM17 := Hd.mk hm
            clear FB_15 Fb0_15 FNb114 HM15
            clear hs hm
            have HXM := x_marks HM17.out
            rw [hmk] at HXM
            go_wp2_with fail
            refine HXM.mono ?_
            rintro e wy3 ⟨rfl, rfl⟩
            clear HXM
            go_wp2_with fail
            go_ret
            exact ⟨rfl, FB_17.out.now⟩
end Go.Proofs.Ytnhkadknibinfaa
