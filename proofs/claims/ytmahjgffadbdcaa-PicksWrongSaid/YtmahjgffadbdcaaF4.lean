/- The law PicksWrong: its walk. -/
import Derived.Test.YtmahjgffadbdcaaF2P
namespace Go.Proofs.Ytmahjgffadbdcaa
open Go.RowKit
set_option linter.unusedVariables false

theorem ok_false {l : List Int} (h : okO l = false) : rightB l = false := by rw [rightB, h]; rfl
theorem okS_left {l m : List Int} (h : okO l = false) : okS l m = false := by rw [okS, h]; rfl
theorem okS_right {l m : List Int} (h : okO m = false) : okS l m = false := by rw [okS, h]; cases okO l <;> rfl
theorem set_bad {A : List Int} {k : Nat} (hk : k < A.length) {y : Int} (hy : ¬ (1 ≤ y ∧ y ≤ 16)) : okO (A.set k y) = false := by
  refine decide_eq_false fun h => hy (h.rng y ?_)
  exact List.mem_iff_getElem.2 ⟨k, by rw [List.length_set]; exact hk, by simp⟩
theorem set_dup {A : List Int} {k j : Nat} (hk : k < A.length) (hj : j < A.length) (hne : k ≠ j) : okO (A.set k A[j]) = false := by
  refine decide_eq_false fun h => ?_
  have hd := h.nd
  have hk' : k < (A.set k A[j]).length := by rw [List.length_set]; exact hk
  have hj' : j < (A.set k A[j]).length := by rw [List.length_set]; exact hj
  have e : (A.set k A[j])[k] = (A.set k A[j])[j] := by
    rw [List.getElem_set, List.getElem_set, if_pos rfl, if_neg hne]
  rcases Nat.lt_or_gt_of_ne hne with h1 | h1
  · exact List.pairwise_iff_getElem.1 hd k j hk' hj' h1 e
  · exact List.pairwise_iff_getElem.1 hd j k hj' hk' h1 e.symm
theorem ready_two (x : BitVec 16) : 2 ≤ (readyV (x ||| 5#16)).length := by
  have h1 : (1 : Int) ∈ readyV (x ||| 5#16) := by
    refine List.mem_filter.2 ⟨by decide, ?_⟩
    simp
  have h3 : (3 : Int) ∈ readyV (x ||| 5#16) := by
    refine List.mem_filter.2 ⟨by decide, ?_⟩
    simp
  generalize readyV (x ||| 5#16) = l at h1 h3
  match l, h1, h3 with
  | [], h1, _ => simp at h1
  | [a], h1, h3 => simp at h1 h3; omega
  | _ :: _ :: _, _, _ => simp
theorem rev_wrong {l : List Int} (ha : asc l) (hl : 2 ≤ l.length) : rightB l.reverse = false := by
  rw [rightB, Bool.and_eq_false_iff]
  right
  refine decide_eq_false fun h => ?_
  have h1 := List.pairwise_iff_getElem.1 ha 0 1 (by omega) (by omega) (by omega)
  have h2 := List.pairwise_reverse.1 h
  have h3 := List.pairwise_iff_getElem.1 h2 0 1 (by omega) (by omega) (by omega)
  omega
theorem tail_perm {l : List Int} (hl : 1 ≤ l.length) : okS l (l.drop 1) = false := by
  rw [okS, Bool.and_eq_false_iff]
  right
  refine decide_eq_false fun h => ?_
  have := h.length_eq
  rw [List.length_drop] at this; omega
theorem set_row {A : List Int} {k : Nat} (y : Int) (j : Nat) (hj : j < A.length) : (if j = k then y else A.getD j 0) = (A.set k y).getD j 0 := by
  rw [List.getD_eq_getElem?_getD, List.getD_eq_getElem?_getD, List.getElem?_set]
  by_cases e : k = j
  · rw [if_pos e, if_pos e.symm, if_pos (by omega)]; rfl
  · rw [if_neg e, if_neg (Ne.symm e)]
theorem right_at {l : List Int} {b : Bool} (hl : rightB l = b) {v : Value} {w : World} (h : SrcI w v l) : Calls Try.prog 28 #[v] w fun e w' => e = .returned (.bool b) ∧ Below w.heap.size w w' := by
  have := right_any v l w h
  rw [hl] at this; exact this

set_option maxRecDepth 100000 in
set_option maxHeartbeats 16000000 in
theorem wrong_law (x : BitVec 16) (lv : Value) (ls : List Int) (hw : Nat) (n : Int) (w : World) (hl : SrcE e8 w lv ls) (hlb : ∀ b ∈ ls, 0 ≤ b ∧ b ≤ 255) (hhw : hw ≤ 255) (hn1 : -9223372036854775808 ≤ n) (hn2 : n ≤ 9223372036854775807) :
    Calls Try.prog 9 #[h16 x, lv, .int .u8 (hw : Int), .int .i64 n] w fun e w' => e = .returned (.bool true) ∧ Below w.heap.size w w' := by
  have FL := Hd.mk hl
  have HLB := Hd.mk hlb
  have HA := Hd.mk (RM.of (x ||| 5#16) ls)
  have HR2 := Hd.mk (ready_two x)
  clear hl hlb
  have hor : ∀ W, (binOp .or 22 (h16 x) (.int .u16 5)).run Try.prog W = .ok (h16 (x ||| 5#16)) W := fun W => by rw [five16, bop16_or]; rfl
  go_enter Try.func9, Try.ntmps9
  go_wp2_with fail
  refine (ready_any _ _).mono ?_
  rintro e w1 ⟨v9, rfl, hO, hB⟩
  have FNr1 := Hd.mk (hO.src)
  have HB2 := Hd.mk hB
  have Fl_2 := Hd.mk (FL.out.below hB)
  clear FL
  clear hB hO
  go_wp2_with fail
  refine (mixed_any _ _ ls _ Fl_2.out HLB.out).mono ?_
  rintro e w3 ⟨v10, rfl, hO, hB⟩
  have FNa3 := Hd.mk (hO.src)
  have HB4 := Hd.mk (ch4 HB2.out hB)
  have Fl_4 := Hd.mk (Fl_2.out.below hB)
  have Fr_4 := Hd.mk (FNr1.out.below hB)
  clear HB2 Fl_2 FNr1
  clear hB hO
  clear Fl_4
  clear hor
  generalize mixedV (x ||| 5#16) ls = A at *
  generalize readyV (x ||| 5#16) = R at *
  generalize x ||| 5#16 = x5 at *
  have hlen := HA.out.ok.len
  have hA2 : 2 ≤ A.length := by have := HA.out.len; have := HR2.out; omega
  have hA16 : A.length ≤ 16 := by have := HA.out.len; omega
  have hRl : R.length = A.length := HA.out.len.symm
  have HLEN := Hd.mk hRl
  obtain ⟨b1, f1, c1, rfl⟩ : ∃ b f c, v9 = .slice (some ⟨b, f, none⟩) A.length c := by
    rw [← hRl]
    obtain ⟨a, c, rfl⟩ := Fr_4.out.shape
    obtain ⟨b, f, rfl, _⟩ := Fr_4.out.at 0 (by omega)
    exact ⟨b, f, c, rfl⟩
  clear hRl
  go_wp2_with fail
  refine (clone_any _ A _ FNa3.out (by omega)).mono ?_
  rintro e wa ⟨v11, rfl, hO, hBa⟩
  obtain ⟨g, cap, rfl, hbg, hR, hc1, hc2⟩ := hO.row (by omega)
  obtain ⟨k, hk⟩ : ∃ k, hw / 4 % A.length = k := ⟨_, rfl⟩
  have hkl : k < A.length := by rw [← hk]; exact Nat.mod_lt _ (by omega)
  have hkr : (hw : Int) / 4 % (A.length : Int) = (k : Int) := by rw [← hk]; rfl
  obtain ⟨j, hj⟩ : ∃ j, (k + 1) % A.length = j := ⟨_, rfl⟩
  have hjl : j < A.length := by rw [← hj]; exact Nat.mod_lt _ (by omega)
  have hjr : ((k : Int) + 1) % (A.length : Int) = (j : Int) := by rw [← hj]; rfl
  have hjk : k ≠ j := by
    rcases Nat.lt_or_ge (k + 1) A.length with h | h
    · rw [← hj, Nat.mod_eq_of_lt h]; omega
    · have h2 : k + 1 = A.length := by omega
      rw [← hj, h2, Nat.mod_self]; omega
  have ck := hR.cell k hkl
  have cj := hR.cell j hjl
  have fk := hR.free k
  have HROW := Hd.mk hR
  have HBa := Hd.mk hBa
  have HC2 := Hd.mk (And.intro hc1 hc2)
  have HBG := Hd.mk hbg
  have HSD := Hd.mk (set_dup hkl hjl hjk)
  have HSB := Hd.mk (fun (y : Int) (h : ¬ (1 ≤ y ∧ y ≤ 16)) => set_bad hkl h)
  have cj2 : wa.cell? ⟨g, j, none⟩ = some (.int .i64 A[j]) := by rw [cj]; simp only [getD_get hjl]
  generalize A.getD k 0 = yk at ck
  generalize A[j] = yj at HSD cj2
  clear hO hR hBa hc2 hbg hk hj cj hjk
  have k0 : (0 : Int) ≤ (k : Int) := by omega
  have k1 : (k : Int) < (A.length : Int) := by omega
  have j0 : (0 : Int) ≤ (j : Int) := by omega
  have j1 : (j : Int) < (A.length : Int) := by omega
  have hend : ∃ y : Int, Hd (okO (A.set k y) = false) ∧ ((hw % 4 = 0 ∧ min n 0 = y) ∨ (hw % 4 = 1 ∧ max n 17 = y) ∨ (2 ≤ hw % 4 ∧ yj = y)) := by
    rcases (by omega : hw % 4 = 0 ∨ hw % 4 = 1 ∨ 2 ≤ hw % 4) with h | h | h
    · exact ⟨min n 0, ⟨HSB.out _ (by omega)⟩, .inl ⟨h, rfl⟩⟩
    · exact ⟨max n 17, ⟨HSB.out _ (by omega)⟩, .inr (.inl ⟨h, rfl⟩)⟩
    · exact ⟨yj, HSD, .inr (.inr ⟨h, rfl⟩)⟩
  obtain ⟨y, HY, hways⟩ := hend
  clear HSB HSD
  obtain ⟨c4, hc4⟩ : ∃ c, hw % 4 = c := ⟨_, rfl⟩
  have hmod : (hw : Int) % 4 = (c4 : Int) := by omega
  rw [hc4] at hways
  clear hc4
  rcases hways with ⟨rfl, hy⟩ | ⟨rfl, hy⟩ | ⟨hc4, hy⟩
  all_goals
    try have hd0 : decide ((c4 : Int) = 0) = false := decide_eq_false (by omega)
    try have hd1 : decide ((c4 : Int) = 1) = false := decide_eq_false (by omega)
    go_wp2_with fail
    obtain ⟨W5, hW5⟩ : ∃ W, wa.setCell ⟨g, k, none⟩ (.int .i64 y) = W := ⟨_, rfl⟩
    have hX : Below w3.heap.size w3 W5 := by rw [← hW5]; exact HBa.out.setCell HBG.out _
    have hFD : SrcI W5 (.slice (some ⟨g, 0, none⟩) A.length cap) (A.set k y) := by rw [← hW5]; exact ((HROW.out.set k hkl y).own (base := 0) (by simp) (fun j hj => set_row y j hj) (Nat.zero_le _) HC2.out.1 HC2.out.2).src
    rw [hW5]
    have FD := Hd.mk hFD
    clear hW5 hFD HBa HROW ck cj2 fk
    try clear hd0 hd1
    try clear hmod
    try clear hy
    clear k0 k1 j0 j1
    have HB5 := Hd.mk (ch4 HB4.out hX)
    have Fr_5 := Hd.mk (Fr_4.out.below hX)
    have Fa_5 := Hd.mk (FNa3.out.below hX)
    clear HB4 Fr_4 FNa3
    clear hX
    have hDl : (A.set k y).length = A.length := by simp
    have HNL : Hd (SrcI W5 (.slice none 0 0) []) := ⟨SrcI.nil _⟩
    generalize A.set k y = D at *
    have HDL := Hd.mk hDl
    clear hDl
    refine (for_bad HY.out FD.out).mono ?_
    rintro e w6 ⟨v13, rfl, -, hB⟩
    have HB7 := Hd.mk (ch4 HB5.out hB)
    have Fr_7 := Hd.mk (Fr_5.out.below hB)
    have Fa_7 := Hd.mk (Fa_5.out.below hB)
    have Fd_7 := Hd.mk (FD.out.below hB)
    have Fz_7 := Hd.mk (HNL.out.below hB)
    clear HB5 Fr_5 Fa_5 FD HNL
    clear hB
    go_wp2_with fail
    refine (rank_bad HY.out Fd_7.out).mono ?_
    rintro e w8 ⟨rfl, hB⟩
    have HB9 := Hd.mk (ch4 HB7.out hB)
    have Fr_9 := Hd.mk (Fr_7.out.below hB)
    have Fa_9 := Hd.mk (Fa_7.out.below hB)
    have Fd_9 := Hd.mk (Fd_7.out.below hB)
    have Fz_9 := Hd.mk (Fz_7.out.below hB)
    clear HB7 Fr_7 Fa_7 Fd_7 Fz_7
    clear hB
    go_wp2_with fail
    refine (next_bad HY.out Fd_9.out).mono ?_
    rintro e w10 ⟨v17, rfl, -, hB⟩
    have HB11 := Hd.mk (ch4 HB9.out hB)
    have Fr_11 := Hd.mk (Fr_9.out.below hB)
    have Fa_11 := Hd.mk (Fa_9.out.below hB)
    have Fd_11 := Hd.mk (Fd_9.out.below hB)
    have Fz_11 := Hd.mk (Fz_9.out.below hB)
    clear HB9 Fr_9 Fa_9 Fd_9 Fz_9
    clear hB
    go_wp2_with fail
    refine (swaps_bad (okS_left HY.out) Fd_11.out Fa_11.out).mono ?_
    rintro e w12 ⟨rfl, hB⟩
    have HB13 := Hd.mk (ch4 HB11.out hB)
    have Fr_13 := Hd.mk (Fr_11.out.below hB)
    have Fa_13 := Hd.mk (Fa_11.out.below hB)
    have Fd_13 := Hd.mk (Fd_11.out.below hB)
    have Fz_13 := Hd.mk (Fz_11.out.below hB)
    clear HB11 Fr_11 Fa_11 Fd_11 Fz_11
    clear hB
    go_wp2_with fail
    refine (swaps_bad (okS_right HY.out) Fa_13.out Fd_13.out).mono ?_
    rintro e w14 ⟨rfl, hB⟩
    have HB15 := Hd.mk (ch4 HB13.out hB)
    have Fr_15 := Hd.mk (Fr_13.out.below hB)
    have Fa_15 := Hd.mk (Fa_13.out.below hB)
    have Fd_15 := Hd.mk (Fd_13.out.below hB)
    have Fz_15 := Hd.mk (Fz_13.out.below hB)
    clear HB13 Fr_13 Fa_13 Fd_13 Fz_13
    clear hB
    go_wp2_with fail
    refine (nth_bad _ D 0 _ Fd_15.out (by rw [ok_false HY.out]; simp)).mono ?_
    rintro e w16 ⟨rfl, hB⟩
    have HB17 := Hd.mk (ch4 HB15.out hB)
    have Fr_17 := Hd.mk (Fr_15.out.below hB)
    have Fa_17 := Hd.mk (Fa_15.out.below hB)
    have Fd_17 := Hd.mk (Fd_15.out.below hB)
    have Fz_17 := Hd.mk (Fz_15.out.below hB)
    clear HB15 Fr_15 Fa_15 Fd_15 Fz_15
    clear hB
    go_wp2_with fail
    obtain ⟨nn, hnn⟩ : ∃ m, min n (-1) = m := ⟨_, rfl⟩
    have hnn0 : nn < 0 := by omega
    refine (order_bad (ok_false HY.out) Fd_17.out Fz_17.out).mono ?_
    rintro e w18 ⟨rfl, hB⟩
    have HB19 := Hd.mk (ch4 HB17.out hB)
    have Fr_19 := Hd.mk (Fr_17.out.below hB)
    have Fa_19 := Hd.mk (Fa_17.out.below hB)
    have Fd_19 := Hd.mk (Fd_17.out.below hB)
    have Fz_19 := Hd.mk (Fz_17.out.below hB)
    clear HB17 Fr_17 Fa_17 Fd_17 Fz_17
    clear hB
    go_wp2_with fail
    have hcc := Fr_19.out.cap.2.1
    have hc11 : ¬ c1 = 1 := by omega
    have hc12 : (1 : Int) ≤ (c1 : Int) := by omega
    refine (nth_bad _ R nn _ Fr_19.out (by omega)).mono ?_
    rintro e w20 ⟨rfl, hB⟩
    have HB21 := Hd.mk (ch4 HB19.out hB)
    have Fr_21 := Hd.mk (Fr_19.out.below hB)
    have Fa_21 := Hd.mk (Fa_19.out.below hB)
    have Fd_21 := Hd.mk (Fd_19.out.below hB)
    have Fz_21 := Hd.mk (Fz_19.out.below hB)
    clear HB19 Fr_19 Fa_19 Fd_19 Fz_19
    clear hB
    go_wp2_with fail
    have FT := Hd.mk (by have h := Fr_21.out.drop 1 (by have := HLEN.out; omega); rw [HLEN.out] at h; exact h : SrcI w20 (.slice (some ⟨b1, f1 + 1, none⟩) (A.length - 1) (c1 - 1)) (R.drop 1))
    refine (swaps_bad (tail_perm (by have := HLEN.out; omega)) Fr_21.out FT.out).mono ?_
    rintro e w22 ⟨rfl, hB⟩
    have HB23 := Hd.mk (ch4 HB21.out hB)
    have Fr_23 := Hd.mk (Fr_21.out.below hB)
    have Fa_23 := Hd.mk (Fa_21.out.below hB)
    have Fd_23 := Hd.mk (Fd_21.out.below hB)
    have Fz_23 := Hd.mk (Fz_21.out.below hB)
    have Ft_23 := Hd.mk (FT.out.below hB)
    clear HB21 Fr_21 Fa_21 Fd_21 Fz_21 FT
    clear hB
    go_wp2_with fail
    clear Ft_23
    refine (clone_any _ R _ Fr_23.out (by omega)).mono ?_
    rintro e wc ⟨v33, rfl, hO, hBa⟩
    have HO := Hd.mk hO
    have HBa := Hd.mk hBa
    clear hO hBa
    go_wp2_with fail
    refine (reverse_own HO.out (by omega) HBa.out.size).mono ?_
    rintro e wd ⟨⟨xv, rfl⟩, hO2, hBb⟩
    have hX := HBa.out.trans hBb
    have FsQ := Hd.mk hO2.src
    have HB24 := Hd.mk (ch4 HB23.out hX)
    have Fr_24 := Hd.mk (Fr_23.out.below hX)
    have Fa_24 := Hd.mk (Fa_23.out.below hX)
    have Fd_24 := Hd.mk (Fd_23.out.below hX)
    have Fz_24 := Hd.mk (Fz_23.out.below hX)
    clear HB23 Fr_23 Fa_23 Fd_23 Fz_23
    clear hX hO2 hBb
    have HRV := Hd.mk (rev_wrong HA.out.asc (by have := HLEN.out; omega))
    go_wp2_with fail
    refine (nth_bad _ R.reverse 0 _ FsQ.out (by rw [HRV.out]; simp)).mono ?_
    rintro e w25 ⟨rfl, hB⟩
    have HB26 := Hd.mk (ch4 HB24.out hB)
    have Fr_26 := Hd.mk (Fr_24.out.below hB)
    have Fa_26 := Hd.mk (Fa_24.out.below hB)
    have Fd_26 := Hd.mk (Fd_24.out.below hB)
    have Fz_26 := Hd.mk (Fz_24.out.below hB)
    have Fs_26 := Hd.mk (FsQ.out.below hB)
    clear HB24 Fr_24 Fa_24 Fd_24 Fz_24 FsQ
    clear hB
    go_wp2_with fail
    refine (order_bad HRV.out Fs_26.out Fz_26.out).mono ?_
    rintro e w27 ⟨rfl, hB⟩
    have HB28 := Hd.mk (ch4 HB26.out hB)
    have Fr_28 := Hd.mk (Fr_26.out.below hB)
    have Fa_28 := Hd.mk (Fa_26.out.below hB)
    have Fd_28 := Hd.mk (Fd_26.out.below hB)
    have Fz_28 := Hd.mk (Fz_26.out.below hB)
    have Fs_28 := Hd.mk (Fs_26.out.below hB)
    clear HB26 Fr_26 Fa_26 Fd_26 Fz_26 Fs_26
    clear hB
    go_wp2_with fail
    refine (right_at (b := false) (ok_false HY.out) Fd_28.out).mono ?_
    rintro e w29 ⟨rfl, hB⟩
    have HB30 := Hd.mk (ch4 HB28.out hB)
    have Fr_30 := Hd.mk (Fr_28.out.below hB)
    have Fa_30 := Hd.mk (Fa_28.out.below hB)
    have Fd_30 := Hd.mk (Fd_28.out.below hB)
    have Fz_30 := Hd.mk (Fz_28.out.below hB)
    have Fs_30 := Hd.mk (Fs_28.out.below hB)
    clear HB28 Fr_28 Fa_28 Fd_28 Fz_28 Fs_28
    clear hB
    go_wp2_with fail
    refine (right_at (b := false) HRV.out Fs_30.out).mono ?_
    rintro e w31 ⟨rfl, hB⟩
    have HB32 := Hd.mk (ch4 HB30.out hB)
    have Fr_32 := Hd.mk (Fr_30.out.below hB)
    have Fa_32 := Hd.mk (Fa_30.out.below hB)
    have Fd_32 := Hd.mk (Fd_30.out.below hB)
    have Fz_32 := Hd.mk (Fz_30.out.below hB)
    have Fs_32 := Hd.mk (Fs_30.out.below hB)
    clear HB30 Fr_30 Fa_30 Fd_30 Fz_30 Fs_30
    clear hB
    go_wp2_with fail
    refine (right_at (b := true) HA.out.right Fr_32.out).mono ?_
    rintro e w33 ⟨rfl, hB⟩
    have HB34 := Hd.mk (ch4 HB32.out hB)
    have Fr_34 := Hd.mk (Fr_32.out.below hB)
    have Fa_34 := Hd.mk (Fa_32.out.below hB)
    have Fd_34 := Hd.mk (Fd_32.out.below hB)
    have Fz_34 := Hd.mk (Fz_32.out.below hB)
    have Fs_34 := Hd.mk (Fs_32.out.below hB)
    clear HB32 Fr_32 Fa_32 Fd_32 Fz_32 Fs_32
    clear hB
    go_wp2_with fail
    refine (awake_any _).mono ?_
    rintro e w35 ⟨rfl, hB⟩
    have HB36 := Hd.mk (ch4 HB34.out hB)
    have Fr_36 := Hd.mk (Fr_34.out.below hB)
    have Fa_36 := Hd.mk (Fa_34.out.below hB)
    have Fd_36 := Hd.mk (Fd_34.out.below hB)
    have Fz_36 := Hd.mk (Fz_34.out.below hB)
    have Fs_36 := Hd.mk (Fs_34.out.below hB)
    clear HB34 Fr_34 Fa_34 Fd_34 Fz_34 Fs_34
    clear hB
    go_wp2_with fail
    go_ret
    exact ⟨rfl, HB36.out⟩
end Go.Proofs.Ytmahjgffadbdcaa
