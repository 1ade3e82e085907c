/- The law PicksSmall: whole. -/
import Derived.Test.YtmahjgffadbdcaaH2
import Derived.Test.YtmahjgffadbdcaaH3
namespace Go.Proofs.Ytmahjgffadbdcaa
open Go.RowKit
set_option linter.unusedVariables false

theorem nums_succ : ∀ k : Nat, k < 16 → nums.take (k + 1) = nums.take k ++ [(k : Int) + 1] := by decide
theorem nums_right : rightB nums = true := by decide
theorem last_bad : rightB nums.reverse = false := by decide
theorem nums_zero (n : Nat) (hn : 15 ≤ n) : (ordV nums.length nums (List.replicate n 0)).2 = (15, 15) := by
  have h1 := ord_taken nums.length nums (List.replicate n 0) rfl
  have h2 := ord_taken_take (n := nums.length) (S := nums) (ps := List.replicate n 0) rfl
  have h3 : (ordV nums.length nums (List.replicate n 0)).2.1 = 15 := by rw [h1, List.length_replicate]; show min n 15 = 15; omega
  rw [h3, List.take_replicate, Nat.min_eq_left hn] at h2
  rw [← h2]; decide
theorem RowF.zeros {W : World} {g N : Nat} (h : RowF W g N (fun _ => 0)) (hN : N ≤ 100000) : SrcI W (.slice (some ⟨g, 0, none⟩) N N) (List.replicate N 0) :=
  (RowF.own (base := 0) (u := List.replicate N 0) (cap := N) h (by simp) (fun j hj => by rw [List.getD_eq_getElem?_getD, List.getElem?_replicate, if_pos hj]; rfl) (Nat.zero_le _) (Nat.le_refl _) (by simp only [maxLen]; omega)).src

theorem zeros_two {W : World} {g M : Nat} (h : RowF W g (M + 1) (fun _ => 0)) (hM : M + 1 ≤ 100000) (h0 : 0 < M) :
    SrcI W (.slice (some ⟨g, 0, none⟩) (M + 1) (M + 1)) (List.replicate (M + 1) 0) ∧ SrcI W (.slice (some ⟨g, 1, none⟩) M M) (List.replicate M 0) := by
  have h1 := h.zeros hM
  have h2 := h1.drop 1 (by rw [List.length_replicate]; omega)
  rw [List.length_replicate, List.drop_replicate, Nat.add_sub_cancel, Nat.zero_add] at h2
  exact ⟨h1, h2⟩

set_option maxRecDepth 100000 in
set_option maxHeartbeats 8000000 in
theorem whole_any (w : World) : Calls Try.prog 23 #[] w fun e w' => e = .returned (.bool true) ∧ Below w.heap.size w w' := by
  go_enter Try.func23, Try.ntmps23
  go_wp2_with fail
  go_loopw [1, 2] (fun v i W => ∃ k : Nat, k ≤ 16 ∧ i = .int .i64 ((k : Int) + 1) ∧ AppI W w.heap.size v (nums.take k) ∧ Below w.heap.size w W) (fun _ i _ => 18 - (intOf i).toNat)
  case atStart => exact ⟨0, by omega, rfl, OwnE.nil _ _ _ _, Below.refl _ _⟩
  case round =>
    obtain ⟨k, hk, rfl, hO, hB⟩ := hrel
    by_cases hlt : k < 16
    · have k0 : (0 : Int) ≤ (k : Int) := by omega
      have k1 : (k : Int) + 1 ≤ 16 := by omega
      have HN := Hd.mk (nums_succ k hlt)
      have HO := Hd.mk hO
      have HB := Hd.mk hB
      obtain ⟨v', w2, hr, ho2, hB2, hg2⟩ := push_i ((k : Int) + 1) hO hB hB.size (by have := List.length_take_le k nums; omega)
      have HO2 := Hd.mk ho2
      have HB2 := Hd.mk hB2
      clear hO hB ho2 hB2 hg2
      go_wp2_with (at_builtin; refine wpList_append_run rfl _ _ _ rfl rfl rfl hr ?_; clear hr)
      go_roundw
      case rel => exact ⟨k + 1, by omega, by go_num, by rw [HN.out]; exact HO2.out, HB2.out⟩
      case measure => simp [intOf]; omega
    obtain rfl : k = 16 := by omega
    have hO2 : AppI wr w.heap.size u1 nums := hO
    have FA := Hd.mk (OwnI.of hO2).src
    have HB0 := Hd.mk hB
    clear hO hO2 hB
    have HNR := Hd.mk nums_right
    have HLB := Hd.mk last_bad
    have HLN : Hd (nums.length = 16) := ⟨rfl⟩
    have HZ : Hd (∀ n, 15 ≤ n → (ordV nums.length nums (List.replicate n 0)).2 = (15, 15)) := ⟨nums_zero⟩
    generalize nums = N at *
    obtain ⟨a1, c1, rfl⟩ := FA.out.shape
    have FA0 := Hd.mk FA.out
    have HB00 := Hd.mk HB0.out
    go_wp2_with fail
    refine (clone_app _ _ _ FA.out (by have := HLN.out; omega)).mono ?_
    rintro e w1 ⟨v3, rfl, hO, hB⟩
    have HB2 := Hd.mk (ch4 HB0.out hB)
    have Fa_2 := Hd.mk (FA.out.below hB)
    clear HB0 FA
    have HOC := Hd.mk (OwnI.of hO)
    obtain ⟨a3, c3, rfl⟩ := (OwnI.of hO).src.shape
    clear hO
    have HBC := Hd.mk hB
    clear hB
    go_wp2_with fail
    refine (reverse_own HOC.out (by have := HLN.out; omega) HBC.out.size).mono ?_
    rintro e wR ⟨⟨xr, rfl⟩, hO, hB⟩
    have FLR := Hd.mk hO.src
    have hX : Below wr.heap.size wr wR := HBC.out.trans hB
    have HX := Hd.mk hX
    clear hO hB hX
    have FAR := Hd.mk (FA0.out.below HX.out)
    have HBR := Hd.mk (ch4 HB00.out HX.out)
    clear Fa_2 HB2 FA0 HB00 HBC HOC HX
    obtain ⟨wM, hmk, hrow, hBM⟩ := make_i wR 65537 (by omega)
    have e65 : ((65537 : Nat) : Int) = 65537 := rfl
    rw [e65] at hmk
    have HZR := Hd.mk hrow
    have HBM := Hd.mk hBM
    clear hrow hBM e65
    go_wp2_with fail
    clear hmk
    obtain ⟨hz1, hz2⟩ := zeros_two (M := 65536) HZR.out (by omega) (by omega)
    have HLZ : Hd ((List.replicate (65536 + 1) (0 : Int)).length = 65536 + 1) := ⟨List.length_replicate⟩
    have HLZ1 : Hd ((List.replicate 65536 (0 : Int)).length = 65536) := ⟨List.length_replicate⟩
    have HZO := Hd.mk (HZ.out 65536 (by omega))
    generalize List.replicate (65536 + 1) (0 : Int) = Z at hz1 HLZ
    generalize List.replicate 65536 (0 : Int) = Z1 at hz2 HLZ1 HZO
    have FZ := Hd.mk hz1
    have FZ1 := Hd.mk hz2
    clear hz1 hz2 HZR HZ
    have hbm := HBM.out
    clear HBM
    have HB11 := Hd.mk (ch4 HBR.out hbm)
    have Fa_11 := Hd.mk (FAR.out.below hbm)
    have Fr_11 := Hd.mk (FLR.out.below hbm)
    clear HBR FAR FLR
    clear hbm
    obtain ⟨r, hR⟩ : ∃ r, ordV N.length N Z1 = r := ⟨_, rfl⟩
    obtain ⟨oa, na, wa⟩ := r
    have h15 := HZO.out
    rw [hR] at h15
    simp only [Prod.mk.injEq] at h15
    obtain ⟨rfl, rfl⟩ := h15
    have HR := Hd.mk hR
    clear hR HZO
    refine (order_at HNR.out (by have := HLZ1.out; omega) HR.out Fa_11.out FZ1.out).mono ?_
    rintro e w12 ⟨v5, rfl, hO, hB⟩
    have HB13 := Hd.mk (ch4 HB11.out hB)
    have Fa_13 := Hd.mk (Fa_11.out.below hB)
    have Fr_13 := Hd.mk (Fr_11.out.below hB)
    have Fz_13 := Hd.mk (FZ.out.below hB)
    have Fy_13 := Hd.mk (FZ1.out.below hB)
    clear HB11 Fa_11 Fr_11 FZ FZ1
    obtain ⟨a5, c5, rfl⟩ := hO.src.shape
    clear hB hO
    clear Fy_13
    go_wp2_with fail
    refine (order_many HNR.out (by have := HLZ.out; omega) Fa_13.out Fz_13.out).mono ?_
    rintro e w14 ⟨rfl, hB⟩
    have HB15 := Hd.mk (ch4 HB13.out hB)
    have Fa_15 := Hd.mk (Fa_13.out.below hB)
    have Fr_15 := Hd.mk (Fr_13.out.below hB)
    have Fz_15 := Hd.mk (Fz_13.out.below hB)
    clear HB13 Fa_13 Fr_13 Fz_13
    clear hB
    go_wp2_with fail
    refine (order_bad HLB.out Fr_15.out Fz_15.out).mono ?_
    rintro e w16 ⟨rfl, hB⟩
    have HB17 := Hd.mk (ch4 HB15.out hB)
    have Fa_17 := Hd.mk (Fa_15.out.below hB)
    have Fr_17 := Hd.mk (Fr_15.out.below hB)
    have Fz_17 := Hd.mk (Fz_15.out.below hB)
    clear HB15 Fa_15 Fr_15 Fz_15
    clear hB
    clear Fz_17
    go_wp2_with fail
    refine (tells_any _ _ N N.reverse 20922789887999 _ Fa_17.out Fr_17.out (by have := HLN.out; (try rw [List.length_reverse]); omega) (by omega) (by omega)).mono ?_
    rintro e w18 ⟨rfl, hB⟩
    have HB19 := Hd.mk (ch4 HB17.out hB)
    have Fa_19 := Hd.mk (Fa_17.out.below hB)
    have Fr_19 := Hd.mk (Fr_17.out.below hB)
    clear HB17 Fa_17 Fr_17
    clear hB
    go_wp2_with fail
    refine (tells_any _ _ N.reverse N 0 _ Fr_19.out Fa_19.out (by have := HLN.out; (try rw [List.length_reverse]); omega) (by omega) (by omega)).mono ?_
    rintro e w20 ⟨rfl, hB⟩
    have HB21 := Hd.mk (ch4 HB19.out hB)
    have Fa_21 := Hd.mk (Fa_19.out.below hB)
    have Fr_21 := Hd.mk (Fr_19.out.below hB)
    clear HB19 Fa_19 Fr_19
    clear hB
    go_wp2_with fail
    refine (tells_any _ _ N N 20922789888000 _ Fa_21.out Fa_21.out (by have := HLN.out; (try rw [List.length_reverse]); omega) (by omega) (by omega)).mono ?_
    rintro e w22 ⟨rfl, hB⟩
    have HB23 := Hd.mk (ch4 HB21.out hB)
    have Fa_23 := Hd.mk (Fa_21.out.below hB)
    have Fr_23 := Hd.mk (Fr_21.out.below hB)
    clear HB21 Fa_21 Fr_21
    clear hB
    go_wp2_with fail
    go_ret
    exact ⟨rfl, HB23.out⟩
end Go.Proofs.Ytmahjgffadbdcaa
