/- The law PicksSwaps: its walk. -/
import Derived.Test.YtmahjgffadbdcaaF2P
namespace Go.Proofs.Ytmahjgffadbdcaa
open Go.RowKit
set_option linter.unusedVariables false

set_option maxRecDepth 100000 in
set_option maxHeartbeats 8000000 in
theorem swaps_law (x : BitVec 16) (jv kv lv : Value) (js ks ls : List Int) (at' : Nat) (w : World) (hj : SrcE e8 w jv js) (hjb : ∀ b ∈ js, 0 ≤ b ∧ b ≤ 255) (hk : SrcE e8 w kv ks) (hkb : ∀ b ∈ ks, 0 ≤ b ∧ b ≤ 255) (hl : SrcE e8 w lv ls) (hlb : ∀ b ∈ ls, 0 ≤ b ∧ b ≤ 255) (hat : at' ≤ 255) :
    Calls Try.prog 8 #[h16 x, jv, kv, lv, .int .u8 (at' : Int)] w fun e w' => e = .returned (.bool true) ∧ Below w.heap.size w w' := by
  have FJ := Hd.mk hj
  have FK := Hd.mk hk
  have FL := Hd.mk hl
  have HJB := Hd.mk hjb
  have HKB := Hd.mk hkb
  have HLB := Hd.mk hlb
  have HA := Hd.mk (RM.of x js)
  have HB := Hd.mk (RM.of x ks)
  have HC := Hd.mk (RM.of x ls)
  clear hj hk hl hjb hkb hlb
  go_enter Try.func8, Try.ntmps8
  go_wp2_with fail
  refine (mixed_any x _ js _ FJ.out HJB.out).mono ?_
  rintro e w1 ⟨v11, rfl, hO, hB⟩
  have FNa1 := Hd.mk (hO.src)
  have HB2 := Hd.mk hB
  have Fj_2 := Hd.mk (FJ.out.below hB)
  have Fk_2 := Hd.mk (FK.out.below hB)
  have Fl_2 := Hd.mk (FL.out.below hB)
  clear FJ FK FL
  clear hB hO
  clear Fj_2
  go_wp2_with fail
  refine (mixed_any x _ ks _ Fk_2.out HKB.out).mono ?_
  rintro e w3 ⟨v12, rfl, hO, hB⟩
  have FNb3 := Hd.mk (hO.src)
  have HB4 := Hd.mk (ch4 HB2.out hB)
  have Fk_4 := Hd.mk (Fk_2.out.below hB)
  have Fl_4 := Hd.mk (Fl_2.out.below hB)
  have Fa_4 := Hd.mk (FNa1.out.below hB)
  clear HB2 Fk_2 Fl_2 FNa1
  clear hB hO
  clear Fk_4
  go_wp2_with fail
  refine (mixed_any x _ ls _ Fl_4.out HLB.out).mono ?_
  rintro e w5 ⟨v13, rfl, hO, hB⟩
  have FNc5 := Hd.mk (hO.src)
  have HB6 := Hd.mk (ch4 HB4.out hB)
  have Fl_6 := Hd.mk (Fl_4.out.below hB)
  have Fa_6 := Hd.mk (Fa_4.out.below hB)
  have Fb_6 := Hd.mk (FNb3.out.below hB)
  clear HB4 Fl_4 Fa_4 FNb3
  clear hB hO
  clear Fl_6
  generalize mixedV x js = A at *
  generalize mixedV x ks = B at *
  generalize mixedV x ls = C at *
  generalize readyV x = R at *
  have hlen := HA.out.ok.len
  have hAl : A.length ≤ 16 := by have := HA.out.len; omega
  obtain ⟨a1, c1, rfl⟩ := Fa_6.out.shape
  obtain ⟨ab, hab⟩ : ∃ n, swapsV A B = n := ⟨_, rfl⟩
  obtain ⟨bc, hbc⟩ : ∃ n, swapsV B C = n := ⟨_, rfl⟩
  obtain ⟨ac, hac⟩ : ∃ n, swapsV A C = n := ⟨_, rfl⟩
  have hba : swapsV B A = ab := by rw [← hab]; exact swaps_comm HA.out.nd (HB.out.perm.trans HA.out.perm.symm)
  have htri : ac ≤ ab + bc := by rw [← hab, ← hbc, ← hac]; exact HA.out.triangle HB.out HC.out
  have h2ab : 2 * ab ≤ A.length * (A.length - 1) := by rw [← hab]; exact swaps_le A B
  have hzero : ab = 0 ↔ A = B := by rw [← hab]; exact swaps_zero HB.out.nd (HA.out.perm.trans HB.out.perm.symm)
  have hPP : A.length * (A.length - 1) ≤ 16 * 15 := Nat.mul_le_mul hAl (by omega)
  have h2bc : 2 * bc ≤ 240 := by rw [← hbc]; have := swaps_le B C; have h2 : B.length * (B.length - 1) ≤ 16 * 15 := Nat.mul_le_mul (by have := HB.out.len; omega) (by have := HB.out.len; omega); omega
  obtain ⟨PP, hP⟩ : ∃ P, A.length * (A.length - 1) = P := ⟨_, rfl⟩
  rw [hP] at h2ab hPP
  have hpi : (A.length : Int) * ((A.length : Int) - 1) = (PP : Int) := by
    rw [← hP]; rcases Nat.eq_zero_or_pos A.length with h | h
    · rw [h]; rfl
    · rw [Int.natCast_mul, Int.natCast_sub h]; rfl
  have HAB := Hd.mk hab
  have HBC := Hd.mk hbc
  have HAC := Hd.mk hac
  have HBA := Hd.mk hba
  have HZ := Hd.mk hzero
  have HP := Hd.mk hP
  have hab2 : (ab : Int) ≤ 120 := by omega
  have hbc2 : (bc : Int) ≤ 120 := by omega
  have hPPi : (PP : Int) ≤ 240 := by omega
  have habP : (ab : Int) ≤ (PP : Int) / 2 := by omega
  clear hab hbc hac hba hzero hP h2ab hPP h2bc
  go_wp2_with fail
  refine (swaps_at (n := ab) (HA.out.okS HB.out) HAB.out Fa_6.out Fb_6.out).mono ?_
  rintro e w7 ⟨rfl, hB⟩
  have HB8 := Hd.mk (ch4 HB6.out hB)
  have Fa_8 := Hd.mk (Fa_6.out.below hB)
  have Fb_8 := Hd.mk (Fb_6.out.below hB)
  have Fc_8 := Hd.mk (FNc5.out.below hB)
  clear HB6 Fa_6 Fb_6 FNc5
  clear hB
  go_wp2_with fail
  refine (swaps_at (n := ab) (HB.out.okS HA.out) HBA.out Fb_8.out Fa_8.out).mono ?_
  rintro e w9 ⟨rfl, hB⟩
  have HB10 := Hd.mk (ch4 HB8.out hB)
  have Fa_10 := Hd.mk (Fa_8.out.below hB)
  have Fb_10 := Hd.mk (Fb_8.out.below hB)
  have Fc_10 := Hd.mk (Fc_8.out.below hB)
  clear HB8 Fa_8 Fb_8 Fc_8
  clear hB
  go_wp2_with fail
  refine (swaps_at (n := bc) (HB.out.okS HC.out) HBC.out Fb_10.out Fc_10.out).mono ?_
  rintro e w11 ⟨rfl, hB⟩
  have HB12 := Hd.mk (ch4 HB10.out hB)
  have Fa_12 := Hd.mk (Fa_10.out.below hB)
  have Fb_12 := Hd.mk (Fb_10.out.below hB)
  have Fc_12 := Hd.mk (Fc_10.out.below hB)
  clear HB10 Fa_10 Fb_10 Fc_10
  clear hB
  go_wp2_with fail
  refine (swaps_at (n := ac) (HA.out.okS HC.out) HAC.out Fa_12.out Fc_12.out).mono ?_
  rintro e w13 ⟨rfl, hB⟩
  have HB14 := Hd.mk (ch4 HB12.out hB)
  have Fa_14 := Hd.mk (Fa_12.out.below hB)
  have Fb_14 := Hd.mk (Fb_12.out.below hB)
  have Fc_14 := Hd.mk (Fc_12.out.below hB)
  clear HB12 Fa_12 Fb_12 Fc_12
  clear hB
  clear Fc_14
  obtain ⟨eq, heq⟩ : ∃ b, decide (A = B) = b := ⟨_, rfl⟩
  have HEQ := Hd.mk heq
  have hz0 : decide ((ab : Int) = 0) = eq := by rw [← heq, decide_eq_decide, ← HZ.out]; omega
  have hz1 : ((ab : Int) == 0) = eq := hz0
  have hz2 : decide (ab = 0) = eq := by rw [← heq, decide_eq_decide, ← HZ.out]
  clear heq
  go_wp2_with fail
  refine (equal_at (b := eq) HEQ.out Fa_14.out Fb_14.out).mono ?_
  rintro e w15 ⟨rfl, hB⟩
  have HB16 := Hd.mk (ch4 HB14.out hB)
  have Fa_16 := Hd.mk (Fa_14.out.below hB)
  have Fb_16 := Hd.mk (Fb_14.out.below hB)
  clear HB14 Fa_14 Fb_14
  clear hB
  go_wp2_with fail
  refine (clone_any _ A _ Fa_16.out (by omega)).mono ?_
  rintro e wa ⟨v23, rfl, hO, hBa⟩
  have HO := Hd.mk hO
  have HBa := Hd.mk hBa
  clear hO hBa
  go_wp2_with fail
  refine (reverse_own HO.out (by omega) HBa.out.size).mono ?_
  rintro e wb ⟨⟨xv, rfl⟩, hO2, hBb⟩
  have hX := HBa.out.trans hBb
  have FsQ := Hd.mk hO2.src
  have HB17 := Hd.mk (ch4 HB16.out hX)
  have Fa_17 := Hd.mk (Fa_16.out.below hX)
  have Fb_17 := Hd.mk (Fb_16.out.below hX)
  clear HB16 Fa_16 Fb_16
  clear hX hO2 hBb
  obtain ⟨far, hfar⟩ : ∃ n, swapsV A A.reverse = n := ⟨_, rfl⟩
  obtain ⟨rest, hrest⟩ : ∃ n, swapsV A.reverse B = n := ⟨_, rfl⟩
  have hf2 : 2 * far = PP := by rw [← hfar, ← HP.out]; exact HA.out.far
  have hr2 : 2 * (rest + ab) = PP := by rw [← hrest, ← HP.out, ← HAB.out]; exact HA.out.rest HB.out
  have HFAR := Hd.mk hfar
  have HREST := Hd.mk hrest
  have hpf : (PP : Int) / 2 = (far : Int) := by omega
  have hfr : (far : Int) - (ab : Int) = (rest : Int) := by omega
  clear hfar hrest hf2 hr2
  go_wp2_with fail
  refine (swaps_at (n := far) (HA.out.okS HA.out.rev) HFAR.out Fa_17.out FsQ.out).mono ?_
  rintro e w18 ⟨rfl, hB⟩
  have HB19 := Hd.mk (ch4 HB17.out hB)
  have Fa_19 := Hd.mk (Fa_17.out.below hB)
  have Fb_19 := Hd.mk (Fb_17.out.below hB)
  have Ft_19 := Hd.mk (FsQ.out.below hB)
  clear HB17 Fa_17 Fb_17 FsQ
  clear hB
  go_wp2_with fail
  refine (swaps_at (n := rest) (HA.out.rev.okS HB.out) HREST.out Ft_19.out Fb_19.out).mono ?_
  rintro e w20 ⟨rfl, hB⟩
  have HB21 := Hd.mk (ch4 HB19.out hB)
  have Fa_21 := Hd.mk (Fa_19.out.below hB)
  have Fb_21 := Hd.mk (Fb_19.out.below hB)
  have Ft_21 := Hd.mk (Ft_19.out.below hB)
  clear HB19 Fa_19 Fb_19 Ft_19
  clear hB
  clear Ft_21
  by_cases hn2 : A.length < 2
  · have hn3 : (A.length : Int) < 2 := by omega
    go_wp2_with fail
    refine (awake_any _).mono ?_
    rintro e w22 ⟨rfl, hB⟩
    have HB23 := Hd.mk (ch4 HB21.out hB)
    have Fa_23 := Hd.mk (Fa_21.out.below hB)
    have Fb_23 := Hd.mk (Fb_21.out.below hB)
    clear HB21 Fa_21 Fb_21
    clear hB
    go_wp2_with fail
    go_ret
    exact ⟨rfl, HB23.out⟩
  · obtain ⟨i, hi⟩ : ∃ i, at' % (A.length - 1) = i := ⟨_, rfl⟩
    have hil : i + 1 < A.length := by have := Nat.mod_lt at' (show 0 < A.length - 1 by omega); omega
    have hir : (at' : Int) % ((A.length : Int) - 1) = (i : Int) := by rw [← hi, Int.natCast_emod, Int.natCast_sub (by omega)]; rfl
    have hn3 : ¬ (A.length : Int) < 2 := by omega
    have hat3 : (at' : Int) ≤ 255 := by omega
    clear hi
    go_wp2_with fail
    refine (clone_any _ A _ Fa_21.out (by omega)).mono ?_
    rintro e wa ⟨v27, rfl, hO, hBa⟩
    obtain ⟨g, cap, rfl, hbg, hR, hc1, hc2⟩ := hO.row (by omega)
    have ci := hR.cell i (by omega)
    have ci1 := hR.cell (i + 1) (by omega)
    have fi := hR.free i
    have fi1 := hR.free (i + 1)
    have HS := Hd.mk (hR.swap i (i + 1) (by omega) (by omega))
    have HNR := Hd.mk (near_row hil)
    obtain ⟨y0, hy0⟩ : ∃ y, A.getD i 0 = y := ⟨_, rfl⟩
    obtain ⟨y1, hy1⟩ : ∃ y, A.getD (i + 1) 0 = y := ⟨_, rfl⟩
    simp only [hy0] at ci HS
    simp only [hy1] at ci1 HS
    have HBa := Hd.mk hBa
    have HC2 := Hd.mk (And.intro hc1 hc2)
    have HBG := Hd.mk hbg
    clear hO hR hy0 hy1 hBa hc2 hbg
    have i0 : (0 : Int) ≤ (i : Int) := by omega
    have i1 : (i : Int) + 1 < (A.length : Int) := by omega
    have i2 : (i : Int) < (A.length : Int) := by omega
    have i3 : ((i : Int) + 1).toNat = i + 1 := by omega
    have i4 : (0 : Int) ≤ (i : Int) + 1 := by omega
    have hw : IntKind.i64.wrap ((i : Int) + 1) = (i : Int) + 1 := IntWalk.i64_in _ ⟨by omega, by omega⟩
    have hne : i < i + 1 := by omega
    go_wp2_with fail
    go_region
    obtain ⟨W5, hW5⟩ : ∃ W, ((wa.setCell ⟨g, i, none⟩ (.int .i64 y1)).setCell ⟨g, i + 1, none⟩ (.int .i64 y0)).drew = W := ⟨_, rfl⟩
    have hX : Below w20.heap.size w20 W5 := by rw [← hW5]; exact below_drewN ((HBa.out.setCell HBG.out _).setCell HBG.out _) 1
    have hFN : SrcI W5 (.slice (some ⟨g, 0, none⟩) A.length cap) (nearV A i) := by rw [← hW5]; exact (HS.out.drew.own (base := 0) (near_perm hil).length_eq (fun j hj => HNR.out j hj) (Nat.zero_le _) HC2.out.1 HC2.out.2).src
    rw [hW5]
    have FN := Hd.mk hFN
    clear hW5 hFN HS HBa ci ci1 fi fi1
    have HB22 := Hd.mk (ch4 HB21.out hX)
    have Fa_22 := Hd.mk (Fa_21.out.below hX)
    have Fb_22 := Hd.mk (Fb_21.out.below hX)
    clear HB21 Fa_21 Fb_21
    clear hX
    obtain ⟨oth, hoth⟩ : ∃ n, swapsV (nearV A i) B = n := ⟨_, rfl⟩
    have hne2 := near_swaps HA.out.nd (HA.out.perm.trans HB.out.perm.symm) hil
    rw [hoth, HAB.out] at hne2
    have HOTH := Hd.mk hoth
    clear hoth
    go_wp2_with fail
    refine (swaps_at (n := 1) (HA.out.okS (HA.out.near hil)) (near_one HA.out.nd hil) Fa_22.out FN.out).mono ?_
    rintro e w23 ⟨rfl, hB⟩
    have HB24 := Hd.mk (ch4 HB22.out hB)
    have Fa_24 := Hd.mk (Fa_22.out.below hB)
    have Fb_24 := Hd.mk (Fb_22.out.below hB)
    have Fn_24 := Hd.mk (FN.out.below hB)
    clear HB22 Fa_22 Fb_22 FN
    clear hB
    go_wp2_with fail
    refine (swaps_at (n := oth) ((HA.out.near hil).okS HB.out) HOTH.out Fn_24.out Fb_24.out).mono ?_
    rintro e w25 ⟨rfl, hB⟩
    have HB26 := Hd.mk (ch4 HB24.out hB)
    have Fa_26 := Hd.mk (Fa_24.out.below hB)
    have Fb_26 := Hd.mk (Fb_24.out.below hB)
    have Fn_26 := Hd.mk (Fn_24.out.below hB)
    clear HB24 Fa_24 Fb_24 Fn_24
    clear hB
    rcases hne2 with hne2 | hne2
    · have hd : decide ((oth : Int) = (ab : Int) + 1) = true := decide_eq_true (by omega)
      go_wp2_with fail
      refine (awake_any _).mono ?_
      rintro e w27 ⟨rfl, hB⟩
      have HB28 := Hd.mk (ch4 HB26.out hB)
      have Fa_28 := Hd.mk (Fa_26.out.below hB)
      have Fb_28 := Hd.mk (Fb_26.out.below hB)
      have Fn_28 := Hd.mk (Fn_26.out.below hB)
      clear HB26 Fa_26 Fb_26 Fn_26
      clear hB
      go_wp2_with fail
      go_ret
      exact ⟨rfl, HB28.out⟩
    · have hd : decide ((oth : Int) = (ab : Int) + 1) = false := decide_eq_false (by omega)
      have hd2 : decide ((oth : Int) = (ab : Int) - 1) = true := decide_eq_true (by omega)
      go_wp2_with fail
      refine (awake_any _).mono ?_
      rintro e w27 ⟨rfl, hB⟩
      have HB28 := Hd.mk (ch4 HB26.out hB)
      have Fa_28 := Hd.mk (Fa_26.out.below hB)
      have Fb_28 := Hd.mk (Fb_26.out.below hB)
      have Fn_28 := Hd.mk (Fn_26.out.below hB)
      clear HB26 Fa_26 Fb_26 Fn_26
      clear hB
      go_wp2_with fail
      go_ret
      exact ⟨rfl, HB28.out⟩
end Go.Proofs.Ytmahjgffadbdcaa
