/- Walk of the reference's Apply: the rest that is not less than 0; all operations. -/
import Derived.Test.YtbmommomhepfpaaR9
namespace Go.Proofs.Ytbmommomhepfpaa
open Go.RowKit
set_option linter.unusedVariables false

theorem abs_le (b : BitVec 64) : (absV b).toNat ≤ 9223372036854775808 ∧ (b.slt 0#64 = true → b.toNat + (absV b).toNat = 18446744073709551616) ∧ (b.slt 0#64 = false → absV b = b) := by
  have h := BitVec.toInt_eq_toNat_cond b
  have hl := b.isLt
  have h0 : (0#64).toInt = 0 := by decide
  unfold absV
  rw [BitVec.slt, h0]
  by_cases e : b.toInt < 0
  · have : 9223372036854775808 ≤ b.toNat := by split at h <;> omega
    simp only [e, decide_true, if_true]
    rw [BitVec.toNat_neg]
    refine ⟨by omega, fun _ => by omega, by simp⟩
  · have : b.toNat < 9223372036854775808 := by split at h <;> omega
    simp only [e, decide_false, Bool.false_eq_true, if_false]
    exact ⟨by omega, by simp, by simp⟩
theorem modV_abs (a b : BitVec 64) (hb : ¬ b = 0#64) :
    (a.slt 0#64 = false → absV a % absV b = modV a b) ∧ (a.slt 0#64 = true → absV a % absV b = 0#64 → absV a % absV b = modV a b) ∧
    (a.slt 0#64 = true → ¬ absV a % absV b = 0#64 → absV b + ~~~(absV a % absV b) + 1#64 = modV a b) := by
  have hs := srem_abs a b
  have hp := abs_pos b hb
  obtain ⟨hle, hbn, hbp⟩ := abs_le b
  obtain ⟨r, hr⟩ : ∃ r, absV a % absV b = r := ⟨_, rfl⟩
  have hrl : r.toNat < (absV b).toNat := by rw [← hr, BitVec.toNat_umod]; exact Nat.mod_lt _ hp
  rw [hr] at hs ⊢
  have hri : r.toInt = r.toNat := by rw [BitVec.toInt_eq_toNat_cond]; split <;> omega
  have h0 : (0#64).toInt = 0 := by decide
  unfold modV
  refine ⟨fun h => ?_, fun h h1 => ?_, fun h h1 => ?_⟩
  · rw [h] at hs
    rw [← hs, BitVec.sle, h0]
    simp only [Bool.false_eq_true, if_false]
    rw [hri, if_pos (by simp)]
  · rw [h, h1] at hs
    rw [← hs, h1]; rfl
  · rw [h] at hs
    simp only [if_true] at hs
    have hr0 : 0 < r.toNat := Nat.pos_of_ne_zero fun e => h1 (BitVec.eq_of_toNat_eq (by simpa using e))
    have hneg : (-r).toInt = -(r.toNat : Int) := by rw [BitVec.toInt_neg, hri]; exact Int.bmod_eq_of_le (by omega) (by omega)
    rw [← hs, BitVec.sle, h0, hneg, if_neg (by simp; omega), BitVec.add_assoc, ← BitVec.neg_eq_not_add]
    cases hbs : b.slt 0#64
    · rw [hbp hbs]; simp [BitVec.add_comm]
    · have := hbn hbs
      have e : absV b = -b := by unfold absV; rw [hbs]; rfl
      rw [e]; simp [BitVec.sub_eq_add_neg, BitVec.add_comm]

set_option maxRecDepth 100000 in
set_option maxHeartbeats 1000000 in
theorem refApplyP_6 (a b : BitVec 64) (hnz : ¬ b = 0#64) (ha : a.slt 0#64 = false) (w : World) : Calls Try.prog 30 #[.int .u8 6, s a, s b] w fun e w' => e = .returned (.tuple #[s (appV 6 a b), .int .i64 0]) ∧ Below w.heap.size w w' := by
  have HLOW := Hd.mk (low6 b)
  have HNZ := Hd.mk hnz
  have HPOS := Hd.mk (abs_pos b hnz)
  have HM := Hd.mk (modV_abs a b hnz)
  have hz : (b == 0#64) = false := by simpa using hnz
  clear hnz
  have HE := Hd.mk (HM.out.1 ha)
  go_enter Try.func30, Try.ntmps30
  go_wp2_with fail
  refine (bits_any a _).mono ?_
  rintro e w1 ⟨v1, rfl, hb1, hB1⟩
  have HV1 := Hd.mk hb1
  clear hb1
  go_wp2_with fail
  refine (bits_any b _).mono ?_
  rintro e w2 ⟨v2, rfl, hb2, hB2⟩
  have HX := Hd.mk (HV1.out.below hB2)
  have HYY := Hd.mk hb2
  have hB := hB1.trans (hB2.mono hB1.size)
  obtain ⟨b9, off9, c9, rfl, hc9, _, hbw9, hcell9⟩ := hb2
  have k0 := hcell9 0 (by decide)
  rw [Nat.add_zero] at k0
  have k1 := hcell9 1 (by decide)
  have k2 := hcell9 2 (by decide)
  have k3 := hcell9 3 (by decide)
  have k4 := hcell9 4 (by decide)
  have k5 := hcell9 5 (by decide)
  obtain ⟨l0, u0⟩ := bi_le b 0
  obtain ⟨l1, u1⟩ := bi_le b 1
  obtain ⟨l2, u2⟩ := bi_le b 2
  obtain ⟨l3, u3⟩ := bi_le b 3
  obtain ⟨l4, u4⟩ := bi_le b 4
  obtain ⟨l5, u5⟩ := bi_le b 5
  clear hcell9 hB1 hB2 HV1
  obtain ⟨p0, hp0⟩ : ∃ p, bi b 0 = p := ⟨_, rfl⟩
  obtain ⟨p1, hp1⟩ : ∃ p, bi b 1 = p := ⟨_, rfl⟩
  obtain ⟨p2, hp2⟩ : ∃ p, bi b 2 = p := ⟨_, rfl⟩
  obtain ⟨p3, hp3⟩ : ∃ p, bi b 3 = p := ⟨_, rfl⟩
  obtain ⟨p4, hp4⟩ : ∃ p, bi b 4 = p := ⟨_, rfl⟩
  obtain ⟨p5, hp5⟩ : ∃ p, bi b 5 = p := ⟨_, rfl⟩
  have hlow := HLOW.out
  rw [hp0, hp1, hp2, hp3, hp4, hp5] at hlow
  rw [hp0] at k0 l0 u0
  rw [hp1] at k1 l1 u1
  rw [hp2] at k2 l2 u2
  rw [hp3] at k3 l3 u3
  rw [hp4] at k4 l4 u4
  rw [hp5] at k5 l5 u5
  obtain ⟨t1, t2, t3, t4, t5, s1, s2, s3, s4, s5⟩ := sums6 p0 p1 p2 p3 p4 p5 l0 u0 l1 u1 l2 u2 l3 u3 l4 u4 l5 u5
  rw [hlow] at s5
  clear HLOW hp0 hp1 hp2 hp3 hp4 hp5
  have HL := Hd.mk hlow
  clear hlow
  go_wp2_with fail
  go_quiet (fail)
  obtain ⟨wd, hwd⟩ : ∃ wd, wd = w2.drewN nq := ⟨_, rfl⟩
  have hBd : Below w2.heap.size w2 wd := by rw [hwd]; exact below_drewN (Below.refl _ _) nq
  rw [← hwd]
  have HXd := Hd.mk (HX.out.below hBd)
  have HYd := Hd.mk (HYY.out.below hBd)
  have hB' := hB.trans (hBd.mono hB.size)
  clear hwd k0 k1 k2 k3 k4 k5 t1 t2 t3 t4 t5 s1 s2 s3 s4 s5 hB hBd HX HYY
  go_wp2_with fail
  refine (amount_any a _).mono ?_
  rintro e w3 ⟨v3, rfl, hb3, hB3⟩
  have HV3 := Hd.mk hb3
  have hB3' := hB'.trans (hB3.mono hB'.size)
  clear hB' hb3 hB3
  go_wp2_with fail
  refine (amount_any b _).mono ?_
  rintro e w4 ⟨v4, rfl, hb4, hB4⟩
  have HV34 := Hd.mk (HV3.out.below hB4)
  have HV4 := Hd.mk hb4
  have hB4' := hB3'.trans (hB4.mono hB3'.size)
  clear hB3' hb4 hB4
  go_wp2_with fail
  refine (divided_any _ _ (absV a) (absV b) HPOS.out _ HV34.out HV4.out).mono ?_
  rintro e w5 ⟨v5, v6, rfl, hq, hr, hB5⟩
  have HQ := Hd.mk hq
  have HR := Hd.mk hr
  have hB5' := hB4'.trans (hB5.mono hB4'.size)
  clear hB4' hq hr hB5
  go_wp2_with fail
  refine (word_any _ _ _ HR.out).mono ?_
  rintro e w20 ⟨rfl, rfl⟩
  go_wp2_with fail
  go_ret2
  exact ⟨by rw [appV_6 a b HNZ.out, ← HE.out]; rfl, hB5'⟩

set_option maxRecDepth 100000 in
set_option maxHeartbeats 1000000 in
theorem refApplyN_6 (a b : BitVec 64) (hnz : ¬ b = 0#64) (ha : a.slt 0#64 = true) (w : World) : Calls Try.prog 30 #[.int .u8 6, s a, s b] w fun e w' => e = .returned (.tuple #[s (appV 6 a b), .int .i64 0]) ∧ Below w.heap.size w w' := by
  have HLOW := Hd.mk (low6 b)
  have HNZ := Hd.mk hnz
  have HPOS := Hd.mk (abs_pos b hnz)
  have HM := Hd.mk (modV_abs a b hnz)
  have hz : (b == 0#64) = false := by simpa using hnz
  clear hnz
  have HA := Hd.mk ha
  go_enter Try.func30, Try.ntmps30
  go_wp2_with fail
  refine (bits_any a _).mono ?_
  rintro e w1 ⟨v1, rfl, hb1, hB1⟩
  have HV1 := Hd.mk hb1
  clear hb1
  go_wp2_with fail
  refine (bits_any b _).mono ?_
  rintro e w2 ⟨v2, rfl, hb2, hB2⟩
  have HX := Hd.mk (HV1.out.below hB2)
  have HYY := Hd.mk hb2
  have hB := hB1.trans (hB2.mono hB1.size)
  obtain ⟨b9, off9, c9, rfl, hc9, _, hbw9, hcell9⟩ := hb2
  have k0 := hcell9 0 (by decide)
  rw [Nat.add_zero] at k0
  have k1 := hcell9 1 (by decide)
  have k2 := hcell9 2 (by decide)
  have k3 := hcell9 3 (by decide)
  have k4 := hcell9 4 (by decide)
  have k5 := hcell9 5 (by decide)
  obtain ⟨l0, u0⟩ := bi_le b 0
  obtain ⟨l1, u1⟩ := bi_le b 1
  obtain ⟨l2, u2⟩ := bi_le b 2
  obtain ⟨l3, u3⟩ := bi_le b 3
  obtain ⟨l4, u4⟩ := bi_le b 4
  obtain ⟨l5, u5⟩ := bi_le b 5
  clear hcell9 hB1 hB2 HV1
  obtain ⟨p0, hp0⟩ : ∃ p, bi b 0 = p := ⟨_, rfl⟩
  obtain ⟨p1, hp1⟩ : ∃ p, bi b 1 = p := ⟨_, rfl⟩
  obtain ⟨p2, hp2⟩ : ∃ p, bi b 2 = p := ⟨_, rfl⟩
  obtain ⟨p3, hp3⟩ : ∃ p, bi b 3 = p := ⟨_, rfl⟩
  obtain ⟨p4, hp4⟩ : ∃ p, bi b 4 = p := ⟨_, rfl⟩
  obtain ⟨p5, hp5⟩ : ∃ p, bi b 5 = p := ⟨_, rfl⟩
  have hlow := HLOW.out
  rw [hp0, hp1, hp2, hp3, hp4, hp5] at hlow
  rw [hp0] at k0 l0 u0
  rw [hp1] at k1 l1 u1
  rw [hp2] at k2 l2 u2
  rw [hp3] at k3 l3 u3
  rw [hp4] at k4 l4 u4
  rw [hp5] at k5 l5 u5
  obtain ⟨t1, t2, t3, t4, t5, s1, s2, s3, s4, s5⟩ := sums6 p0 p1 p2 p3 p4 p5 l0 u0 l1 u1 l2 u2 l3 u3 l4 u4 l5 u5
  rw [hlow] at s5
  clear HLOW hp0 hp1 hp2 hp3 hp4 hp5
  have HL := Hd.mk hlow
  clear hlow
  go_wp2_with fail
  go_quiet (fail)
  obtain ⟨wd, hwd⟩ : ∃ wd, wd = w2.drewN nq := ⟨_, rfl⟩
  have hBd : Below w2.heap.size w2 wd := by rw [hwd]; exact below_drewN (Below.refl _ _) nq
  rw [← hwd]
  have HXd := Hd.mk (HX.out.below hBd)
  have HYd := Hd.mk (HYY.out.below hBd)
  have hB' := hB.trans (hBd.mono hB.size)
  clear hwd k0 k1 k2 k3 k4 k5 t1 t2 t3 t4 t5 s1 s2 s3 s4 s5 hB hBd HX HYY
  go_wp2_with fail
  refine (amount_any a _).mono ?_
  rintro e w3 ⟨v3, rfl, hb3, hB3⟩
  have HV3 := Hd.mk hb3
  have hB3' := hB'.trans (hB3.mono hB'.size)
  clear hB' hb3 hB3
  go_wp2_with fail
  refine (amount_any b _).mono ?_
  rintro e w4 ⟨v4, rfl, hb4, hB4⟩
  have HV34 := Hd.mk (HV3.out.below hB4)
  have HV4 := Hd.mk hb4
  have hB4' := hB3'.trans (hB4.mono hB3'.size)
  clear hB3' hb4 hB4
  go_wp2_with fail
  refine (divided_any _ _ (absV a) (absV b) HPOS.out _ HV34.out HV4.out).mono ?_
  rintro e w5 ⟨v5, v6, rfl, hq, hr, hB5⟩
  have HQ := Hd.mk hq
  have HR := Hd.mk hr
  have hB5' := hB4'.trans (hB5.mono hB4'.size)
  clear hB4' hq hr hB5
  go_wp2_with fail
  refine (word_any _ _ _ HR.out).mono ?_
  rintro e w20 ⟨rfl, rfl⟩
  by_cases hr0 : absV a % absV b = 0#64
  · have hr0' : (absV a % absV b != 0#64) = false := by simp [hr0]
    have HE := Hd.mk (HM.out.2.1 HA.out hr0)
    clear hr0
    go_wp2_with fail
    refine (word_any _ _ _ HR.out).mono ?_
    rintro e w20 ⟨rfl, rfl⟩
    go_wp2_with fail
    go_ret2
    exact ⟨by rw [appV_6 a b HNZ.out, ← HE.out]; rfl, hB5'⟩
  · have hr0' : (absV a % absV b != 0#64) = true := by simpa using hr0
    have HE := Hd.mk (HM.out.2.2 HA.out hr0)
    clear hr0
    go_wp2_with fail
    refine (amount_any b _).mono ?_
    rintro e w21 ⟨v21, rfl, hb21, hB21⟩
    have HV21 := Hd.mk hb21
    have HR21 := Hd.mk (HR.out.below hB21)
    have hB21' := hB5'.trans (hB21.mono hB5'.size)
    clear hB5' hb21 hB21
    go_wp2_with fail
    refine (not_any _ (absV a % absV b) _ HR21.out).mono ?_
    rintro e w22 ⟨v22, rfl, hb22, hB22⟩
    have HV22 := Hd.mk hb22
    have HV212 := Hd.mk (HV21.out.below hB22)
    have hB22' := hB21'.trans (hB22.mono hB21'.size)
    clear hB21' hb22 hB22
    go_wp2_with fail
    refine (sum1 _ _ (absV b) (~~~(absV a % absV b)) _ HV212.out HV22.out).mono ?_
    rintro e w23 ⟨v23, rfl, hb23, hB23⟩
    have HV23 := Hd.mk hb23
    have hB23' := hB22'.trans (hB23.mono hB22'.size)
    clear hB22' hb23 hB23
    go_wp2_with fail
    refine (word_any _ _ _ HV23.out).mono ?_
    rintro e w20 ⟨rfl, rfl⟩
    go_wp2_with fail
    go_ret2
    exact ⟨by rw [appV_6 a b HNZ.out, ← HE.out]; rfl, hB23'⟩

end Go.Proofs.Ytbmommomhepfpaa
