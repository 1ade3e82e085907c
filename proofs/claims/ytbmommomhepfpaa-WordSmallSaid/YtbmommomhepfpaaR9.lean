/- Walk of the reference's Apply: divisions. -/
import Derived.Test.YtbmommomhepfpaaR8
namespace Go.Proofs.Ytbmommomhepfpaa
open Go.RowKit
set_option linter.unusedVariables false

/-- The amount of a word, as a number without a sign. -/
def absV (a : BitVec 64) : BitVec 64 := if a.slt 0#64 then -a else a
theorem amount_any (a : BitVec 64) (w : World) : Calls Try.prog 37 #[s a] w fun e w' => ∃ v, e = .returned v ∧ Bs w' v (absV a) ∧ Below w.heap.size w w' := by
  cases h : a.slt 0#64
  · have e : absV a = a := by unfold absV; rw [h]; rfl
    rw [e]; exact amount_pos a h w
  · have e : absV a = -a := by unfold absV; rw [h]; rfl
    rw [e]; exact amount_neg a h w
theorem msb_slt (a : BitVec 64) : a.msb = a.slt 0#64 := by
  rw [BitVec.msb_eq_toInt, BitVec.slt]; rfl
theorem abs_pos (b : BitVec 64) (h : ¬ b = 0#64) : 0 < (absV b).toNat := by
  refine Nat.pos_of_ne_zero fun e => h ?_
  have e2 : absV b = 0#64 := BitVec.eq_of_toNat_eq (by simpa using e)
  unfold absV at e2
  split at e2
  · have := congrArg (fun x => -x) e2; simpa using this
  · exact e2
theorem sdiv_abs (a b : BitVec 64) : (if (a.slt 0#64 != b.slt 0#64) then -(absV a / absV b) else absV a / absV b) = a.sdiv b := by
  rw [BitVec.sdiv_eq, msb_slt, msb_slt]
  unfold absV
  cases a.slt 0#64 <;> cases b.slt 0#64 <;> rfl
theorem srem_abs (a b : BitVec 64) : (if a.slt 0#64 then -(absV a % absV b) else absV a % absV b) = a.srem b := by
  rw [BitVec.srem_eq, msb_slt, msb_slt]
  unfold absV
  cases a.slt 0#64 <;> cases b.slt 0#64 <;> rfl

set_option maxRecDepth 100000 in
set_option maxHeartbeats 1000000 in
theorem refApply_4 (a b : BitVec 64) (hnz : ¬ b = 0#64) (w : World) : Calls Try.prog 30 #[.int .u8 4, s a, s b] w fun e w' => e = .returned (.tuple #[s (appV 4 a b), .int .i64 0]) ∧ Below w.heap.size w w' := by
  have HLOW := Hd.mk (low6 b)
  have HNZ := Hd.mk hnz
  have HPOS := Hd.mk (abs_pos b hnz)
  have hz : (b == 0#64) = false := by simpa using hnz
  clear hnz
  go_enter Try.func30, Try.ntmps30
  go_wp2_with fail
  refine (bits_any a _).mono ?_
  rintro e w1 ⟨v1, rfl, hb1, hB1⟩
  have HV1 := Hd.mk hb1
  clear hb1
  go_wp2_with fail
  refine (bits_any b _).mono ?_
  rintro e w2 ⟨v2, rfl, hb2, hB2⟩
  have HX := Hd.mk (HV1.out.below hB2)
  have HYY := Hd.mk hb2
  have hB := hB1.trans (hB2.mono hB1.size)
  obtain ⟨b9, off9, c9, rfl, hc9, _, hbw9, hcell9⟩ := hb2
  have k0 := hcell9 0 (by decide)
  rw [Nat.add_zero] at k0
  have k1 := hcell9 1 (by decide)
  have k2 := hcell9 2 (by decide)
  have k3 := hcell9 3 (by decide)
  have k4 := hcell9 4 (by decide)
  have k5 := hcell9 5 (by decide)
  obtain ⟨l0, u0⟩ := bi_le b 0
  obtain ⟨l1, u1⟩ := bi_le b 1
  obtain ⟨l2, u2⟩ := bi_le b 2
  obtain ⟨l3, u3⟩ := bi_le b 3
  obtain ⟨l4, u4⟩ := bi_le b 4
  obtain ⟨l5, u5⟩ := bi_le b 5
  clear hcell9 hB1 hB2 HV1
  obtain ⟨p0, hp0⟩ : ∃ p, bi b 0 = p := ⟨_, rfl⟩
  obtain ⟨p1, hp1⟩ : ∃ p, bi b 1 = p := ⟨_, rfl⟩
  obtain ⟨p2, hp2⟩ : ∃ p, bi b 2 = p := ⟨_, rfl⟩
  obtain ⟨p3, hp3⟩ : ∃ p, bi b 3 = p := ⟨_, rfl⟩
  obtain ⟨p4, hp4⟩ : ∃ p, bi b 4 = p := ⟨_, rfl⟩
  obtain ⟨p5, hp5⟩ : ∃ p, bi b 5 = p := ⟨_, rfl⟩
  have hlow := HLOW.out
  rw [hp0, hp1, hp2, hp3, hp4, hp5] at hlow
  rw [hp0] at k0 l0 u0
  rw [hp1] at k1 l1 u1
  rw [hp2] at k2 l2 u2
  rw [hp3] at k3 l3 u3
  rw [hp4] at k4 l4 u4
  rw [hp5] at k5 l5 u5
  obtain ⟨t1, t2, t3, t4, t5, s1, s2, s3, s4, s5⟩ := sums6 p0 p1 p2 p3 p4 p5 l0 u0 l1 u1 l2 u2 l3 u3 l4 u4 l5 u5
  rw [hlow] at s5
  clear HLOW hp0 hp1 hp2 hp3 hp4 hp5
  have HL := Hd.mk hlow
  clear hlow
  go_wp2_with fail
  go_quiet (fail)
  obtain ⟨wd, hwd⟩ : ∃ wd, wd = w2.drewN nq := ⟨_, rfl⟩
  have hBd : Below w2.heap.size w2 wd := by rw [hwd]; exact below_drewN (Below.refl _ _) nq
  rw [← hwd]
  have HXd := Hd.mk (HX.out.below hBd)
  have HYd := Hd.mk (HYY.out.below hBd)
  have hB' := hB.trans (hBd.mono hB.size)
  clear hwd k0 k1 k2 k3 k4 k5 t1 t2 t3 t4 t5 s1 s2 s3 s4 s5 hB hBd HX HYY
  go_wp2_with fail
  refine (amount_any a _).mono ?_
  rintro e w3 ⟨v3, rfl, hb3, hB3⟩
  have HV3 := Hd.mk hb3
  have hB3' := hB'.trans (hB3.mono hB'.size)
  clear hB' hb3 hB3
  go_wp2_with fail
  refine (amount_any b _).mono ?_
  rintro e w4 ⟨v4, rfl, hb4, hB4⟩
  have HV34 := Hd.mk (HV3.out.below hB4)
  have HV4 := Hd.mk hb4
  have hB4' := hB3'.trans (hB4.mono hB3'.size)
  clear hB3' hb4 hB4
  go_wp2_with fail
  refine (divided_any _ _ (absV a) (absV b) HPOS.out _ HV34.out HV4.out).mono ?_
  rintro e w5 ⟨v5, v6, rfl, hq, hr, hB5⟩
  have HQ := Hd.mk hq
  have HR := Hd.mk hr
  have hB5' := hB4'.trans (hB5.mono hB4'.size)
  clear hB4' hq hr hB5
  go_wp2_with fail
  refine (negated_any _ (absV a / absV b) (a.slt 0#64 != b.slt 0#64) _ HQ.out).mono ?_
  rintro e w7 ⟨rfl, hB7⟩
  have hB7' := hB5'.trans (hB7.mono hB5'.size)
  rw [sdiv_abs]
  go_wp2_with fail
  go_ret2
  exact ⟨by rw [appV_4 a b HNZ.out]; rfl, hB7'⟩

set_option maxRecDepth 100000 in
set_option maxHeartbeats 1000000 in
theorem refApply_5 (a b : BitVec 64) (hnz : ¬ b = 0#64) (w : World) : Calls Try.prog 30 #[.int .u8 5, s a, s b] w fun e w' => e = .returned (.tuple #[s (appV 5 a b), .int .i64 0]) ∧ Below w.heap.size w w' := by
  have HLOW := Hd.mk (low6 b)
  have HNZ := Hd.mk hnz
  have HPOS := Hd.mk (abs_pos b hnz)
  have hz : (b == 0#64) = false := by simpa using hnz
  clear hnz
  go_enter Try.func30, Try.ntmps30
  go_wp2_with fail
  refine (bits_any a _).mono ?_
  rintro e w1 ⟨v1, rfl, hb1, hB1⟩
  have HV1 := Hd.mk hb1
  clear hb1
  go_wp2_with fail
  refine (bits_any b _).mono ?_
  rintro e w2 ⟨v2, rfl, hb2, hB2⟩
  have HX := Hd.mk (HV1.out.below hB2)
  have HYY := Hd.mk hb2
  have hB := hB1.trans (hB2.mono hB1.size)
  obtain ⟨b9, off9, c9, rfl, hc9, _, hbw9, hcell9⟩ := hb2
  have k0 := hcell9 0 (by decide)
  rw [Nat.add_zero] at k0
  have k1 := hcell9 1 (by decide)
  have k2 := hcell9 2 (by decide)
  have k3 := hcell9 3 (by decide)
  have k4 := hcell9 4 (by decide)
  have k5 := hcell9 5 (by decide)
  obtain ⟨l0, u0⟩ := bi_le b 0
  obtain ⟨l1, u1⟩ := bi_le b 1
  obtain ⟨l2, u2⟩ := bi_le b 2
  obtain ⟨l3, u3⟩ := bi_le b 3
  obtain ⟨l4, u4⟩ := bi_le b 4
  obtain ⟨l5, u5⟩ := bi_le b 5
  clear hcell9 hB1 hB2 HV1
  obtain ⟨p0, hp0⟩ : ∃ p, bi b 0 = p := ⟨_, rfl⟩
  obtain ⟨p1, hp1⟩ : ∃ p, bi b 1 = p := ⟨_, rfl⟩
  obtain ⟨p2, hp2⟩ : ∃ p, bi b 2 = p := ⟨_, rfl⟩
  obtain ⟨p3, hp3⟩ : ∃ p, bi b 3 = p := ⟨_, rfl⟩
  obtain ⟨p4, hp4⟩ : ∃ p, bi b 4 = p := ⟨_, rfl⟩
  obtain ⟨p5, hp5⟩ : ∃ p, bi b 5 = p := ⟨_, rfl⟩
  have hlow := HLOW.out
  rw [hp0, hp1, hp2, hp3, hp4, hp5] at hlow
  rw [hp0] at k0 l0 u0
  rw [hp1] at k1 l1 u1
  rw [hp2] at k2 l2 u2
  rw [hp3] at k3 l3 u3
  rw [hp4] at k4 l4 u4
  rw [hp5] at k5 l5 u5
  obtain ⟨t1, t2, t3, t4, t5, s1, s2, s3, s4, s5⟩ := sums6 p0 p1 p2 p3 p4 p5 l0 u0 l1 u1 l2 u2 l3 u3 l4 u4 l5 u5
  rw [hlow] at s5
  clear HLOW hp0 hp1 hp2 hp3 hp4 hp5
  have HL := Hd.mk hlow
  clear hlow
  go_wp2_with fail
  go_quiet (fail)
  obtain ⟨wd, hwd⟩ : ∃ wd, wd = w2.drewN nq := ⟨_, rfl⟩
  have hBd : Below w2.heap.size w2 wd := by rw [hwd]; exact below_drewN (Below.refl _ _) nq
  rw [← hwd]
  have HXd := Hd.mk (HX.out.below hBd)
  have HYd := Hd.mk (HYY.out.below hBd)
  have hB' := hB.trans (hBd.mono hB.size)
  clear hwd k0 k1 k2 k3 k4 k5 t1 t2 t3 t4 t5 s1 s2 s3 s4 s5 hB hBd HX HYY
  go_wp2_with fail
  refine (amount_any a _).mono ?_
  rintro e w3 ⟨v3, rfl, hb3, hB3⟩
  have HV3 := Hd.mk hb3
  have hB3' := hB'.trans (hB3.mono hB'.size)
  clear hB' hb3 hB3
  go_wp2_with fail
  refine (amount_any b _).mono ?_
  rintro e w4 ⟨v4, rfl, hb4, hB4⟩
  have HV34 := Hd.mk (HV3.out.below hB4)
  have HV4 := Hd.mk hb4
  have hB4' := hB3'.trans (hB4.mono hB3'.size)
  clear hB3' hb4 hB4
  go_wp2_with fail
  refine (divided_any _ _ (absV a) (absV b) HPOS.out _ HV34.out HV4.out).mono ?_
  rintro e w5 ⟨v5, v6, rfl, hq, hr, hB5⟩
  have HQ := Hd.mk hq
  have HR := Hd.mk hr
  have hB5' := hB4'.trans (hB5.mono hB4'.size)
  clear hB4' hq hr hB5
  go_wp2_with fail
  refine (negated_any _ (absV a % absV b) (a.slt 0#64) _ HR.out).mono ?_
  rintro e w7 ⟨rfl, hB7⟩
  have hB7' := hB5'.trans (hB7.mono hB5'.size)
  rw [srem_abs]
  go_wp2_with fail
  go_ret2
  exact ⟨by rw [appV_5 a b HNZ.out]; rfl, hB7'⟩
end Go.Proofs.Ytbmommomhepfpaa
