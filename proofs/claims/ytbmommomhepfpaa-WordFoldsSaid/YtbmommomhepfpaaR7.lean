/- Walk of the reference's Apply: shifts and tests. -/
import Derived.Test.YtbmommomhepfpaaR6
namespace Go.Proofs.Ytbmommomhepfpaa
open Go.RowKit
set_option linter.unusedVariables false

theorem n63 (b : BitVec 64) : (b &&& 63#64).toNat ≤ 63 := by
  have h : (b &&& 63#64).toNat = b.toNat % 64 := by
    rw [BitVec.toNat_and]; exact Nat.and_two_pow_sub_one_eq_mod _ 6
  omega
theorem shr_bits (a : BitVec 64) (n j : Nat) (_hj : j < 64) : (if j + n < 64 then bi a (j + n) else 0) = bi (a >>> n) j := by
  unfold bi
  rw [BitVec.getLsbD_ushiftRight, Nat.add_comm n j]
  split
  · rfl
  · rw [BitVec.getLsbD_of_ge _ _ (by omega)]; rfl
theorem sar_bits (a : BitVec 64) (n j : Nat) (hj : j < 64) : (if j + n < 64 then bi a (j + n) else bi a 63) = bi (a.sshiftRight n) j := by
  unfold bi
  rw [BitVec.getLsbD_sshiftRight, Nat.add_comm n j]
  simp only [Nat.not_le.2 hj, decide_false, Bool.not_false, Bool.true_and]
  split
  · rfl
  · rw [BitVec.msb_eq_getLsbD_last]
theorem truth_s (is : Bool) : Value.int .i64 (if is then 1 else 0) = s (truthV is) := by cases is <;> rfl

set_option maxRecDepth 100000 in
set_option maxHeartbeats 1000000 in
theorem refApply_10f (a b : BitVec 64) (hz : (b == 0#64) = false) (w : World) : Calls Try.prog 30 #[.int .u8 10, s a, s b] w fun e w' => e = .returned (.tuple #[s (appV 10 a b), .int .i64 0]) ∧ Below w.heap.size w w' := by
  have HLOW := Hd.mk (low6 b)
  go_enter Try.func30, Try.ntmps30
  go_wp2_with fail
  refine (bits_any a _).mono ?_
  rintro e w1 ⟨v1, rfl, hb1, hB1⟩
  have HV1 := Hd.mk hb1
  clear hb1
  go_wp2_with fail
  refine (bits_any b _).mono ?_
  rintro e w2 ⟨v2, rfl, hb2, hB2⟩
  have HX := Hd.mk (HV1.out.below hB2)
  have HYY := Hd.mk hb2
  have hB := hB1.trans (hB2.mono hB1.size)
  obtain ⟨b9, off9, c9, rfl, hc9, _, hbw9, hcell9⟩ := hb2
  have k0 := hcell9 0 (by decide)
  rw [Nat.add_zero] at k0
  have k1 := hcell9 1 (by decide)
  have k2 := hcell9 2 (by decide)
  have k3 := hcell9 3 (by decide)
  have k4 := hcell9 4 (by decide)
  have k5 := hcell9 5 (by decide)
  obtain ⟨l0, u0⟩ := bi_le b 0
  obtain ⟨l1, u1⟩ := bi_le b 1
  obtain ⟨l2, u2⟩ := bi_le b 2
  obtain ⟨l3, u3⟩ := bi_le b 3
  obtain ⟨l4, u4⟩ := bi_le b 4
  obtain ⟨l5, u5⟩ := bi_le b 5
  clear hcell9 hB1 hB2 HV1
  obtain ⟨p0, hp0⟩ : ∃ p, bi b 0 = p := ⟨_, rfl⟩
  obtain ⟨p1, hp1⟩ : ∃ p, bi b 1 = p := ⟨_, rfl⟩
  obtain ⟨p2, hp2⟩ : ∃ p, bi b 2 = p := ⟨_, rfl⟩
  obtain ⟨p3, hp3⟩ : ∃ p, bi b 3 = p := ⟨_, rfl⟩
  obtain ⟨p4, hp4⟩ : ∃ p, bi b 4 = p := ⟨_, rfl⟩
  obtain ⟨p5, hp5⟩ : ∃ p, bi b 5 = p := ⟨_, rfl⟩
  have hlow := HLOW.out
  rw [hp0, hp1, hp2, hp3, hp4, hp5] at hlow
  rw [hp0] at k0 l0 u0
  rw [hp1] at k1 l1 u1
  rw [hp2] at k2 l2 u2
  rw [hp3] at k3 l3 u3
  rw [hp4] at k4 l4 u4
  rw [hp5] at k5 l5 u5
  obtain ⟨t1, t2, t3, t4, t5, s1, s2, s3, s4, s5⟩ := sums6 p0 p1 p2 p3 p4 p5 l0 u0 l1 u1 l2 u2 l3 u3 l4 u4 l5 u5
  rw [hlow] at s5
  clear HLOW hp0 hp1 hp2 hp3 hp4 hp5
  have HL := Hd.mk hlow
  clear hlow
  go_wp2_with fail
  go_quiet (fail)
  obtain ⟨wd, hwd⟩ : ∃ wd, wd = w2.drewN nq := ⟨_, rfl⟩
  have hBd : Below w2.heap.size w2 wd := by rw [hwd]; exact below_drewN (Below.refl _ _) nq
  rw [← hwd]
  have HXd := Hd.mk (HX.out.below hBd)
  have HYd := Hd.mk (HYY.out.below hBd)
  have hB' := hB.trans (hBd.mono hB.size)
  clear hwd k0 k1 k2 k3 k4 k5 t1 t2 t3 t4 t5 s1 s2 s3 s4 s5 hB hBd HX HYY
  go_wp2_with fail
  rw [HL.out]
  refine (up_any _ a _ (n63 b) _ HXd.out).mono ?_
  rintro e w3 ⟨v3, rfl, hb3, hB3⟩
  have HV3 := Hd.mk hb3
  have HX3 := Hd.mk (HXd.out.below hB3)
  have hB3' := hB'.trans (hB3.mono hB'.size)
  clear hB' hb3
  have hB' := hB3'
  clear hB3'
  go_wp2_with fail
  refine (word_any _ _ _ HV3.out).mono ?_
  rintro e w20 ⟨rfl, rfl⟩
  go_wp2_with fail
  go_ret2
  exact ⟨by rw [appV_10]; rfl, hB'⟩

set_option maxRecDepth 100000 in
set_option maxHeartbeats 1000000 in
theorem refApply_10t (a b : BitVec 64) (hz : (b == 0#64) = true) (w : World) : Calls Try.prog 30 #[.int .u8 10, s a, s b] w fun e w' => e = .returned (.tuple #[s (appV 10 a b), .int .i64 0]) ∧ Below w.heap.size w w' := by
  have HLOW := Hd.mk (low6 b)
  go_enter Try.func30, Try.ntmps30
  go_wp2_with fail
  refine (bits_any a _).mono ?_
  rintro e w1 ⟨v1, rfl, hb1, hB1⟩
  have HV1 := Hd.mk hb1
  clear hb1
  go_wp2_with fail
  refine (bits_any b _).mono ?_
  rintro e w2 ⟨v2, rfl, hb2, hB2⟩
  have HX := Hd.mk (HV1.out.below hB2)
  have HYY := Hd.mk hb2
  have hB := hB1.trans (hB2.mono hB1.size)
  obtain ⟨b9, off9, c9, rfl, hc9, _, hbw9, hcell9⟩ := hb2
  have k0 := hcell9 0 (by decide)
  rw [Nat.add_zero] at k0
  have k1 := hcell9 1 (by decide)
  have k2 := hcell9 2 (by decide)
  have k3 := hcell9 3 (by decide)
  have k4 := hcell9 4 (by decide)
  have k5 := hcell9 5 (by decide)
  obtain ⟨l0, u0⟩ := bi_le b 0
  obtain ⟨l1, u1⟩ := bi_le b 1
  obtain ⟨l2, u2⟩ := bi_le b 2
  obtain ⟨l3, u3⟩ := bi_le b 3
  obtain ⟨l4, u4⟩ := bi_le b 4
  obtain ⟨l5, u5⟩ := bi_le b 5
  clear hcell9 hB1 hB2 HV1
  obtain ⟨p0, hp0⟩ : ∃ p, bi b 0 = p := ⟨_, rfl⟩
  obtain ⟨p1, hp1⟩ : ∃ p, bi b 1 = p := ⟨_, rfl⟩
  obtain ⟨p2, hp2⟩ : ∃ p, bi b 2 = p := ⟨_, rfl⟩
  obtain ⟨p3, hp3⟩ : ∃ p, bi b 3 = p := ⟨_, rfl⟩
  obtain ⟨p4, hp4⟩ : ∃ p, bi b 4 = p := ⟨_, rfl⟩
  obtain ⟨p5, hp5⟩ : ∃ p, bi b 5 = p := ⟨_, rfl⟩
  have hlow := HLOW.out
  rw [hp0, hp1, hp2, hp3, hp4, hp5] at hlow
  rw [hp0] at k0 l0 u0
  rw [hp1] at k1 l1 u1
  rw [hp2] at k2 l2 u2
  rw [hp3] at k3 l3 u3
  rw [hp4] at k4 l4 u4
  rw [hp5] at k5 l5 u5
  obtain ⟨t1, t2, t3, t4, t5, s1, s2, s3, s4, s5⟩ := sums6 p0 p1 p2 p3 p4 p5 l0 u0 l1 u1 l2 u2 l3 u3 l4 u4 l5 u5
  rw [hlow] at s5
  clear HLOW hp0 hp1 hp2 hp3 hp4 hp5
  have HL := Hd.mk hlow
  clear hlow
  go_wp2_with fail
  go_quiet (fail)
  obtain ⟨wd, hwd⟩ : ∃ wd, wd = w2.drewN nq := ⟨_, rfl⟩
  have hBd : Below w2.heap.size w2 wd := by rw [hwd]; exact below_drewN (Below.refl _ _) nq
  rw [← hwd]
  have HXd := Hd.mk (HX.out.below hBd)
  have HYd := Hd.mk (HYY.out.below hBd)
  have hB' := hB.trans (hBd.mono hB.size)
  clear hwd k0 k1 k2 k3 k4 k5 t1 t2 t3 t4 t5 s1 s2 s3 s4 s5 hB hBd HX HYY
  go_wp2_with fail
  rw [HL.out]
  refine (up_any _ a _ (n63 b) _ HXd.out).mono ?_
  rintro e w3 ⟨v3, rfl, hb3, hB3⟩
  have HV3 := Hd.mk hb3
  have HX3 := Hd.mk (HXd.out.below hB3)
  have hB3' := hB'.trans (hB3.mono hB'.size)
  clear hB' hb3
  have hB' := hB3'
  clear hB3'
  go_wp2_with fail
  refine (word_any _ _ _ HV3.out).mono ?_
  rintro e w20 ⟨rfl, rfl⟩
  go_wp2_with fail
  go_ret2
  exact ⟨by rw [appV_10]; rfl, hB'⟩

theorem refApply_10 (a b : BitVec 64) (w : World) : Calls Try.prog 30 #[.int .u8 10, s a, s b] w fun e w' => e = .returned (.tuple #[s (appV 10 a b), .int .i64 0]) ∧ Below w.heap.size w w' := by
  cases hz : (b == 0#64)
  · exact refApply_10f a b hz w
  · exact refApply_10t a b hz w

set_option maxRecDepth 100000 in
set_option maxHeartbeats 1000000 in
theorem refApply_11f (a b : BitVec 64) (hz : (b == 0#64) = false) (w : World) : Calls Try.prog 30 #[.int .u8 11, s a, s b] w fun e w' => e = .returned (.tuple #[s (appV 11 a b), .int .i64 0]) ∧ Below w.heap.size w w' := by
  have HLOW := Hd.mk (low6 b)
  go_enter Try.func30, Try.ntmps30
  go_wp2_with fail
  refine (bits_any a _).mono ?_
  rintro e w1 ⟨v1, rfl, hb1, hB1⟩
  have HV1 := Hd.mk hb1
  clear hb1
  go_wp2_with fail
  refine (bits_any b _).mono ?_
  rintro e w2 ⟨v2, rfl, hb2, hB2⟩
  have HX := Hd.mk (HV1.out.below hB2)
  have HYY := Hd.mk hb2
  have hB := hB1.trans (hB2.mono hB1.size)
  obtain ⟨b9, off9, c9, rfl, hc9, _, hbw9, hcell9⟩ := hb2
  have k0 := hcell9 0 (by decide)
  rw [Nat.add_zero] at k0
  have k1 := hcell9 1 (by decide)
  have k2 := hcell9 2 (by decide)
  have k3 := hcell9 3 (by decide)
  have k4 := hcell9 4 (by decide)
  have k5 := hcell9 5 (by decide)
  obtain ⟨l0, u0⟩ := bi_le b 0
  obtain ⟨l1, u1⟩ := bi_le b 1
  obtain ⟨l2, u2⟩ := bi_le b 2
  obtain ⟨l3, u3⟩ := bi_le b 3
  obtain ⟨l4, u4⟩ := bi_le b 4
  obtain ⟨l5, u5⟩ := bi_le b 5
  clear hcell9 hB1 hB2 HV1
  obtain ⟨p0, hp0⟩ : ∃ p, bi b 0 = p := ⟨_, rfl⟩
  obtain ⟨p1, hp1⟩ : ∃ p, bi b 1 = p := ⟨_, rfl⟩
  obtain ⟨p2, hp2⟩ : ∃ p, bi b 2 = p := ⟨_, rfl⟩
  obtain ⟨p3, hp3⟩ : ∃ p, bi b 3 = p := ⟨_, rfl⟩
  obtain ⟨p4, hp4⟩ : ∃ p, bi b 4 = p := ⟨_, rfl⟩
  obtain ⟨p5, hp5⟩ : ∃ p, bi b 5 = p := ⟨_, rfl⟩
  have hlow := HLOW.out
  rw [hp0, hp1, hp2, hp3, hp4, hp5] at hlow
  rw [hp0] at k0 l0 u0
  rw [hp1] at k1 l1 u1
  rw [hp2] at k2 l2 u2
  rw [hp3] at k3 l3 u3
  rw [hp4] at k4 l4 u4
  rw [hp5] at k5 l5 u5
  obtain ⟨t1, t2, t3, t4, t5, s1, s2, s3, s4, s5⟩ := sums6 p0 p1 p2 p3 p4 p5 l0 u0 l1 u1 l2 u2 l3 u3 l4 u4 l5 u5
  rw [hlow] at s5
  clear HLOW hp0 hp1 hp2 hp3 hp4 hp5
  have HL := Hd.mk hlow
  clear hlow
  go_wp2_with fail
  go_quiet (fail)
  obtain ⟨wd, hwd⟩ : ∃ wd, wd = w2.drewN nq := ⟨_, rfl⟩
  have hBd : Below w2.heap.size w2 wd := by rw [hwd]; exact below_drewN (Below.refl _ _) nq
  rw [← hwd]
  have HXd := Hd.mk (HX.out.below hBd)
  have HYd := Hd.mk (HYY.out.below hBd)
  have hB' := hB.trans (hBd.mono hB.size)
  clear hwd k0 k1 k2 k3 k4 k5 t1 t2 t3 t4 t5 s1 s2 s3 s4 s5 hB hBd HX HYY
  go_wp2_with fail
  rw [HL.out]
  refine (down_any _ a _ _ 0 (n63 b) (by decide) (shr_bits a _) _ HXd.out).mono ?_
  rintro e w3 ⟨v3, rfl, hb3, hB3⟩
  have HV3 := Hd.mk hb3
  have HX3 := Hd.mk (HXd.out.below hB3)
  have hB3' := hB'.trans (hB3.mono hB'.size)
  clear hB' hb3
  have hB' := hB3'
  clear hB3'
  go_wp2_with fail
  refine (word_any _ _ _ HV3.out).mono ?_
  rintro e w20 ⟨rfl, rfl⟩
  go_wp2_with fail
  go_ret2
  exact ⟨by rw [appV_11]; rfl, hB'⟩

set_option maxRecDepth 100000 in
set_option maxHeartbeats 1000000 in
theorem refApply_11t (a b : BitVec 64) (hz : (b == 0#64) = true) (w : World) : Calls Try.prog 30 #[.int .u8 11, s a, s b] w fun e w' => e = .returned (.tuple #[s (appV 11 a b), .int .i64 0]) ∧ Below w.heap.size w w' := by
  have HLOW := Hd.mk (low6 b)
  go_enter Try.func30, Try.ntmps30
  go_wp2_with fail
  refine (bits_any a _).mono ?_
  rintro e w1 ⟨v1, rfl, hb1, hB1⟩
  have HV1 := Hd.mk hb1
  clear hb1
  go_wp2_with fail
  refine (bits_any b _).mono ?_
  rintro e w2 ⟨v2, rfl, hb2, hB2⟩
  have HX := Hd.mk (HV1.out.below hB2)
  have HYY := Hd.mk hb2
  have hB := hB1.trans (hB2.mono hB1.size)
  obtain ⟨b9, off9, c9, rfl, hc9, _, hbw9, hcell9⟩ := hb2
  have k0 := hcell9 0 (by decide)
  rw [Nat.add_zero] at k0
  have k1 := hcell9 1 (by decide)
  have k2 := hcell9 2 (by decide)
  have k3 := hcell9 3 (by decide)
  have k4 := hcell9 4 (by decide)
  have k5 := hcell9 5 (by decide)
  obtain ⟨l0, u0⟩ := bi_le b 0
  obtain ⟨l1, u1⟩ := bi_le b 1
  obtain ⟨l2, u2⟩ := bi_le b 2
  obtain ⟨l3, u3⟩ := bi_le b 3
  obtain ⟨l4, u4⟩ := bi_le b 4
  obtain ⟨l5, u5⟩ := bi_le b 5
  clear hcell9 hB1 hB2 HV1
  obtain ⟨p0, hp0⟩ : ∃ p, bi b 0 = p := ⟨_, rfl⟩
  obtain ⟨p1, hp1⟩ : ∃ p, bi b 1 = p := ⟨_, rfl⟩
  obtain ⟨p2, hp2⟩ : ∃ p, bi b 2 = p := ⟨_, rfl⟩
  obtain ⟨p3, hp3⟩ : ∃ p, bi b 3 = p := ⟨_, rfl⟩
  obtain ⟨p4, hp4⟩ : ∃ p, bi b 4 = p := ⟨_, rfl⟩
  obtain ⟨p5, hp5⟩ : ∃ p, bi b 5 = p := ⟨_, rfl⟩
  have hlow := HLOW.out
  rw [hp0, hp1, hp2, hp3, hp4, hp5] at hlow
  rw [hp0] at k0 l0 u0
  rw [hp1] at k1 l1 u1
  rw [hp2] at k2 l2 u2
  rw [hp3] at k3 l3 u3
  rw [hp4] at k4 l4 u4
  rw [hp5] at k5 l5 u5
  obtain ⟨t1, t2, t3, t4, t5, s1, s2, s3, s4, s5⟩ := sums6 p0 p1 p2 p3 p4 p5 l0 u0 l1 u1 l2 u2 l3 u3 l4 u4 l5 u5
  rw [hlow] at s5
  clear HLOW hp0 hp1 hp2 hp3 hp4 hp5
  have HL := Hd.mk hlow
  clear hlow
  go_wp2_with fail
  go_quiet (fail)
  obtain ⟨wd, hwd⟩ : ∃ wd, wd = w2.drewN nq := ⟨_, rfl⟩
  have hBd : Below w2.heap.size w2 wd := by rw [hwd]; exact below_drewN (Below.refl _ _) nq
  rw [← hwd]
  have HXd := Hd.mk (HX.out.below hBd)
  have HYd := Hd.mk (HYY.out.below hBd)
  have hB' := hB.trans (hBd.mono hB.size)
  clear hwd k0 k1 k2 k3 k4 k5 t1 t2 t3 t4 t5 s1 s2 s3 s4 s5 hB hBd HX HYY
  go_wp2_with fail
  rw [HL.out]
  refine (down_any _ a _ _ 0 (n63 b) (by decide) (shr_bits a _) _ HXd.out).mono ?_
  rintro e w3 ⟨v3, rfl, hb3, hB3⟩
  have HV3 := Hd.mk hb3
  have HX3 := Hd.mk (HXd.out.below hB3)
  have hB3' := hB'.trans (hB3.mono hB'.size)
  clear hB' hb3
  have hB' := hB3'
  clear hB3'
  go_wp2_with fail
  refine (word_any _ _ _ HV3.out).mono ?_
  rintro e w20 ⟨rfl, rfl⟩
  go_wp2_with fail
  go_ret2
  exact ⟨by rw [appV_11]; rfl, hB'⟩

theorem refApply_11 (a b : BitVec 64) (w : World) : Calls Try.prog 30 #[.int .u8 11, s a, s b] w fun e w' => e = .returned (.tuple #[s (appV 11 a b), .int .i64 0]) ∧ Below w.heap.size w w' := by
  cases hz : (b == 0#64)
  · exact refApply_11f a b hz w
  · exact refApply_11t a b hz w

set_option maxRecDepth 100000 in
set_option maxHeartbeats 1000000 in
theorem refApply_12f (a b : BitVec 64) (hz : (b == 0#64) = false) (w : World) : Calls Try.prog 30 #[.int .u8 12, s a, s b] w fun e w' => e = .returned (.tuple #[s (appV 12 a b), .int .i64 0]) ∧ Below w.heap.size w w' := by
  have HLOW := Hd.mk (low6 b)
  go_enter Try.func30, Try.ntmps30
  go_wp2_with fail
  refine (bits_any a _).mono ?_
  rintro e w1 ⟨v1, rfl, hb1, hB1⟩
  have HV1 := Hd.mk hb1
  clear hb1
  go_wp2_with fail
  refine (bits_any b _).mono ?_
  rintro e w2 ⟨v2, rfl, hb2, hB2⟩
  have HX := Hd.mk (HV1.out.below hB2)
  have HYY := Hd.mk hb2
  have hB := hB1.trans (hB2.mono hB1.size)
  obtain ⟨b9, off9, c9, rfl, hc9, _, hbw9, hcell9⟩ := hb2
  have k0 := hcell9 0 (by decide)
  rw [Nat.add_zero] at k0
  have k1 := hcell9 1 (by decide)
  have k2 := hcell9 2 (by decide)
  have k3 := hcell9 3 (by decide)
  have k4 := hcell9 4 (by decide)
  have k5 := hcell9 5 (by decide)
  obtain ⟨l0, u0⟩ := bi_le b 0
  obtain ⟨l1, u1⟩ := bi_le b 1
  obtain ⟨l2, u2⟩ := bi_le b 2
  obtain ⟨l3, u3⟩ := bi_le b 3
  obtain ⟨l4, u4⟩ := bi_le b 4
  obtain ⟨l5, u5⟩ := bi_le b 5
  clear hcell9 hB1 hB2 HV1
  obtain ⟨p0, hp0⟩ : ∃ p, bi b 0 = p := ⟨_, rfl⟩
  obtain ⟨p1, hp1⟩ : ∃ p, bi b 1 = p := ⟨_, rfl⟩
  obtain ⟨p2, hp2⟩ : ∃ p, bi b 2 = p := ⟨_, rfl⟩
  obtain ⟨p3, hp3⟩ : ∃ p, bi b 3 = p := ⟨_, rfl⟩
  obtain ⟨p4, hp4⟩ : ∃ p, bi b 4 = p := ⟨_, rfl⟩
  obtain ⟨p5, hp5⟩ : ∃ p, bi b 5 = p := ⟨_, rfl⟩
  have hlow := HLOW.out
  rw [hp0, hp1, hp2, hp3, hp4, hp5] at hlow
  rw [hp0] at k0 l0 u0
  rw [hp1] at k1 l1 u1
  rw [hp2] at k2 l2 u2
  rw [hp3] at k3 l3 u3
  rw [hp4] at k4 l4 u4
  rw [hp5] at k5 l5 u5
  obtain ⟨t1, t2, t3, t4, t5, s1, s2, s3, s4, s5⟩ := sums6 p0 p1 p2 p3 p4 p5 l0 u0 l1 u1 l2 u2 l3 u3 l4 u4 l5 u5
  rw [hlow] at s5
  clear HLOW hp0 hp1 hp2 hp3 hp4 hp5
  have HL := Hd.mk hlow
  clear hlow
  go_wp2_with fail
  go_quiet (fail)
  obtain ⟨wd, hwd⟩ : ∃ wd, wd = w2.drewN nq := ⟨_, rfl⟩
  have hBd : Below w2.heap.size w2 wd := by rw [hwd]; exact below_drewN (Below.refl _ _) nq
  rw [← hwd]
  have HXd := Hd.mk (HX.out.below hBd)
  obtain ⟨b8, off8, c8, rfl, _, _, _, hcell8⟩ := HXd.out
  have k63 := hcell8 63 (by decide)
  clear hcell8
  have HYd := Hd.mk (HYY.out.below hBd)
  have hB' := hB.trans (hBd.mono hB.size)
  clear hwd k0 k1 k2 k3 k4 k5 t1 t2 t3 t4 t5 s1 s2 s3 s4 s5 hB hBd HX HYY
  go_wp2_with fail
  rw [HL.out]
  refine (down_any _ a _ _ (bi a 63) (n63 b) (bi_le a 63) (sar_bits a _) _ HXd.out).mono ?_
  rintro e w3 ⟨v3, rfl, hb3, hB3⟩
  have HV3 := Hd.mk hb3
  have HX3 := Hd.mk (HXd.out.below hB3)
  have hB3' := hB'.trans (hB3.mono hB'.size)
  clear hB' hb3
  have hB' := hB3'
  clear hB3'
  go_wp2_with fail
  refine (word_any _ _ _ HV3.out).mono ?_
  rintro e w20 ⟨rfl, rfl⟩
  go_wp2_with fail
  go_ret2
  exact ⟨by rw [appV_12]; rfl, hB'⟩

set_option maxRecDepth 100000 in
set_option maxHeartbeats 1000000 in
theorem refApply_12t (a b : BitVec 64) (hz : (b == 0#64) = true) (w : World) : Calls Try.prog 30 #[.int .u8 12, s a, s b] w fun e w' => e = .returned (.tuple #[s (appV 12 a b), .int .i64 0]) ∧ Below w.heap.size w w' := by
  have HLOW := Hd.mk (low6 b)
  go_enter Try.func30, Try.ntmps30
  go_wp2_with fail
  refine (bits_any a _).mono ?_
  rintro e w1 ⟨v1, rfl, hb1, hB1⟩
  have HV1 := Hd.mk hb1
  clear hb1
  go_wp2_with fail
  refine (bits_any b _).mono ?_
  rintro e w2 ⟨v2, rfl, hb2, hB2⟩
  have HX := Hd.mk (HV1.out.below hB2)
  have HYY := Hd.mk hb2
  have hB := hB1.trans (hB2.mono hB1.size)
  obtain ⟨b9, off9, c9, rfl, hc9, _, hbw9, hcell9⟩ := hb2
  have k0 := hcell9 0 (by decide)
  rw [Nat.add_zero] at k0
  have k1 := hcell9 1 (by decide)
  have k2 := hcell9 2 (by decide)
  have k3 := hcell9 3 (by decide)
  have k4 := hcell9 4 (by decide)
  have k5 := hcell9 5 (by decide)
  obtain ⟨l0, u0⟩ := bi_le b 0
  obtain ⟨l1, u1⟩ := bi_le b 1
  obtain ⟨l2, u2⟩ := bi_le b 2
  obtain ⟨l3, u3⟩ := bi_le b 3
  obtain ⟨l4, u4⟩ := bi_le b 4
  obtain ⟨l5, u5⟩ := bi_le b 5
  clear hcell9 hB1 hB2 HV1
  obtain ⟨p0, hp0⟩ : ∃ p, bi b 0 = p := ⟨_, rfl⟩
  obtain ⟨p1, hp1⟩ : ∃ p, bi b 1 = p := ⟨_, rfl⟩
  obtain ⟨p2, hp2⟩ : ∃ p, bi b 2 = p := ⟨_, rfl⟩
  obtain ⟨p3, hp3⟩ : ∃ p, bi b 3 = p := ⟨_, rfl⟩
  obtain ⟨p4, hp4⟩ : ∃ p, bi b 4 = p := ⟨_, rfl⟩
  obtain ⟨p5, hp5⟩ : ∃ p, bi b 5 = p := ⟨_, rfl⟩
  have hlow := HLOW.out
  rw [hp0, hp1, hp2, hp3, hp4, hp5] at hlow
  rw [hp0] at k0 l0 u0
  rw [hp1] at k1 l1 u1
  rw [hp2] at k2 l2 u2
  rw [hp3] at k3 l3 u3
  rw [hp4] at k4 l4 u4
  rw [hp5] at k5 l5 u5
  obtain ⟨t1, t2, t3, t4, t5, s1, s2, s3, s4, s5⟩ := sums6 p0 p1 p2 p3 p4 p5 l0 u0 l1 u1 l2 u2 l3 u3 l4 u4 l5 u5
  rw [hlow] at s5
  clear HLOW hp0 hp1 hp2 hp3 hp4 hp5
  have HL := Hd.mk hlow
  clear hlow
  go_wp2_with fail
  go_quiet (fail)
  obtain ⟨wd, hwd⟩ : ∃ wd, wd = w2.drewN nq := ⟨_, rfl⟩
  have hBd : Below w2.heap.size w2 wd := by rw [hwd]; exact below_drewN (Below.refl _ _) nq
  rw [← hwd]
  have HXd := Hd.mk (HX.out.below hBd)
  obtain ⟨b8, off8, c8, rfl, _, _, _, hcell8⟩ := HXd.out
  have k63 := hcell8 63 (by decide)
  clear hcell8
  have HYd := Hd.mk (HYY.out.below hBd)
  have hB' := hB.trans (hBd.mono hB.size)
  clear hwd k0 k1 k2 k3 k4 k5 t1 t2 t3 t4 t5 s1 s2 s3 s4 s5 hB hBd HX HYY
  go_wp2_with fail
  rw [HL.out]
  refine (down_any _ a _ _ (bi a 63) (n63 b) (bi_le a 63) (sar_bits a _) _ HXd.out).mono ?_
  rintro e w3 ⟨v3, rfl, hb3, hB3⟩
  have HV3 := Hd.mk hb3
  have HX3 := Hd.mk (HXd.out.below hB3)
  have hB3' := hB'.trans (hB3.mono hB'.size)
  clear hB' hb3
  have hB' := hB3'
  clear hB3'
  go_wp2_with fail
  refine (word_any _ _ _ HV3.out).mono ?_
  rintro e w20 ⟨rfl, rfl⟩
  go_wp2_with fail
  go_ret2
  exact ⟨by rw [appV_12]; rfl, hB'⟩

theorem refApply_12 (a b : BitVec 64) (w : World) : Calls Try.prog 30 #[.int .u8 12, s a, s b] w fun e w' => e = .returned (.tuple #[s (appV 12 a b), .int .i64 0]) ∧ Below w.heap.size w w' := by
  cases hz : (b == 0#64)
  · exact refApply_12f a b hz w
  · exact refApply_12t a b hz w

set_option maxRecDepth 100000 in
set_option maxHeartbeats 1000000 in
theorem refApply_13f (a b : BitVec 64) (hz : (b == 0#64) = false) (w : World) : Calls Try.prog 30 #[.int .u8 13, s a, s b] w fun e w' => e = .returned (.tuple #[s (appV 13 a b), .int .i64 0]) ∧ Below w.heap.size w w' := by
  have HLOW := Hd.mk (low6 b)
  go_enter Try.func30, Try.ntmps30
  go_wp2_with fail
  refine (bits_any a _).mono ?_
  rintro e w1 ⟨v1, rfl, hb1, hB1⟩
  have HV1 := Hd.mk hb1
  clear hb1
  go_wp2_with fail
  refine (bits_any b _).mono ?_
  rintro e w2 ⟨v2, rfl, hb2, hB2⟩
  have HX := Hd.mk (HV1.out.below hB2)
  have HYY := Hd.mk hb2
  have hB := hB1.trans (hB2.mono hB1.size)
  obtain ⟨b9, off9, c9, rfl, hc9, _, hbw9, hcell9⟩ := hb2
  have k0 := hcell9 0 (by decide)
  rw [Nat.add_zero] at k0
  have k1 := hcell9 1 (by decide)
  have k2 := hcell9 2 (by decide)
  have k3 := hcell9 3 (by decide)
  have k4 := hcell9 4 (by decide)
  have k5 := hcell9 5 (by decide)
  obtain ⟨l0, u0⟩ := bi_le b 0
  obtain ⟨l1, u1⟩ := bi_le b 1
  obtain ⟨l2, u2⟩ := bi_le b 2
  obtain ⟨l3, u3⟩ := bi_le b 3
  obtain ⟨l4, u4⟩ := bi_le b 4
  obtain ⟨l5, u5⟩ := bi_le b 5
  clear hcell9 hB1 hB2 HV1
  obtain ⟨p0, hp0⟩ : ∃ p, bi b 0 = p := ⟨_, rfl⟩
  obtain ⟨p1, hp1⟩ : ∃ p, bi b 1 = p := ⟨_, rfl⟩
  obtain ⟨p2, hp2⟩ : ∃ p, bi b 2 = p := ⟨_, rfl⟩
  obtain ⟨p3, hp3⟩ : ∃ p, bi b 3 = p := ⟨_, rfl⟩
  obtain ⟨p4, hp4⟩ : ∃ p, bi b 4 = p := ⟨_, rfl⟩
  obtain ⟨p5, hp5⟩ : ∃ p, bi b 5 = p := ⟨_, rfl⟩
  have hlow := HLOW.out
  rw [hp0, hp1, hp2, hp3, hp4, hp5] at hlow
  rw [hp0] at k0 l0 u0
  rw [hp1] at k1 l1 u1
  rw [hp2] at k2 l2 u2
  rw [hp3] at k3 l3 u3
  rw [hp4] at k4 l4 u4
  rw [hp5] at k5 l5 u5
  obtain ⟨t1, t2, t3, t4, t5, s1, s2, s3, s4, s5⟩ := sums6 p0 p1 p2 p3 p4 p5 l0 u0 l1 u1 l2 u2 l3 u3 l4 u4 l5 u5
  rw [hlow] at s5
  clear HLOW hp0 hp1 hp2 hp3 hp4 hp5
  have HL := Hd.mk hlow
  clear hlow
  go_wp2_with fail
  go_quiet (fail)
  obtain ⟨wd, hwd⟩ : ∃ wd, wd = w2.drewN nq := ⟨_, rfl⟩
  have hBd : Below w2.heap.size w2 wd := by rw [hwd]; exact below_drewN (Below.refl _ _) nq
  rw [← hwd]
  have HXd := Hd.mk (HX.out.below hBd)
  have HYd := Hd.mk (HYY.out.below hBd)
  have hB' := hB.trans (hBd.mono hB.size)
  clear hwd k0 k1 k2 k3 k4 k5 t1 t2 t3 t4 t5 s1 s2 s3 s4 s5 hB hBd HX HYY
  go_wp2_with fail
  refine (truth_ref (a.slt b) _).mono ?_
  rintro e w20 ⟨rfl, rfl⟩
  rw [truth_s]
  go_wp2_with fail
  go_ret2
  exact ⟨by rw [appV_13]; rfl, hB'⟩

set_option maxRecDepth 100000 in
set_option maxHeartbeats 1000000 in
theorem refApply_13t (a b : BitVec 64) (hz : (b == 0#64) = true) (w : World) : Calls Try.prog 30 #[.int .u8 13, s a, s b] w fun e w' => e = .returned (.tuple #[s (appV 13 a b), .int .i64 0]) ∧ Below w.heap.size w w' := by
  have HLOW := Hd.mk (low6 b)
  go_enter Try.func30, Try.ntmps30
  go_wp2_with fail
  refine (bits_any a _).mono ?_
  rintro e w1 ⟨v1, rfl, hb1, hB1⟩
  have HV1 := Hd.mk hb1
  clear hb1
  go_wp2_with fail
  refine (bits_any b _).mono ?_
  rintro e w2 ⟨v2, rfl, hb2, hB2⟩
  have HX := Hd.mk (HV1.out.below hB2)
  have HYY := Hd.mk hb2
  have hB := hB1.trans (hB2.mono hB1.size)
  obtain ⟨b9, off9, c9, rfl, hc9, _, hbw9, hcell9⟩ := hb2
  have k0 := hcell9 0 (by decide)
  rw [Nat.add_zero] at k0
  have k1 := hcell9 1 (by decide)
  have k2 := hcell9 2 (by decide)
  have k3 := hcell9 3 (by decide)
  have k4 := hcell9 4 (by decide)
  have k5 := hcell9 5 (by decide)
  obtain ⟨l0, u0⟩ := bi_le b 0
  obtain ⟨l1, u1⟩ := bi_le b 1
  obtain ⟨l2, u2⟩ := bi_le b 2
  obtain ⟨l3, u3⟩ := bi_le b 3
  obtain ⟨l4, u4⟩ := bi_le b 4
  obtain ⟨l5, u5⟩ := bi_le b 5
  clear hcell9 hB1 hB2 HV1
  obtain ⟨p0, hp0⟩ : ∃ p, bi b 0 = p := ⟨_, rfl⟩
  obtain ⟨p1, hp1⟩ : ∃ p, bi b 1 = p := ⟨_, rfl⟩
  obtain ⟨p2, hp2⟩ : ∃ p, bi b 2 = p := ⟨_, rfl⟩
  obtain ⟨p3, hp3⟩ : ∃ p, bi b 3 = p := ⟨_, rfl⟩
  obtain ⟨p4, hp4⟩ : ∃ p, bi b 4 = p := ⟨_, rfl⟩
  obtain ⟨p5, hp5⟩ : ∃ p, bi b 5 = p := ⟨_, rfl⟩
  have hlow := HLOW.out
  rw [hp0, hp1, hp2, hp3, hp4, hp5] at hlow
  rw [hp0] at k0 l0 u0
  rw [hp1] at k1 l1 u1
  rw [hp2] at k2 l2 u2
  rw [hp3] at k3 l3 u3
  rw [hp4] at k4 l4 u4
  rw [hp5] at k5 l5 u5
  obtain ⟨t1, t2, t3, t4, t5, s1, s2, s3, s4, s5⟩ := sums6 p0 p1 p2 p3 p4 p5 l0 u0 l1 u1 l2 u2 l3 u3 l4 u4 l5 u5
  rw [hlow] at s5
  clear HLOW hp0 hp1 hp2 hp3 hp4 hp5
  have HL := Hd.mk hlow
  clear hlow
  go_wp2_with fail
  go_quiet (fail)
  obtain ⟨wd, hwd⟩ : ∃ wd, wd = w2.drewN nq := ⟨_, rfl⟩
  have hBd : Below w2.heap.size w2 wd := by rw [hwd]; exact below_drewN (Below.refl _ _) nq
  rw [← hwd]
  have HXd := Hd.mk (HX.out.below hBd)
  have HYd := Hd.mk (HYY.out.below hBd)
  have hB' := hB.trans (hBd.mono hB.size)
  clear hwd k0 k1 k2 k3 k4 k5 t1 t2 t3 t4 t5 s1 s2 s3 s4 s5 hB hBd HX HYY
  go_wp2_with fail
  refine (truth_ref (a.slt b) _).mono ?_
  rintro e w20 ⟨rfl, rfl⟩
  rw [truth_s]
  go_wp2_with fail
  go_ret2
  exact ⟨by rw [appV_13]; rfl, hB'⟩

theorem refApply_13 (a b : BitVec 64) (w : World) : Calls Try.prog 30 #[.int .u8 13, s a, s b] w fun e w' => e = .returned (.tuple #[s (appV 13 a b), .int .i64 0]) ∧ Below w.heap.size w w' := by
  cases hz : (b == 0#64)
  · exact refApply_13f a b hz w
  · exact refApply_13t a b hz w

set_option maxRecDepth 100000 in
set_option maxHeartbeats 1000000 in
theorem refApply_14f (a b : BitVec 64) (hz : (b == 0#64) = false) (w : World) : Calls Try.prog 30 #[.int .u8 14, s a, s b] w fun e w' => e = .returned (.tuple #[s (appV 14 a b), .int .i64 0]) ∧ Below w.heap.size w w' := by
  have HLOW := Hd.mk (low6 b)
  go_enter Try.func30, Try.ntmps30
  go_wp2_with fail
  refine (bits_any a _).mono ?_
  rintro e w1 ⟨v1, rfl, hb1, hB1⟩
  have HV1 := Hd.mk hb1
  clear hb1
  go_wp2_with fail
  refine (bits_any b _).mono ?_
  rintro e w2 ⟨v2, rfl, hb2, hB2⟩
  have HX := Hd.mk (HV1.out.below hB2)
  have HYY := Hd.mk hb2
  have hB := hB1.trans (hB2.mono hB1.size)
  obtain ⟨b9, off9, c9, rfl, hc9, _, hbw9, hcell9⟩ := hb2
  have k0 := hcell9 0 (by decide)
  rw [Nat.add_zero] at k0
  have k1 := hcell9 1 (by decide)
  have k2 := hcell9 2 (by decide)
  have k3 := hcell9 3 (by decide)
  have k4 := hcell9 4 (by decide)
  have k5 := hcell9 5 (by decide)
  obtain ⟨l0, u0⟩ := bi_le b 0
  obtain ⟨l1, u1⟩ := bi_le b 1
  obtain ⟨l2, u2⟩ := bi_le b 2
  obtain ⟨l3, u3⟩ := bi_le b 3
  obtain ⟨l4, u4⟩ := bi_le b 4
  obtain ⟨l5, u5⟩ := bi_le b 5
  clear hcell9 hB1 hB2 HV1
  obtain ⟨p0, hp0⟩ : ∃ p, bi b 0 = p := ⟨_, rfl⟩
  obtain ⟨p1, hp1⟩ : ∃ p, bi b 1 = p := ⟨_, rfl⟩
  obtain ⟨p2, hp2⟩ : ∃ p, bi b 2 = p := ⟨_, rfl⟩
  obtain ⟨p3, hp3⟩ : ∃ p, bi b 3 = p := ⟨_, rfl⟩
  obtain ⟨p4, hp4⟩ : ∃ p, bi b 4 = p := ⟨_, rfl⟩
  obtain ⟨p5, hp5⟩ : ∃ p, bi b 5 = p := ⟨_, rfl⟩
  have hlow := HLOW.out
  rw [hp0, hp1, hp2, hp3, hp4, hp5] at hlow
  rw [hp0] at k0 l0 u0
  rw [hp1] at k1 l1 u1
  rw [hp2] at k2 l2 u2
  rw [hp3] at k3 l3 u3
  rw [hp4] at k4 l4 u4
  rw [hp5] at k5 l5 u5
  obtain ⟨t1, t2, t3, t4, t5, s1, s2, s3, s4, s5⟩ := sums6 p0 p1 p2 p3 p4 p5 l0 u0 l1 u1 l2 u2 l3 u3 l4 u4 l5 u5
  rw [hlow] at s5
  clear HLOW hp0 hp1 hp2 hp3 hp4 hp5
  have HL := Hd.mk hlow
  clear hlow
  go_wp2_with fail
  go_quiet (fail)
  obtain ⟨wd, hwd⟩ : ∃ wd, wd = w2.drewN nq := ⟨_, rfl⟩
  have hBd : Below w2.heap.size w2 wd := by rw [hwd]; exact below_drewN (Below.refl _ _) nq
  rw [← hwd]
  have HXd := Hd.mk (HX.out.below hBd)
  have HYd := Hd.mk (HYY.out.below hBd)
  have hB' := hB.trans (hBd.mono hB.size)
  clear hwd k0 k1 k2 k3 k4 k5 t1 t2 t3 t4 t5 s1 s2 s3 s4 s5 hB hBd HX HYY
  go_wp2_with fail
  refine (less_any _ _ a b _ HXd.out HYd.out).mono ?_
  rintro e w3 ⟨rfl, hB3⟩
  have hB3' := hB'.trans (hB3.mono hB'.size)
  clear hB'
  have hB' := hB3'
  clear hB3 hB3'
  go_wp2_with fail
  refine (truth_ref (a.ult b) _).mono ?_
  rintro e w20 ⟨rfl, rfl⟩
  rw [truth_s]
  go_wp2_with fail
  go_ret2
  exact ⟨by rw [appV_14]; rfl, hB'⟩

set_option maxRecDepth 100000 in
set_option maxHeartbeats 1000000 in
theorem refApply_14t (a b : BitVec 64) (hz : (b == 0#64) = true) (w : World) : Calls Try.prog 30 #[.int .u8 14, s a, s b] w fun e w' => e = .returned (.tuple #[s (appV 14 a b), .int .i64 0]) ∧ Below w.heap.size w w' := by
  have HLOW := Hd.mk (low6 b)
  go_enter Try.func30, Try.ntmps30
  go_wp2_with fail
  refine (bits_any a _).mono ?_
  rintro e w1 ⟨v1, rfl, hb1, hB1⟩
  have HV1 := Hd.mk hb1
  clear hb1
  go_wp2_with fail
  refine (bits_any b _).mono ?_
  rintro e w2 ⟨v2, rfl, hb2, hB2⟩
  have HX := Hd.mk (HV1.out.below hB2)
  have HYY := Hd.mk hb2
  have hB := hB1.trans (hB2.mono hB1.size)
  obtain ⟨b9, off9, c9, rfl, hc9, _, hbw9, hcell9⟩ := hb2
  have k0 := hcell9 0 (by decide)
  rw [Nat.add_zero] at k0
  have k1 := hcell9 1 (by decide)
  have k2 := hcell9 2 (by decide)
  have k3 := hcell9 3 (by decide)
  have k4 := hcell9 4 (by decide)
  have k5 := hcell9 5 (by decide)
  obtain ⟨l0, u0⟩ := bi_le b 0
  obtain ⟨l1, u1⟩ := bi_le b 1
  obtain ⟨l2, u2⟩ := bi_le b 2
  obtain ⟨l3, u3⟩ := bi_le b 3
  obtain ⟨l4, u4⟩ := bi_le b 4
  obtain ⟨l5, u5⟩ := bi_le b 5
  clear hcell9 hB1 hB2 HV1
  obtain ⟨p0, hp0⟩ : ∃ p, bi b 0 = p := ⟨_, rfl⟩
  obtain ⟨p1, hp1⟩ : ∃ p, bi b 1 = p := ⟨_, rfl⟩
  obtain ⟨p2, hp2⟩ : ∃ p, bi b 2 = p := ⟨_, rfl⟩
  obtain ⟨p3, hp3⟩ : ∃ p, bi b 3 = p := ⟨_, rfl⟩
  obtain ⟨p4, hp4⟩ : ∃ p, bi b 4 = p := ⟨_, rfl⟩
  obtain ⟨p5, hp5⟩ : ∃ p, bi b 5 = p := ⟨_, rfl⟩
  have hlow := HLOW.out
  rw [hp0, hp1, hp2, hp3, hp4, hp5] at hlow
  rw [hp0] at k0 l0 u0
  rw [hp1] at k1 l1 u1
  rw [hp2] at k2 l2 u2
  rw [hp3] at k3 l3 u3
  rw [hp4] at k4 l4 u4
  rw [hp5] at k5 l5 u5
  obtain ⟨t1, t2, t3, t4, t5, s1, s2, s3, s4, s5⟩ := sums6 p0 p1 p2 p3 p4 p5 l0 u0 l1 u1 l2 u2 l3 u3 l4 u4 l5 u5
  rw [hlow] at s5
  clear HLOW hp0 hp1 hp2 hp3 hp4 hp5
  have HL := Hd.mk hlow
  clear hlow
  go_wp2_with fail
  go_quiet (fail)
  obtain ⟨wd, hwd⟩ : ∃ wd, wd = w2.drewN nq := ⟨_, rfl⟩
  have hBd : Below w2.heap.size w2 wd := by rw [hwd]; exact below_drewN (Below.refl _ _) nq
  rw [← hwd]
  have HXd := Hd.mk (HX.out.below hBd)
  have HYd := Hd.mk (HYY.out.below hBd)
  have hB' := hB.trans (hBd.mono hB.size)
  clear hwd k0 k1 k2 k3 k4 k5 t1 t2 t3 t4 t5 s1 s2 s3 s4 s5 hB hBd HX HYY
  go_wp2_with fail
  refine (less_any _ _ a b _ HXd.out HYd.out).mono ?_
  rintro e w3 ⟨rfl, hB3⟩
  have hB3' := hB'.trans (hB3.mono hB'.size)
  clear hB'
  have hB' := hB3'
  clear hB3 hB3'
  go_wp2_with fail
  refine (truth_ref (a.ult b) _).mono ?_
  rintro e w20 ⟨rfl, rfl⟩
  rw [truth_s]
  go_wp2_with fail
  go_ret2
  exact ⟨by rw [appV_14]; rfl, hB'⟩

theorem refApply_14 (a b : BitVec 64) (w : World) : Calls Try.prog 30 #[.int .u8 14, s a, s b] w fun e w' => e = .returned (.tuple #[s (appV 14 a b), .int .i64 0]) ∧ Below w.heap.size w w' := by
  cases hz : (b == 0#64)
  · exact refApply_14f a b hz w
  · exact refApply_14t a b hz w

set_option maxRecDepth 100000 in
set_option maxHeartbeats 1000000 in
theorem refApply_15f (a b : BitVec 64) (hz : (b == 0#64) = false) (w : World) : Calls Try.prog 30 #[.int .u8 15, s a, s b] w fun e w' => e = .returned (.tuple #[s (appV 15 a b), .int .i64 0]) ∧ Below w.heap.size w w' := by
  have HLOW := Hd.mk (low6 b)
  go_enter Try.func30, Try.ntmps30
  go_wp2_with fail
  refine (bits_any a _).mono ?_
  rintro e w1 ⟨v1, rfl, hb1, hB1⟩
  have HV1 := Hd.mk hb1
  clear hb1
  go_wp2_with fail
  refine (bits_any b _).mono ?_
  rintro e w2 ⟨v2, rfl, hb2, hB2⟩
  have HX := Hd.mk (HV1.out.below hB2)
  have HYY := Hd.mk hb2
  have hB := hB1.trans (hB2.mono hB1.size)
  obtain ⟨b9, off9, c9, rfl, hc9, _, hbw9, hcell9⟩ := hb2
  have k0 := hcell9 0 (by decide)
  rw [Nat.add_zero] at k0
  have k1 := hcell9 1 (by decide)
  have k2 := hcell9 2 (by decide)
  have k3 := hcell9 3 (by decide)
  have k4 := hcell9 4 (by decide)
  have k5 := hcell9 5 (by decide)
  obtain ⟨l0, u0⟩ := bi_le b 0
  obtain ⟨l1, u1⟩ := bi_le b 1
  obtain ⟨l2, u2⟩ := bi_le b 2
  obtain ⟨l3, u3⟩ := bi_le b 3
  obtain ⟨l4, u4⟩ := bi_le b 4
  obtain ⟨l5, u5⟩ := bi_le b 5
  clear hcell9 hB1 hB2 HV1
  obtain ⟨p0, hp0⟩ : ∃ p, bi b 0 = p := ⟨_, rfl⟩
  obtain ⟨p1, hp1⟩ : ∃ p, bi b 1 = p := ⟨_, rfl⟩
  obtain ⟨p2, hp2⟩ : ∃ p, bi b 2 = p := ⟨_, rfl⟩
  obtain ⟨p3, hp3⟩ : ∃ p, bi b 3 = p := ⟨_, rfl⟩
  obtain ⟨p4, hp4⟩ : ∃ p, bi b 4 = p := ⟨_, rfl⟩
  obtain ⟨p5, hp5⟩ : ∃ p, bi b 5 = p := ⟨_, rfl⟩
  have hlow := HLOW.out
  rw [hp0, hp1, hp2, hp3, hp4, hp5] at hlow
  rw [hp0] at k0 l0 u0
  rw [hp1] at k1 l1 u1
  rw [hp2] at k2 l2 u2
  rw [hp3] at k3 l3 u3
  rw [hp4] at k4 l4 u4
  rw [hp5] at k5 l5 u5
  obtain ⟨t1, t2, t3, t4, t5, s1, s2, s3, s4, s5⟩ := sums6 p0 p1 p2 p3 p4 p5 l0 u0 l1 u1 l2 u2 l3 u3 l4 u4 l5 u5
  rw [hlow] at s5
  clear HLOW hp0 hp1 hp2 hp3 hp4 hp5
  have HL := Hd.mk hlow
  clear hlow
  go_wp2_with fail
  go_quiet (fail)
  obtain ⟨wd, hwd⟩ : ∃ wd, wd = w2.drewN nq := ⟨_, rfl⟩
  have hBd : Below w2.heap.size w2 wd := by rw [hwd]; exact below_drewN (Below.refl _ _) nq
  rw [← hwd]
  have HXd := Hd.mk (HX.out.below hBd)
  have HYd := Hd.mk (HYY.out.below hBd)
  have hB' := hB.trans (hBd.mono hB.size)
  clear hwd k0 k1 k2 k3 k4 k5 t1 t2 t3 t4 t5 s1 s2 s3 s4 s5 hB hBd HX HYY
  go_wp2_with fail
  refine (truth_ref (a == b) _).mono ?_
  rintro e w20 ⟨rfl, rfl⟩
  rw [truth_s]
  go_wp2_with fail
  go_ret2
  exact ⟨by rw [appV_15]; rfl, hB'⟩

set_option maxRecDepth 100000 in
set_option maxHeartbeats 1000000 in
theorem refApply_15t (a b : BitVec 64) (hz : (b == 0#64) = true) (w : World) : Calls Try.prog 30 #[.int .u8 15, s a, s b] w fun e w' => e = .returned (.tuple #[s (appV 15 a b), .int .i64 0]) ∧ Below w.heap.size w w' := by
  have HLOW := Hd.mk (low6 b)
  go_enter Try.func30, Try.ntmps30
  go_wp2_with fail
  refine (bits_any a _).mono ?_
  rintro e w1 ⟨v1, rfl, hb1, hB1⟩
  have HV1 := Hd.mk hb1
  clear hb1
  go_wp2_with fail
  refine (bits_any b _).mono ?_
  rintro e w2 ⟨v2, rfl, hb2, hB2⟩
  have HX := Hd.mk (HV1.out.below hB2)
  have HYY := Hd.mk hb2
  have hB := hB1.trans (hB2.mono hB1.size)
  obtain ⟨b9, off9, c9, rfl, hc9, _, hbw9, hcell9⟩ := hb2
  have k0 := hcell9 0 (by decide)
  rw [Nat.add_zero] at k0
  have k1 := hcell9 1 (by decide)
  have k2 := hcell9 2 (by decide)
  have k3 := hcell9 3 (by decide)
  have k4 := hcell9 4 (by decide)
  have k5 := hcell9 5 (by decide)
  obtain ⟨l0, u0⟩ := bi_le b 0
  obtain ⟨l1, u1⟩ := bi_le b 1
  obtain ⟨l2, u2⟩ := bi_le b 2
  obtain ⟨l3, u3⟩ := bi_le b 3
  obtain ⟨l4, u4⟩ := bi_le b 4
  obtain ⟨l5, u5⟩ := bi_le b 5
  clear hcell9 hB1 hB2 HV1
  obtain ⟨p0, hp0⟩ : ∃ p, bi b 0 = p := ⟨_, rfl⟩
  obtain ⟨p1, hp1⟩ : ∃ p, bi b 1 = p := ⟨_, rfl⟩
  obtain ⟨p2, hp2⟩ : ∃ p, bi b 2 = p := ⟨_, rfl⟩
  obtain ⟨p3, hp3⟩ : ∃ p, bi b 3 = p := ⟨_, rfl⟩
  obtain ⟨p4, hp4⟩ : ∃ p, bi b 4 = p := ⟨_, rfl⟩
  obtain ⟨p5, hp5⟩ : ∃ p, bi b 5 = p := ⟨_, rfl⟩
  have hlow := HLOW.out
  rw [hp0, hp1, hp2, hp3, hp4, hp5] at hlow
  rw [hp0] at k0 l0 u0
  rw [hp1] at k1 l1 u1
  rw [hp2] at k2 l2 u2
  rw [hp3] at k3 l3 u3
  rw [hp4] at k4 l4 u4
  rw [hp5] at k5 l5 u5
  obtain ⟨t1, t2, t3, t4, t5, s1, s2, s3, s4, s5⟩ := sums6 p0 p1 p2 p3 p4 p5 l0 u0 l1 u1 l2 u2 l3 u3 l4 u4 l5 u5
  rw [hlow] at s5
  clear HLOW hp0 hp1 hp2 hp3 hp4 hp5
  have HL := Hd.mk hlow
  clear hlow
  go_wp2_with fail
  go_quiet (fail)
  obtain ⟨wd, hwd⟩ : ∃ wd, wd = w2.drewN nq := ⟨_, rfl⟩
  have hBd : Below w2.heap.size w2 wd := by rw [hwd]; exact below_drewN (Below.refl _ _) nq
  rw [← hwd]
  have HXd := Hd.mk (HX.out.below hBd)
  have HYd := Hd.mk (HYY.out.below hBd)
  have hB' := hB.trans (hBd.mono hB.size)
  clear hwd k0 k1 k2 k3 k4 k5 t1 t2 t3 t4 t5 s1 s2 s3 s4 s5 hB hBd HX HYY
  go_wp2_with fail
  refine (truth_ref (a == b) _).mono ?_
  rintro e w20 ⟨rfl, rfl⟩
  rw [truth_s]
  go_wp2_with fail
  go_ret2
  exact ⟨by rw [appV_15]; rfl, hB'⟩

theorem refApply_15 (a b : BitVec 64) (w : World) : Calls Try.prog 30 #[.int .u8 15, s a, s b] w fun e w' => e = .returned (.tuple #[s (appV 15 a b), .int .i64 0]) ∧ Below w.heap.size w w' := by
  cases hz : (b == 0#64)
  · exact refApply_15f a b hz w
  · exact refApply_15t a b hz w
end Go.Proofs.Ytbmommomhepfpaa
