/- Walk of the reference's Apply. -/
import Derived.Test.YtbmommomhepfpaaR5
namespace Go.Proofs.Ytbmommomhepfpaa
open Go.RowKit
set_option linter.unusedVariables false

theorem low6 (b : BitVec 64) : bi b 0 + 2 * bi b 1 + 4 * bi b 2 + 8 * bi b 3 + 16 * bi b 4 + 32 * bi b 5 = (((b &&& 63#64).toNat : Nat) : Int) := by
  have h : (b &&& 63#64).toNat = b.toNat % 64 := by
    rw [BitVec.toNat_and]; exact Nat.and_two_pow_sub_one_eq_mod _ 6
  rw [h, bi_nat, bi_nat, bi_nat, bi_nat, bi_nat, bi_nat]
  have := b.isLt
  omega

theorem sums6 (p0 p1 p2 p3 p4 p5 : Int) (l0 : 0 ≤ p0) (u0 : p0 ≤ 1) (l1 : 0 ≤ p1) (u1 : p1 ≤ 1) (l2 : 0 ≤ p2) (u2 : p2 ≤ 1) (l3 : 0 ≤ p3) (u3 : p3 ≤ 1) (l4 : 0 ≤ p4) (u4 : p4 ≤ 1) (l5 : 0 ≤ p5) (u5 : p5 ≤ 1) :
    IntKind.i64.wrap (2 * p1) = 2 * p1 ∧ IntKind.i64.wrap (4 * p2) = 4 * p2 ∧ IntKind.i64.wrap (8 * p3) = 8 * p3 ∧ IntKind.i64.wrap (16 * p4) = 16 * p4 ∧ IntKind.i64.wrap (32 * p5) = 32 * p5 ∧
    IntKind.i64.wrap (p0 + 2 * p1) = p0 + 2 * p1 ∧ IntKind.i64.wrap (p0 + 2 * p1 + 4 * p2) = p0 + 2 * p1 + 4 * p2 ∧ IntKind.i64.wrap (p0 + 2 * p1 + 4 * p2 + 8 * p3) = p0 + 2 * p1 + 4 * p2 + 8 * p3 ∧
    IntKind.i64.wrap (p0 + 2 * p1 + 4 * p2 + 8 * p3 + 16 * p4) = p0 + 2 * p1 + 4 * p2 + 8 * p3 + 16 * p4 ∧
    IntKind.i64.wrap (p0 + 2 * p1 + 4 * p2 + 8 * p3 + 16 * p4 + 32 * p5) = p0 + 2 * p1 + 4 * p2 + 8 * p3 + 16 * p4 + 32 * p5 :=
  ⟨IntWalk.i64_in _ ⟨by omega, by omega⟩, IntWalk.i64_in _ ⟨by omega, by omega⟩, IntWalk.i64_in _ ⟨by omega, by omega⟩, IntWalk.i64_in _ ⟨by omega, by omega⟩, IntWalk.i64_in _ ⟨by omega, by omega⟩,
   IntWalk.i64_in _ ⟨by omega, by omega⟩, IntWalk.i64_in _ ⟨by omega, by omega⟩, IntWalk.i64_in _ ⟨by omega, by omega⟩, IntWalk.i64_in _ ⟨by omega, by omega⟩, IntWalk.i64_in _ ⟨by omega, by omega⟩⟩

set_option maxHeartbeats 400000 in
theorem truth_ref (is : Bool) (w : World) : Calls Try.prog 49 #[.bool is] w fun e w' => e = .returned (.int .i64 (if is then 1 else 0)) ∧ w = w' := by
  cases is
  · go_enter Try.func49, Try.ntmps49
    go_wp2_with fail
    go_ret
    exact ⟨rfl, rfl⟩
  · go_enter Try.func49, Try.ntmps49
    go_wp2_with fail
    go_ret
    exact ⟨rfl, rfl⟩

set_option maxRecDepth 100000 in
set_option maxHeartbeats 1000000 in
theorem refApply_1f (a b : BitVec 64) (hz : (b == 0#64) = false) (w : World) : Calls Try.prog 30 #[.int .u8 1, s a, s b] w fun e w' => e = .returned (.tuple #[s (appV 1 a b), .int .i64 0]) ∧ Below w.heap.size w w' := by
  have HLOW := Hd.mk (low6 b)
  go_enter Try.func30, Try.ntmps30
  go_wp2_with fail
  refine (bits_any a _).mono ?_
  rintro e w1 ⟨v1, rfl, hb1, hB1⟩
  have HV1 := Hd.mk hb1
  clear hb1
  go_wp2_with fail
  refine (bits_any b _).mono ?_
  rintro e w2 ⟨v2, rfl, hb2, hB2⟩
  have HX := Hd.mk (HV1.out.below hB2)
  have HYY := Hd.mk hb2
  have hB := hB1.trans (hB2.mono hB1.size)
  obtain ⟨b9, off9, c9, rfl, hc9, _, hbw9, hcell9⟩ := hb2
  have k0 := hcell9 0 (by decide)
  rw [Nat.add_zero] at k0
  have k1 := hcell9 1 (by decide)
  have k2 := hcell9 2 (by decide)
  have k3 := hcell9 3 (by decide)
  have k4 := hcell9 4 (by decide)
  have k5 := hcell9 5 (by decide)
  obtain ⟨l0, u0⟩ := bi_le b 0
  obtain ⟨l1, u1⟩ := bi_le b 1
  obtain ⟨l2, u2⟩ := bi_le b 2
  obtain ⟨l3, u3⟩ := bi_le b 3
  obtain ⟨l4, u4⟩ := bi_le b 4
  obtain ⟨l5, u5⟩ := bi_le b 5
  clear hcell9 hB1 hB2 HV1
  obtain ⟨p0, hp0⟩ : ∃ p, bi b 0 = p := ⟨_, rfl⟩
  obtain ⟨p1, hp1⟩ : ∃ p, bi b 1 = p := ⟨_, rfl⟩
  obtain ⟨p2, hp2⟩ : ∃ p, bi b 2 = p := ⟨_, rfl⟩
  obtain ⟨p3, hp3⟩ : ∃ p, bi b 3 = p := ⟨_, rfl⟩
  obtain ⟨p4, hp4⟩ : ∃ p, bi b 4 = p := ⟨_, rfl⟩
  obtain ⟨p5, hp5⟩ : ∃ p, bi b 5 = p := ⟨_, rfl⟩
  have hlow := HLOW.out
  rw [hp0, hp1, hp2, hp3, hp4, hp5] at hlow
  rw [hp0] at k0 l0 u0
  rw [hp1] at k1 l1 u1
  rw [hp2] at k2 l2 u2
  rw [hp3] at k3 l3 u3
  rw [hp4] at k4 l4 u4
  rw [hp5] at k5 l5 u5
  obtain ⟨t1, t2, t3, t4, t5, s1, s2, s3, s4, s5⟩ := sums6 p0 p1 p2 p3 p4 p5 l0 u0 l1 u1 l2 u2 l3 u3 l4 u4 l5 u5
  rw [hlow] at s5
  clear HLOW hp0 hp1 hp2 hp3 hp4 hp5
  have HL := Hd.mk hlow
  clear hlow
  go_wp2_with fail
  go_quiet (fail)
  obtain ⟨wd, hwd⟩ : ∃ wd, wd = w2.drewN nq := ⟨_, rfl⟩
  have hBd : Below w2.heap.size w2 wd := by rw [hwd]; exact below_drewN (Below.refl _ _) nq
  rw [← hwd]
  have HXd := Hd.mk (HX.out.below hBd)
  have HYd := Hd.mk (HYY.out.below hBd)
  have hB' := hB.trans (hBd.mono hB.size)
  clear hwd k0 k1 k2 k3 k4 k5 t1 t2 t3 t4 t5 s1 s2 s3 s4 s5 hB hBd HX HYY
  go_wp2_with fail
  refine (sum0 _ _ a b _ HXd.out HYd.out).mono ?_
  rintro e w3 ⟨v3, rfl, hb3, hB3⟩
  have HV3 := Hd.mk hb3
  have HX3 := Hd.mk (HXd.out.below hB3)
  have hB3' := hB'.trans (hB3.mono hB'.size)
  clear hB' hb3
  have hB' := hB3'
  clear hB3'
  go_wp2_with fail
  refine (word_any _ _ _ HV3.out).mono ?_
  rintro e w20 ⟨rfl, rfl⟩
  go_wp2_with fail
  go_ret2
  exact ⟨by rw [appV_1]; rfl, hB'⟩

set_option maxRecDepth 100000 in
set_option maxHeartbeats 1000000 in
theorem refApply_1t (a b : BitVec 64) (hz : (b == 0#64) = true) (w : World) : Calls Try.prog 30 #[.int .u8 1, s a, s b] w fun e w' => e = .returned (.tuple #[s (appV 1 a b), .int .i64 0]) ∧ Below w.heap.size w w' := by
  have HLOW := Hd.mk (low6 b)
  go_enter Try.func30, Try.ntmps30
  go_wp2_with fail
  refine (bits_any a _).mono ?_
  rintro e w1 ⟨v1, rfl, hb1, hB1⟩
  have HV1 := Hd.mk hb1
  clear hb1
  go_wp2_with fail
  refine (bits_any b _).mono ?_
  rintro e w2 ⟨v2, rfl, hb2, hB2⟩
  have HX := Hd.mk (HV1.out.below hB2)
  have HYY := Hd.mk hb2
  have hB := hB1.trans (hB2.mono hB1.size)
  obtain ⟨b9, off9, c9, rfl, hc9, _, hbw9, hcell9⟩ := hb2
  have k0 := hcell9 0 (by decide)
  rw [Nat.add_zero] at k0
  have k1 := hcell9 1 (by decide)
  have k2 := hcell9 2 (by decide)
  have k3 := hcell9 3 (by decide)
  have k4 := hcell9 4 (by decide)
  have k5 := hcell9 5 (by decide)
  obtain ⟨l0, u0⟩ := bi_le b 0
  obtain ⟨l1, u1⟩ := bi_le b 1
  obtain ⟨l2, u2⟩ := bi_le b 2
  obtain ⟨l3, u3⟩ := bi_le b 3
  obtain ⟨l4, u4⟩ := bi_le b 4
  obtain ⟨l5, u5⟩ := bi_le b 5
  clear hcell9 hB1 hB2 HV1
  obtain ⟨p0, hp0⟩ : ∃ p, bi b 0 = p := ⟨_, rfl⟩
  obtain ⟨p1, hp1⟩ : ∃ p, bi b 1 = p := ⟨_, rfl⟩
  obtain ⟨p2, hp2⟩ : ∃ p, bi b 2 = p := ⟨_, rfl⟩
  obtain ⟨p3, hp3⟩ : ∃ p, bi b 3 = p := ⟨_, rfl⟩
  obtain ⟨p4, hp4⟩ : ∃ p, bi b 4 = p := ⟨_, rfl⟩
  obtain ⟨p5, hp5⟩ : ∃ p, bi b 5 = p := ⟨_, rfl⟩
  have hlow := HLOW.out
  rw [hp0, hp1, hp2, hp3, hp4, hp5] at hlow
  rw [hp0] at k0 l0 u0
  rw [hp1] at k1 l1 u1
  rw [hp2] at k2 l2 u2
  rw [hp3] at k3 l3 u3
  rw [hp4] at k4 l4 u4
  rw [hp5] at k5 l5 u5
  obtain ⟨t1, t2, t3, t4, t5, s1, s2, s3, s4, s5⟩ := sums6 p0 p1 p2 p3 p4 p5 l0 u0 l1 u1 l2 u2 l3 u3 l4 u4 l5 u5
  rw [hlow] at s5
  clear HLOW hp0 hp1 hp2 hp3 hp4 hp5
  have HL := Hd.mk hlow
  clear hlow
  go_wp2_with fail
  go_quiet (fail)
  obtain ⟨wd, hwd⟩ : ∃ wd, wd = w2.drewN nq := ⟨_, rfl⟩
  have hBd : Below w2.heap.size w2 wd := by rw [hwd]; exact below_drewN (Below.refl _ _) nq
  rw [← hwd]
  have HXd := Hd.mk (HX.out.below hBd)
  have HYd := Hd.mk (HYY.out.below hBd)
  have hB' := hB.trans (hBd.mono hB.size)
  clear hwd k0 k1 k2 k3 k4 k5 t1 t2 t3 t4 t5 s1 s2 s3 s4 s5 hB hBd HX HYY
  go_wp2_with fail
  refine (sum0 _ _ a b _ HXd.out HYd.out).mono ?_
  rintro e w3 ⟨v3, rfl, hb3, hB3⟩
  have HV3 := Hd.mk hb3
  have HX3 := Hd.mk (HXd.out.below hB3)
  have hB3' := hB'.trans (hB3.mono hB'.size)
  clear hB' hb3
  have hB' := hB3'
  clear hB3'
  go_wp2_with fail
  refine (word_any _ _ _ HV3.out).mono ?_
  rintro e w20 ⟨rfl, rfl⟩
  go_wp2_with fail
  go_ret2
  exact ⟨by rw [appV_1]; rfl, hB'⟩

theorem refApply_1 (a b : BitVec 64) (w : World) : Calls Try.prog 30 #[.int .u8 1, s a, s b] w fun e w' => e = .returned (.tuple #[s (appV 1 a b), .int .i64 0]) ∧ Below w.heap.size w w' := by
  cases hz : (b == 0#64)
  · exact refApply_1f a b hz w
  · exact refApply_1t a b hz w

set_option maxRecDepth 100000 in
set_option maxHeartbeats 1000000 in
theorem refApply_2f (a b : BitVec 64) (hz : (b == 0#64) = false) (w : World) : Calls Try.prog 30 #[.int .u8 2, s a, s b] w fun e w' => e = .returned (.tuple #[s (appV 2 a b), .int .i64 0]) ∧ Below w.heap.size w w' := by
  have HLOW := Hd.mk (low6 b)
  go_enter Try.func30, Try.ntmps30
  go_wp2_with fail
  refine (bits_any a _).mono ?_
  rintro e w1 ⟨v1, rfl, hb1, hB1⟩
  have HV1 := Hd.mk hb1
  clear hb1
  go_wp2_with fail
  refine (bits_any b _).mono ?_
  rintro e w2 ⟨v2, rfl, hb2, hB2⟩
  have HX := Hd.mk (HV1.out.below hB2)
  have HYY := Hd.mk hb2
  have hB := hB1.trans (hB2.mono hB1.size)
  obtain ⟨b9, off9, c9, rfl, hc9, _, hbw9, hcell9⟩ := hb2
  have k0 := hcell9 0 (by decide)
  rw [Nat.add_zero] at k0
  have k1 := hcell9 1 (by decide)
  have k2 := hcell9 2 (by decide)
  have k3 := hcell9 3 (by decide)
  have k4 := hcell9 4 (by decide)
  have k5 := hcell9 5 (by decide)
  obtain ⟨l0, u0⟩ := bi_le b 0
  obtain ⟨l1, u1⟩ := bi_le b 1
  obtain ⟨l2, u2⟩ := bi_le b 2
  obtain ⟨l3, u3⟩ := bi_le b 3
  obtain ⟨l4, u4⟩ := bi_le b 4
  obtain ⟨l5, u5⟩ := bi_le b 5
  clear hcell9 hB1 hB2 HV1
  obtain ⟨p0, hp0⟩ : ∃ p, bi b 0 = p := ⟨_, rfl⟩
  obtain ⟨p1, hp1⟩ : ∃ p, bi b 1 = p := ⟨_, rfl⟩
  obtain ⟨p2, hp2⟩ : ∃ p, bi b 2 = p := ⟨_, rfl⟩
  obtain ⟨p3, hp3⟩ : ∃ p, bi b 3 = p := ⟨_, rfl⟩
  obtain ⟨p4, hp4⟩ : ∃ p, bi b 4 = p := ⟨_, rfl⟩
  obtain ⟨p5, hp5⟩ : ∃ p, bi b 5 = p := ⟨_, rfl⟩
  have hlow := HLOW.out
  rw [hp0, hp1, hp2, hp3, hp4, hp5] at hlow
  rw [hp0] at k0 l0 u0
  rw [hp1] at k1 l1 u1
  rw [hp2] at k2 l2 u2
  rw [hp3] at k3 l3 u3
  rw [hp4] at k4 l4 u4
  rw [hp5] at k5 l5 u5
  obtain ⟨t1, t2, t3, t4, t5, s1, s2, s3, s4, s5⟩ := sums6 p0 p1 p2 p3 p4 p5 l0 u0 l1 u1 l2 u2 l3 u3 l4 u4 l5 u5
  rw [hlow] at s5
  clear HLOW hp0 hp1 hp2 hp3 hp4 hp5
  have HL := Hd.mk hlow
  clear hlow
  go_wp2_with fail
  go_quiet (fail)
  obtain ⟨wd, hwd⟩ : ∃ wd, wd = w2.drewN nq := ⟨_, rfl⟩
  have hBd : Below w2.heap.size w2 wd := by rw [hwd]; exact below_drewN (Below.refl _ _) nq
  rw [← hwd]
  have HXd := Hd.mk (HX.out.below hBd)
  have HYd := Hd.mk (HYY.out.below hBd)
  have hB' := hB.trans (hBd.mono hB.size)
  clear hwd k0 k1 k2 k3 k4 k5 t1 t2 t3 t4 t5 s1 s2 s3 s4 s5 hB hBd HX HYY
  go_wp2_with fail
  refine (not_any _ b _ HYd.out).mono ?_
  rintro e w3 ⟨v3, rfl, hb3, hB3⟩
  have HV3 := Hd.mk hb3
  have HX3 := Hd.mk (HXd.out.below hB3)
  have hB3' := hB'.trans (hB3.mono hB'.size)
  clear hB' hb3
  have hB' := hB3'
  clear hB3'
  go_wp2_with fail
  refine (sum1 _ _ a (~~~b) _ HX3.out HV3.out).mono ?_
  rintro e w4 ⟨v4, rfl, hb4, hB4⟩
  have HV4 := Hd.mk hb4
  skip
  have hB4' := hB'.trans (hB4.mono hB'.size)
  clear hB' hb4
  have hB' := hB4'
  clear hB4'
  go_wp2_with fail
  refine (word_any _ _ _ HV4.out).mono ?_
  rintro e w20 ⟨rfl, rfl⟩
  go_wp2_with fail
  go_ret2
  exact ⟨by rw [appV_2, show a + ~~~b + 1#64 = a - b from by rw [BitVec.add_assoc, ← BitVec.neg_eq_not_add, ← BitVec.sub_eq_add_neg]]; rfl, hB'⟩

set_option maxRecDepth 100000 in
set_option maxHeartbeats 1000000 in
theorem refApply_2t (a b : BitVec 64) (hz : (b == 0#64) = true) (w : World) : Calls Try.prog 30 #[.int .u8 2, s a, s b] w fun e w' => e = .returned (.tuple #[s (appV 2 a b), .int .i64 0]) ∧ Below w.heap.size w w' := by
  have HLOW := Hd.mk (low6 b)
  go_enter Try.func30, Try.ntmps30
  go_wp2_with fail
  refine (bits_any a _).mono ?_
  rintro e w1 ⟨v1, rfl, hb1, hB1⟩
  have HV1 := Hd.mk hb1
  clear hb1
  go_wp2_with fail
  refine (bits_any b _).mono ?_
  rintro e w2 ⟨v2, rfl, hb2, hB2⟩
  have HX := Hd.mk (HV1.out.below hB2)
  have HYY := Hd.mk hb2
  have hB := hB1.trans (hB2.mono hB1.size)
  obtain ⟨b9, off9, c9, rfl, hc9, _, hbw9, hcell9⟩ := hb2
  have k0 := hcell9 0 (by decide)
  rw [Nat.add_zero] at k0
  have k1 := hcell9 1 (by decide)
  have k2 := hcell9 2 (by decide)
  have k3 := hcell9 3 (by decide)
  have k4 := hcell9 4 (by decide)
  have k5 := hcell9 5 (by decide)
  obtain ⟨l0, u0⟩ := bi_le b 0
  obtain ⟨l1, u1⟩ := bi_le b 1
  obtain ⟨l2, u2⟩ := bi_le b 2
  obtain ⟨l3, u3⟩ := bi_le b 3
  obtain ⟨l4, u4⟩ := bi_le b 4
  obtain ⟨l5, u5⟩ := bi_le b 5
  clear hcell9 hB1 hB2 HV1
  obtain ⟨p0, hp0⟩ : ∃ p, bi b 0 = p := ⟨_, rfl⟩
  obtain ⟨p1, hp1⟩ : ∃ p, bi b 1 = p := ⟨_, rfl⟩
  obtain ⟨p2, hp2⟩ : ∃ p, bi b 2 = p := ⟨_, rfl⟩
  obtain ⟨p3, hp3⟩ : ∃ p, bi b 3 = p := ⟨_, rfl⟩
  obtain ⟨p4, hp4⟩ : ∃ p, bi b 4 = p := ⟨_, rfl⟩
  obtain ⟨p5, hp5⟩ : ∃ p, bi b 5 = p := ⟨_, rfl⟩
  have hlow := HLOW.out
  rw [hp0, hp1, hp2, hp3, hp4, hp5] at hlow
  rw [hp0] at k0 l0 u0
  rw [hp1] at k1 l1 u1
  rw [hp2] at k2 l2 u2
  rw [hp3] at k3 l3 u3
  rw [hp4] at k4 l4 u4
  rw [hp5] at k5 l5 u5
  obtain ⟨t1, t2, t3, t4, t5, s1, s2, s3, s4, s5⟩ := sums6 p0 p1 p2 p3 p4 p5 l0 u0 l1 u1 l2 u2 l3 u3 l4 u4 l5 u5
  rw [hlow] at s5
  clear HLOW hp0 hp1 hp2 hp3 hp4 hp5
  have HL := Hd.mk hlow
  clear hlow
  go_wp2_with fail
  go_quiet (fail)
  obtain ⟨wd, hwd⟩ : ∃ wd, wd = w2.drewN nq := ⟨_, rfl⟩
  have hBd : Below w2.heap.size w2 wd := by rw [hwd]; exact below_drewN (Below.refl _ _) nq
  rw [← hwd]
  have HXd := Hd.mk (HX.out.below hBd)
  have HYd := Hd.mk (HYY.out.below hBd)
  have hB' := hB.trans (hBd.mono hB.size)
  clear hwd k0 k1 k2 k3 k4 k5 t1 t2 t3 t4 t5 s1 s2 s3 s4 s5 hB hBd HX HYY
  go_wp2_with fail
  refine (not_any _ b _ HYd.out).mono ?_
  rintro e w3 ⟨v3, rfl, hb3, hB3⟩
  have HV3 := Hd.mk hb3
  have HX3 := Hd.mk (HXd.out.below hB3)
  have hB3' := hB'.trans (hB3.mono hB'.size)
  clear hB' hb3
  have hB' := hB3'
  clear hB3'
  go_wp2_with fail
  refine (sum1 _ _ a (~~~b) _ HX3.out HV3.out).mono ?_
  rintro e w4 ⟨v4, rfl, hb4, hB4⟩
  have HV4 := Hd.mk hb4
  skip
  have hB4' := hB'.trans (hB4.mono hB'.size)
  clear hB' hb4
  have hB' := hB4'
  clear hB4'
  go_wp2_with fail
  refine (word_any _ _ _ HV4.out).mono ?_
  rintro e w20 ⟨rfl, rfl⟩
  go_wp2_with fail
  go_ret2
  exact ⟨by rw [appV_2, show a + ~~~b + 1#64 = a - b from by rw [BitVec.add_assoc, ← BitVec.neg_eq_not_add, ← BitVec.sub_eq_add_neg]]; rfl, hB'⟩

theorem refApply_2 (a b : BitVec 64) (w : World) : Calls Try.prog 30 #[.int .u8 2, s a, s b] w fun e w' => e = .returned (.tuple #[s (appV 2 a b), .int .i64 0]) ∧ Below w.heap.size w w' := by
  cases hz : (b == 0#64)
  · exact refApply_2f a b hz w
  · exact refApply_2t a b hz w

set_option maxRecDepth 100000 in
set_option maxHeartbeats 1000000 in
theorem refApply_3f (a b : BitVec 64) (hz : (b == 0#64) = false) (w : World) : Calls Try.prog 30 #[.int .u8 3, s a, s b] w fun e w' => e = .returned (.tuple #[s (appV 3 a b), .int .i64 0]) ∧ Below w.heap.size w w' := by
  have HLOW := Hd.mk (low6 b)
  go_enter Try.func30, Try.ntmps30
  go_wp2_with fail
  refine (bits_any a _).mono ?_
  rintro e w1 ⟨v1, rfl, hb1, hB1⟩
  have HV1 := Hd.mk hb1
  clear hb1
  go_wp2_with fail
  refine (bits_any b _).mono ?_
  rintro e w2 ⟨v2, rfl, hb2, hB2⟩
  have HX := Hd.mk (HV1.out.below hB2)
  have HYY := Hd.mk hb2
  have hB := hB1.trans (hB2.mono hB1.size)
  obtain ⟨b9, off9, c9, rfl, hc9, _, hbw9, hcell9⟩ := hb2
  have k0 := hcell9 0 (by decide)
  rw [Nat.add_zero] at k0
  have k1 := hcell9 1 (by decide)
  have k2 := hcell9 2 (by decide)
  have k3 := hcell9 3 (by decide)
  have k4 := hcell9 4 (by decide)
  have k5 := hcell9 5 (by decide)
  obtain ⟨l0, u0⟩ := bi_le b 0
  obtain ⟨l1, u1⟩ := bi_le b 1
  obtain ⟨l2, u2⟩ := bi_le b 2
  obtain ⟨l3, u3⟩ := bi_le b 3
  obtain ⟨l4, u4⟩ := bi_le b 4
  obtain ⟨l5, u5⟩ := bi_le b 5
  clear hcell9 hB1 hB2 HV1
  obtain ⟨p0, hp0⟩ : ∃ p, bi b 0 = p := ⟨_, rfl⟩
  obtain ⟨p1, hp1⟩ : ∃ p, bi b 1 = p := ⟨_, rfl⟩
  obtain ⟨p2, hp2⟩ : ∃ p, bi b 2 = p := ⟨_, rfl⟩
  obtain ⟨p3, hp3⟩ : ∃ p, bi b 3 = p := ⟨_, rfl⟩
  obtain ⟨p4, hp4⟩ : ∃ p, bi b 4 = p := ⟨_, rfl⟩
  obtain ⟨p5, hp5⟩ : ∃ p, bi b 5 = p := ⟨_, rfl⟩
  have hlow := HLOW.out
  rw [hp0, hp1, hp2, hp3, hp4, hp5] at hlow
  rw [hp0] at k0 l0 u0
  rw [hp1] at k1 l1 u1
  rw [hp2] at k2 l2 u2
  rw [hp3] at k3 l3 u3
  rw [hp4] at k4 l4 u4
  rw [hp5] at k5 l5 u5
  obtain ⟨t1, t2, t3, t4, t5, s1, s2, s3, s4, s5⟩ := sums6 p0 p1 p2 p3 p4 p5 l0 u0 l1 u1 l2 u2 l3 u3 l4 u4 l5 u5
  rw [hlow] at s5
  clear HLOW hp0 hp1 hp2 hp3 hp4 hp5
  have HL := Hd.mk hlow
  clear hlow
  go_wp2_with fail
  go_quiet (fail)
  obtain ⟨wd, hwd⟩ : ∃ wd, wd = w2.drewN nq := ⟨_, rfl⟩
  have hBd : Below w2.heap.size w2 wd := by rw [hwd]; exact below_drewN (Below.refl _ _) nq
  rw [← hwd]
  have HXd := Hd.mk (HX.out.below hBd)
  have HYd := Hd.mk (HYY.out.below hBd)
  have hB' := hB.trans (hBd.mono hB.size)
  clear hwd k0 k1 k2 k3 k4 k5 t1 t2 t3 t4 t5 s1 s2 s3 s4 s5 hB hBd HX HYY
  go_wp2_with fail
  refine (product_any _ _ a b _ HXd.out HYd.out).mono ?_
  rintro e w3 ⟨v3, rfl, hb3, hB3⟩
  have HV3 := Hd.mk hb3
  have HX3 := Hd.mk (HXd.out.below hB3)
  have hB3' := hB'.trans (hB3.mono hB'.size)
  clear hB' hb3
  have hB' := hB3'
  clear hB3'
  go_wp2_with fail
  refine (word_any _ _ _ HV3.out).mono ?_
  rintro e w20 ⟨rfl, rfl⟩
  go_wp2_with fail
  go_ret2
  exact ⟨by rw [appV_3]; rfl, hB'⟩

set_option maxRecDepth 100000 in
set_option maxHeartbeats 1000000 in
theorem refApply_3t (a b : BitVec 64) (hz : (b == 0#64) = true) (w : World) : Calls Try.prog 30 #[.int .u8 3, s a, s b] w fun e w' => e = .returned (.tuple #[s (appV 3 a b), .int .i64 0]) ∧ Below w.heap.size w w' := by
  have HLOW := Hd.mk (low6 b)
  go_enter Try.func30, Try.ntmps30
  go_wp2_with fail
  refine (bits_any a _).mono ?_
  rintro e w1 ⟨v1, rfl, hb1, hB1⟩
  have HV1 := Hd.mk hb1
  clear hb1
  go_wp2_with fail
  refine (bits_any b _).mono ?_
  rintro e w2 ⟨v2, rfl, hb2, hB2⟩
  have HX := Hd.mk (HV1.out.below hB2)
  have HYY := Hd.mk hb2
  have hB := hB1.trans (hB2.mono hB1.size)
  obtain ⟨b9, off9, c9, rfl, hc9, _, hbw9, hcell9⟩ := hb2
  have k0 := hcell9 0 (by decide)
  rw [Nat.add_zero] at k0
  have k1 := hcell9 1 (by decide)
  have k2 := hcell9 2 (by decide)
  have k3 := hcell9 3 (by decide)
  have k4 := hcell9 4 (by decide)
  have k5 := hcell9 5 (by decide)
  obtain ⟨l0, u0⟩ := bi_le b 0
  obtain ⟨l1, u1⟩ := bi_le b 1
  obtain ⟨l2, u2⟩ := bi_le b 2
  obtain ⟨l3, u3⟩ := bi_le b 3
  obtain ⟨l4, u4⟩ := bi_le b 4
  obtain ⟨l5, u5⟩ := bi_le b 5
  clear hcell9 hB1 hB2 HV1
  obtain ⟨p0, hp0⟩ : ∃ p, bi b 0 = p := ⟨_, rfl⟩
  obtain ⟨p1, hp1⟩ : ∃ p, bi b 1 = p := ⟨_, rfl⟩
  obtain ⟨p2, hp2⟩ : ∃ p, bi b 2 = p := ⟨_, rfl⟩
  obtain ⟨p3, hp3⟩ : ∃ p, bi b 3 = p := ⟨_, rfl⟩
  obtain ⟨p4, hp4⟩ : ∃ p, bi b 4 = p := ⟨_, rfl⟩
  obtain ⟨p5, hp5⟩ : ∃ p, bi b 5 = p := ⟨_, rfl⟩
  have hlow := HLOW.out
  rw [hp0, hp1, hp2, hp3, hp4, hp5] at hlow
  rw [hp0] at k0 l0 u0
  rw [hp1] at k1 l1 u1
  rw [hp2] at k2 l2 u2
  rw [hp3] at k3 l3 u3
  rw [hp4] at k4 l4 u4
  rw [hp5] at k5 l5 u5
  obtain ⟨t1, t2, t3, t4, t5, s1, s2, s3, s4, s5⟩ := sums6 p0 p1 p2 p3 p4 p5 l0 u0 l1 u1 l2 u2 l3 u3 l4 u4 l5 u5
  rw [hlow] at s5
  clear HLOW hp0 hp1 hp2 hp3 hp4 hp5
  have HL := Hd.mk hlow
  clear hlow
  go_wp2_with fail
  go_quiet (fail)
  obtain ⟨wd, hwd⟩ : ∃ wd, wd = w2.drewN nq := ⟨_, rfl⟩
  have hBd : Below w2.heap.size w2 wd := by rw [hwd]; exact below_drewN (Below.refl _ _) nq
  rw [← hwd]
  have HXd := Hd.mk (HX.out.below hBd)
  have HYd := Hd.mk (HYY.out.below hBd)
  have hB' := hB.trans (hBd.mono hB.size)
  clear hwd k0 k1 k2 k3 k4 k5 t1 t2 t3 t4 t5 s1 s2 s3 s4 s5 hB hBd HX HYY
  go_wp2_with fail
  refine (product_any _ _ a b _ HXd.out HYd.out).mono ?_
  rintro e w3 ⟨v3, rfl, hb3, hB3⟩
  have HV3 := Hd.mk hb3
  have HX3 := Hd.mk (HXd.out.below hB3)
  have hB3' := hB'.trans (hB3.mono hB'.size)
  clear hB' hb3
  have hB' := hB3'
  clear hB3'
  go_wp2_with fail
  refine (word_any _ _ _ HV3.out).mono ?_
  rintro e w20 ⟨rfl, rfl⟩
  go_wp2_with fail
  go_ret2
  exact ⟨by rw [appV_3]; rfl, hB'⟩

theorem refApply_3 (a b : BitVec 64) (w : World) : Calls Try.prog 30 #[.int .u8 3, s a, s b] w fun e w' => e = .returned (.tuple #[s (appV 3 a b), .int .i64 0]) ∧ Below w.heap.size w w' := by
  cases hz : (b == 0#64)
  · exact refApply_3f a b hz w
  · exact refApply_3t a b hz w

set_option maxRecDepth 100000 in
set_option maxHeartbeats 1000000 in
theorem refApply_7f (a b : BitVec 64) (hz : (b == 0#64) = false) (w : World) : Calls Try.prog 30 #[.int .u8 7, s a, s b] w fun e w' => e = .returned (.tuple #[s (appV 7 a b), .int .i64 0]) ∧ Below w.heap.size w w' := by
  have HLOW := Hd.mk (low6 b)
  go_enter Try.func30, Try.ntmps30
  go_wp2_with fail
  refine (bits_any a _).mono ?_
  rintro e w1 ⟨v1, rfl, hb1, hB1⟩
  have HV1 := Hd.mk hb1
  clear hb1
  go_wp2_with fail
  refine (bits_any b _).mono ?_
  rintro e w2 ⟨v2, rfl, hb2, hB2⟩
  have HX := Hd.mk (HV1.out.below hB2)
  have HYY := Hd.mk hb2
  have hB := hB1.trans (hB2.mono hB1.size)
  obtain ⟨b9, off9, c9, rfl, hc9, _, hbw9, hcell9⟩ := hb2
  have k0 := hcell9 0 (by decide)
  rw [Nat.add_zero] at k0
  have k1 := hcell9 1 (by decide)
  have k2 := hcell9 2 (by decide)
  have k3 := hcell9 3 (by decide)
  have k4 := hcell9 4 (by decide)
  have k5 := hcell9 5 (by decide)
  obtain ⟨l0, u0⟩ := bi_le b 0
  obtain ⟨l1, u1⟩ := bi_le b 1
  obtain ⟨l2, u2⟩ := bi_le b 2
  obtain ⟨l3, u3⟩ := bi_le b 3
  obtain ⟨l4, u4⟩ := bi_le b 4
  obtain ⟨l5, u5⟩ := bi_le b 5
  clear hcell9 hB1 hB2 HV1
  obtain ⟨p0, hp0⟩ : ∃ p, bi b 0 = p := ⟨_, rfl⟩
  obtain ⟨p1, hp1⟩ : ∃ p, bi b 1 = p := ⟨_, rfl⟩
  obtain ⟨p2, hp2⟩ : ∃ p, bi b 2 = p := ⟨_, rfl⟩
  obtain ⟨p3, hp3⟩ : ∃ p, bi b 3 = p := ⟨_, rfl⟩
  obtain ⟨p4, hp4⟩ : ∃ p, bi b 4 = p := ⟨_, rfl⟩
  obtain ⟨p5, hp5⟩ : ∃ p, bi b 5 = p := ⟨_, rfl⟩
  have hlow := HLOW.out
  rw [hp0, hp1, hp2, hp3, hp4, hp5] at hlow
  rw [hp0] at k0 l0 u0
  rw [hp1] at k1 l1 u1
  rw [hp2] at k2 l2 u2
  rw [hp3] at k3 l3 u3
  rw [hp4] at k4 l4 u4
  rw [hp5] at k5 l5 u5
  obtain ⟨t1, t2, t3, t4, t5, s1, s2, s3, s4, s5⟩ := sums6 p0 p1 p2 p3 p4 p5 l0 u0 l1 u1 l2 u2 l3 u3 l4 u4 l5 u5
  rw [hlow] at s5
  clear HLOW hp0 hp1 hp2 hp3 hp4 hp5
  have HL := Hd.mk hlow
  clear hlow
  go_wp2_with fail
  go_quiet (fail)
  obtain ⟨wd, hwd⟩ : ∃ wd, wd = w2.drewN nq := ⟨_, rfl⟩
  have hBd : Below w2.heap.size w2 wd := by rw [hwd]; exact below_drewN (Below.refl _ _) nq
  rw [← hwd]
  have HXd := Hd.mk (HX.out.below hBd)
  have HYd := Hd.mk (HYY.out.below hBd)
  have hB' := hB.trans (hBd.mono hB.size)
  clear hwd k0 k1 k2 k3 k4 k5 t1 t2 t3 t4 t5 s1 s2 s3 s4 s5 hB hBd HX HYY
  go_wp2_with fail
  refine (bitwise_7 _ _ a b _ HXd.out HYd.out).mono ?_
  rintro e w3 ⟨v3, rfl, hb3, hB3⟩
  have HV3 := Hd.mk hb3
  have HX3 := Hd.mk (HXd.out.below hB3)
  have hB3' := hB'.trans (hB3.mono hB'.size)
  clear hB' hb3
  have hB' := hB3'
  clear hB3'
  go_wp2_with fail
  refine (word_any _ _ _ HV3.out).mono ?_
  rintro e w20 ⟨rfl, rfl⟩
  go_wp2_with fail
  go_ret2
  exact ⟨by rw [appV_7]; rfl, hB'⟩

set_option maxRecDepth 100000 in
set_option maxHeartbeats 1000000 in
theorem refApply_7t (a b : BitVec 64) (hz : (b == 0#64) = true) (w : World) : Calls Try.prog 30 #[.int .u8 7, s a, s b] w fun e w' => e = .returned (.tuple #[s (appV 7 a b), .int .i64 0]) ∧ Below w.heap.size w w' := by
  have HLOW := Hd.mk (low6 b)
  go_enter Try.func30, Try.ntmps30
  go_wp2_with fail
  refine (bits_any a _).mono ?_
  rintro e w1 ⟨v1, rfl, hb1, hB1⟩
  have HV1 := Hd.mk hb1
  clear hb1
  go_wp2_with fail
  refine (bits_any b _).mono ?_
  rintro e w2 ⟨v2, rfl, hb2, hB2⟩
  have HX := Hd.mk (HV1.out.below hB2)
  have HYY := Hd.mk hb2
  have hB := hB1.trans (hB2.mono hB1.size)
  obtain ⟨b9, off9, c9, rfl, hc9, _, hbw9, hcell9⟩ := hb2
  have k0 := hcell9 0 (by decide)
  rw [Nat.add_zero] at k0
  have k1 := hcell9 1 (by decide)
  have k2 := hcell9 2 (by decide)
  have k3 := hcell9 3 (by decide)
  have k4 := hcell9 4 (by decide)
  have k5 := hcell9 5 (by decide)
  obtain ⟨l0, u0⟩ := bi_le b 0
  obtain ⟨l1, u1⟩ := bi_le b 1
  obtain ⟨l2, u2⟩ := bi_le b 2
  obtain ⟨l3, u3⟩ := bi_le b 3
  obtain ⟨l4, u4⟩ := bi_le b 4
  obtain ⟨l5, u5⟩ := bi_le b 5
  clear hcell9 hB1 hB2 HV1
  obtain ⟨p0, hp0⟩ : ∃ p, bi b 0 = p := ⟨_, rfl⟩
  obtain ⟨p1, hp1⟩ : ∃ p, bi b 1 = p := ⟨_, rfl⟩
  obtain ⟨p2, hp2⟩ : ∃ p, bi b 2 = p := ⟨_, rfl⟩
  obtain ⟨p3, hp3⟩ : ∃ p, bi b 3 = p := ⟨_, rfl⟩
  obtain ⟨p4, hp4⟩ : ∃ p, bi b 4 = p := ⟨_, rfl⟩
  obtain ⟨p5, hp5⟩ : ∃ p, bi b 5 = p := ⟨_, rfl⟩
  have hlow := HLOW.out
  rw [hp0, hp1, hp2, hp3, hp4, hp5] at hlow
  rw [hp0] at k0 l0 u0
  rw [hp1] at k1 l1 u1
  rw [hp2] at k2 l2 u2
  rw [hp3] at k3 l3 u3
  rw [hp4] at k4 l4 u4
  rw [hp5] at k5 l5 u5
  obtain ⟨t1, t2, t3, t4, t5, s1, s2, s3, s4, s5⟩ := sums6 p0 p1 p2 p3 p4 p5 l0 u0 l1 u1 l2 u2 l3 u3 l4 u4 l5 u5
  rw [hlow] at s5
  clear HLOW hp0 hp1 hp2 hp3 hp4 hp5
  have HL := Hd.mk hlow
  clear hlow
  go_wp2_with fail
  go_quiet (fail)
  obtain ⟨wd, hwd⟩ : ∃ wd, wd = w2.drewN nq := ⟨_, rfl⟩
  have hBd : Below w2.heap.size w2 wd := by rw [hwd]; exact below_drewN (Below.refl _ _) nq
  rw [← hwd]
  have HXd := Hd.mk (HX.out.below hBd)
  have HYd := Hd.mk (HYY.out.below hBd)
  have hB' := hB.trans (hBd.mono hB.size)
  clear hwd k0 k1 k2 k3 k4 k5 t1 t2 t3 t4 t5 s1 s2 s3 s4 s5 hB hBd HX HYY
  go_wp2_with fail
  refine (bitwise_7 _ _ a b _ HXd.out HYd.out).mono ?_
  rintro e w3 ⟨v3, rfl, hb3, hB3⟩
  have HV3 := Hd.mk hb3
  have HX3 := Hd.mk (HXd.out.below hB3)
  have hB3' := hB'.trans (hB3.mono hB'.size)
  clear hB' hb3
  have hB' := hB3'
  clear hB3'
  go_wp2_with fail
  refine (word_any _ _ _ HV3.out).mono ?_
  rintro e w20 ⟨rfl, rfl⟩
  go_wp2_with fail
  go_ret2
  exact ⟨by rw [appV_7]; rfl, hB'⟩

theorem refApply_7 (a b : BitVec 64) (w : World) : Calls Try.prog 30 #[.int .u8 7, s a, s b] w fun e w' => e = .returned (.tuple #[s (appV 7 a b), .int .i64 0]) ∧ Below w.heap.size w w' := by
  cases hz : (b == 0#64)
  · exact refApply_7f a b hz w
  · exact refApply_7t a b hz w

set_option maxRecDepth 100000 in
set_option maxHeartbeats 1000000 in
theorem refApply_8f (a b : BitVec 64) (hz : (b == 0#64) = false) (w : World) : Calls Try.prog 30 #[.int .u8 8, s a, s b] w fun e w' => e = .returned (.tuple #[s (appV 8 a b), .int .i64 0]) ∧ Below w.heap.size w w' := by
  have HLOW := Hd.mk (low6 b)
  go_enter Try.func30, Try.ntmps30
  go_wp2_with fail
  refine (bits_any a _).mono ?_
  rintro e w1 ⟨v1, rfl, hb1, hB1⟩
  have HV1 := Hd.mk hb1
  clear hb1
  go_wp2_with fail
  refine (bits_any b _).mono ?_
  rintro e w2 ⟨v2, rfl, hb2, hB2⟩
  have HX := Hd.mk (HV1.out.below hB2)
  have HYY := Hd.mk hb2
  have hB := hB1.trans (hB2.mono hB1.size)
  obtain ⟨b9, off9, c9, rfl, hc9, _, hbw9, hcell9⟩ := hb2
  have k0 := hcell9 0 (by decide)
  rw [Nat.add_zero] at k0
  have k1 := hcell9 1 (by decide)
  have k2 := hcell9 2 (by decide)
  have k3 := hcell9 3 (by decide)
  have k4 := hcell9 4 (by decide)
  have k5 := hcell9 5 (by decide)
  obtain ⟨l0, u0⟩ := bi_le b 0
  obtain ⟨l1, u1⟩ := bi_le b 1
  obtain ⟨l2, u2⟩ := bi_le b 2
  obtain ⟨l3, u3⟩ := bi_le b 3
  obtain ⟨l4, u4⟩ := bi_le b 4
  obtain ⟨l5, u5⟩ := bi_le b 5
  clear hcell9 hB1 hB2 HV1
  obtain ⟨p0, hp0⟩ : ∃ p, bi b 0 = p := ⟨_, rfl⟩
  obtain ⟨p1, hp1⟩ : ∃ p, bi b 1 = p := ⟨_, rfl⟩
  obtain ⟨p2, hp2⟩ : ∃ p, bi b 2 = p := ⟨_, rfl⟩
  obtain ⟨p3, hp3⟩ : ∃ p, bi b 3 = p := ⟨_, rfl⟩
  obtain ⟨p4, hp4⟩ : ∃ p, bi b 4 = p := ⟨_, rfl⟩
  obtain ⟨p5, hp5⟩ : ∃ p, bi b 5 = p := ⟨_, rfl⟩
  have hlow := HLOW.out
  rw [hp0, hp1, hp2, hp3, hp4, hp5] at hlow
  rw [hp0] at k0 l0 u0
  rw [hp1] at k1 l1 u1
  rw [hp2] at k2 l2 u2
  rw [hp3] at k3 l3 u3
  rw [hp4] at k4 l4 u4
  rw [hp5] at k5 l5 u5
  obtain ⟨t1, t2, t3, t4, t5, s1, s2, s3, s4, s5⟩ := sums6 p0 p1 p2 p3 p4 p5 l0 u0 l1 u1 l2 u2 l3 u3 l4 u4 l5 u5
  rw [hlow] at s5
  clear HLOW hp0 hp1 hp2 hp3 hp4 hp5
  have HL := Hd.mk hlow
  clear hlow
  go_wp2_with fail
  go_quiet (fail)
  obtain ⟨wd, hwd⟩ : ∃ wd, wd = w2.drewN nq := ⟨_, rfl⟩
  have hBd : Below w2.heap.size w2 wd := by rw [hwd]; exact below_drewN (Below.refl _ _) nq
  rw [← hwd]
  have HXd := Hd.mk (HX.out.below hBd)
  have HYd := Hd.mk (HYY.out.below hBd)
  have hB' := hB.trans (hBd.mono hB.size)
  clear hwd k0 k1 k2 k3 k4 k5 t1 t2 t3 t4 t5 s1 s2 s3 s4 s5 hB hBd HX HYY
  go_wp2_with fail
  refine (bitwise_8 _ _ a b _ HXd.out HYd.out).mono ?_
  rintro e w3 ⟨v3, rfl, hb3, hB3⟩
  have HV3 := Hd.mk hb3
  have HX3 := Hd.mk (HXd.out.below hB3)
  have hB3' := hB'.trans (hB3.mono hB'.size)
  clear hB' hb3
  have hB' := hB3'
  clear hB3'
  go_wp2_with fail
  refine (word_any _ _ _ HV3.out).mono ?_
  rintro e w20 ⟨rfl, rfl⟩
  go_wp2_with fail
  go_ret2
  exact ⟨by rw [appV_8]; rfl, hB'⟩

set_option maxRecDepth 100000 in
set_option maxHeartbeats 1000000 in
theorem refApply_8t (a b : BitVec 64) (hz : (b == 0#64) = true) (w : World) : Calls Try.prog 30 #[.int .u8 8, s a, s b] w fun e w' => e = .returned (.tuple #[s (appV 8 a b), .int .i64 0]) ∧ Below w.heap.size w w' := by
  have HLOW := Hd.mk (low6 b)
  go_enter Try.func30, Try.ntmps30
  go_wp2_with fail
  refine (bits_any a _).mono ?_
  rintro e w1 ⟨v1, rfl, hb1, hB1⟩
  have HV1 := Hd.mk hb1
  clear hb1
  go_wp2_with fail
  refine (bits_any b _).mono ?_
  rintro e w2 ⟨v2, rfl, hb2, hB2⟩
  have HX := Hd.mk (HV1.out.below hB2)
  have HYY := Hd.mk hb2
  have hB := hB1.trans (hB2.mono hB1.size)
  obtain ⟨b9, off9, c9, rfl, hc9, _, hbw9, hcell9⟩ := hb2
  have k0 := hcell9 0 (by decide)
  rw [Nat.add_zero] at k0
  have k1 := hcell9 1 (by decide)
  have k2 := hcell9 2 (by decide)
  have k3 := hcell9 3 (by decide)
  have k4 := hcell9 4 (by decide)
  have k5 := hcell9 5 (by decide)
  obtain ⟨l0, u0⟩ := bi_le b 0
  obtain ⟨l1, u1⟩ := bi_le b 1
  obtain ⟨l2, u2⟩ := bi_le b 2
  obtain ⟨l3, u3⟩ := bi_le b 3
  obtain ⟨l4, u4⟩ := bi_le b 4
  obtain ⟨l5, u5⟩ := bi_le b 5
  clear hcell9 hB1 hB2 HV1
  obtain ⟨p0, hp0⟩ : ∃ p, bi b 0 = p := ⟨_, rfl⟩
  obtain ⟨p1, hp1⟩ : ∃ p, bi b 1 = p := ⟨_, rfl⟩
  obtain ⟨p2, hp2⟩ : ∃ p, bi b 2 = p := ⟨_, rfl⟩
  obtain ⟨p3, hp3⟩ : ∃ p, bi b 3 = p := ⟨_, rfl⟩
  obtain ⟨p4, hp4⟩ : ∃ p, bi b 4 = p := ⟨_, rfl⟩
  obtain ⟨p5, hp5⟩ : ∃ p, bi b 5 = p := ⟨_, rfl⟩
  have hlow := HLOW.out
  rw [hp0, hp1, hp2, hp3, hp4, hp5] at hlow
  rw [hp0] at k0 l0 u0
  rw [hp1] at k1 l1 u1
  rw [hp2] at k2 l2 u2
  rw [hp3] at k3 l3 u3
  rw [hp4] at k4 l4 u4
  rw [hp5] at k5 l5 u5
  obtain ⟨t1, t2, t3, t4, t5, s1, s2, s3, s4, s5⟩ := sums6 p0 p1 p2 p3 p4 p5 l0 u0 l1 u1 l2 u2 l3 u3 l4 u4 l5 u5
  rw [hlow] at s5
  clear HLOW hp0 hp1 hp2 hp3 hp4 hp5
  have HL := Hd.mk hlow
  clear hlow
  go_wp2_with fail
  go_quiet (fail)
  obtain ⟨wd, hwd⟩ : ∃ wd, wd = w2.drewN nq := ⟨_, rfl⟩
  have hBd : Below w2.heap.size w2 wd := by rw [hwd]; exact below_drewN (Below.refl _ _) nq
  rw [← hwd]
  have HXd := Hd.mk (HX.out.below hBd)
  have HYd := Hd.mk (HYY.out.below hBd)
  have hB' := hB.trans (hBd.mono hB.size)
  clear hwd k0 k1 k2 k3 k4 k5 t1 t2 t3 t4 t5 s1 s2 s3 s4 s5 hB hBd HX HYY
  go_wp2_with fail
  refine (bitwise_8 _ _ a b _ HXd.out HYd.out).mono ?_
  rintro e w3 ⟨v3, rfl, hb3, hB3⟩
  have HV3 := Hd.mk hb3
  have HX3 := Hd.mk (HXd.out.below hB3)
  have hB3' := hB'.trans (hB3.mono hB'.size)
  clear hB' hb3
  have hB' := hB3'
  clear hB3'
  go_wp2_with fail
  refine (word_any _ _ _ HV3.out).mono ?_
  rintro e w20 ⟨rfl, rfl⟩
  go_wp2_with fail
  go_ret2
  exact ⟨by rw [appV_8]; rfl, hB'⟩

theorem refApply_8 (a b : BitVec 64) (w : World) : Calls Try.prog 30 #[.int .u8 8, s a, s b] w fun e w' => e = .returned (.tuple #[s (appV 8 a b), .int .i64 0]) ∧ Below w.heap.size w w' := by
  cases hz : (b == 0#64)
  · exact refApply_8f a b hz w
  · exact refApply_8t a b hz w

set_option maxRecDepth 100000 in
set_option maxHeartbeats 1000000 in
theorem refApply_9f (a b : BitVec 64) (hz : (b == 0#64) = false) (w : World) : Calls Try.prog 30 #[.int .u8 9, s a, s b] w fun e w' => e = .returned (.tuple #[s (appV 9 a b), .int .i64 0]) ∧ Below w.heap.size w w' := by
  have HLOW := Hd.mk (low6 b)
  go_enter Try.func30, Try.ntmps30
  go_wp2_with fail
  refine (bits_any a _).mono ?_
  rintro e w1 ⟨v1, rfl, hb1, hB1⟩
  have HV1 := Hd.mk hb1
  clear hb1
  go_wp2_with fail
  refine (bits_any b _).mono ?_
  rintro e w2 ⟨v2, rfl, hb2, hB2⟩
  have HX := Hd.mk (HV1.out.below hB2)
  have HYY := Hd.mk hb2
  have hB := hB1.trans (hB2.mono hB1.size)
  obtain ⟨b9, off9, c9, rfl, hc9, _, hbw9, hcell9⟩ := hb2
  have k0 := hcell9 0 (by decide)
  rw [Nat.add_zero] at k0
  have k1 := hcell9 1 (by decide)
  have k2 := hcell9 2 (by decide)
  have k3 := hcell9 3 (by decide)
  have k4 := hcell9 4 (by decide)
  have k5 := hcell9 5 (by decide)
  obtain ⟨l0, u0⟩ := bi_le b 0
  obtain ⟨l1, u1⟩ := bi_le b 1
  obtain ⟨l2, u2⟩ := bi_le b 2
  obtain ⟨l3, u3⟩ := bi_le b 3
  obtain ⟨l4, u4⟩ := bi_le b 4
  obtain ⟨l5, u5⟩ := bi_le b 5
  clear hcell9 hB1 hB2 HV1
  obtain ⟨p0, hp0⟩ : ∃ p, bi b 0 = p := ⟨_, rfl⟩
  obtain ⟨p1, hp1⟩ : ∃ p, bi b 1 = p := ⟨_, rfl⟩
  obtain ⟨p2, hp2⟩ : ∃ p, bi b 2 = p := ⟨_, rfl⟩
  obtain ⟨p3, hp3⟩ : ∃ p, bi b 3 = p := ⟨_, rfl⟩
  obtain ⟨p4, hp4⟩ : ∃ p, bi b 4 = p := ⟨_, rfl⟩
  obtain ⟨p5, hp5⟩ : ∃ p, bi b 5 = p := ⟨_, rfl⟩
  have hlow := HLOW.out
  rw [hp0, hp1, hp2, hp3, hp4, hp5] at hlow
  rw [hp0] at k0 l0 u0
  rw [hp1] at k1 l1 u1
  rw [hp2] at k2 l2 u2
  rw [hp3] at k3 l3 u3
  rw [hp4] at k4 l4 u4
  rw [hp5] at k5 l5 u5
  obtain ⟨t1, t2, t3, t4, t5, s1, s2, s3, s4, s5⟩ := sums6 p0 p1 p2 p3 p4 p5 l0 u0 l1 u1 l2 u2 l3 u3 l4 u4 l5 u5
  rw [hlow] at s5
  clear HLOW hp0 hp1 hp2 hp3 hp4 hp5
  have HL := Hd.mk hlow
  clear hlow
  go_wp2_with fail
  go_quiet (fail)
  obtain ⟨wd, hwd⟩ : ∃ wd, wd = w2.drewN nq := ⟨_, rfl⟩
  have hBd : Below w2.heap.size w2 wd := by rw [hwd]; exact below_drewN (Below.refl _ _) nq
  rw [← hwd]
  have HXd := Hd.mk (HX.out.below hBd)
  have HYd := Hd.mk (HYY.out.below hBd)
  have hB' := hB.trans (hBd.mono hB.size)
  clear hwd k0 k1 k2 k3 k4 k5 t1 t2 t3 t4 t5 s1 s2 s3 s4 s5 hB hBd HX HYY
  go_wp2_with fail
  refine (bitwise_9 _ _ a b _ HXd.out HYd.out).mono ?_
  rintro e w3 ⟨v3, rfl, hb3, hB3⟩
  have HV3 := Hd.mk hb3
  have HX3 := Hd.mk (HXd.out.below hB3)
  have hB3' := hB'.trans (hB3.mono hB'.size)
  clear hB' hb3
  have hB' := hB3'
  clear hB3'
  go_wp2_with fail
  refine (word_any _ _ _ HV3.out).mono ?_
  rintro e w20 ⟨rfl, rfl⟩
  go_wp2_with fail
  go_ret2
  exact ⟨by rw [appV_9]; rfl, hB'⟩

set_option maxRecDepth 100000 in
set_option maxHeartbeats 1000000 in
theorem refApply_9t (a b : BitVec 64) (hz : (b == 0#64) = true) (w : World) : Calls Try.prog 30 #[.int .u8 9, s a, s b] w fun e w' => e = .returned (.tuple #[s (appV 9 a b), .int .i64 0]) ∧ Below w.heap.size w w' := by
  have HLOW := Hd.mk (low6 b)
  go_enter Try.func30, Try.ntmps30
  go_wp2_with fail
  refine (bits_any a _).mono ?_
  rintro e w1 ⟨v1, rfl, hb1, hB1⟩
  have HV1 := Hd.mk hb1
  clear hb1
  go_wp2_with fail
  refine (bits_any b _).mono ?_
  rintro e w2 ⟨v2, rfl, hb2, hB2⟩
  have HX := Hd.mk (HV1.out.below hB2)
  have HYY := Hd.mk hb2
  have hB := hB1.trans (hB2.mono hB1.size)
  obtain ⟨b9, off9, c9, rfl, hc9, _, hbw9, hcell9⟩ := hb2
  have k0 := hcell9 0 (by decide)
  rw [Nat.add_zero] at k0
  have k1 := hcell9 1 (by decide)
  have k2 := hcell9 2 (by decide)
  have k3 := hcell9 3 (by decide)
  have k4 := hcell9 4 (by decide)
  have k5 := hcell9 5 (by decide)
  obtain ⟨l0, u0⟩ := bi_le b 0
  obtain ⟨l1, u1⟩ := bi_le b 1
  obtain ⟨l2, u2⟩ := bi_le b 2
  obtain ⟨l3, u3⟩ := bi_le b 3
  obtain ⟨l4, u4⟩ := bi_le b 4
  obtain ⟨l5, u5⟩ := bi_le b 5
  clear hcell9 hB1 hB2 HV1
  obtain ⟨p0, hp0⟩ : ∃ p, bi b 0 = p := ⟨_, rfl⟩
  obtain ⟨p1, hp1⟩ : ∃ p, bi b 1 = p := ⟨_, rfl⟩
  obtain ⟨p2, hp2⟩ : ∃ p, bi b 2 = p := ⟨_, rfl⟩
  obtain ⟨p3, hp3⟩ : ∃ p, bi b 3 = p := ⟨_, rfl⟩
  obtain ⟨p4, hp4⟩ : ∃ p, bi b 4 = p := ⟨_, rfl⟩
  obtain ⟨p5, hp5⟩ : ∃ p, bi b 5 = p := ⟨_, rfl⟩
  have hlow := HLOW.out
  rw [hp0, hp1, hp2, hp3, hp4, hp5] at hlow
  rw [hp0] at k0 l0 u0
  rw [hp1] at k1 l1 u1
  rw [hp2] at k2 l2 u2
  rw [hp3] at k3 l3 u3
  rw [hp4] at k4 l4 u4
  rw [hp5] at k5 l5 u5
  obtain ⟨t1, t2, t3, t4, t5, s1, s2, s3, s4, s5⟩ := sums6 p0 p1 p2 p3 p4 p5 l0 u0 l1 u1 l2 u2 l3 u3 l4 u4 l5 u5
  rw [hlow] at s5
  clear HLOW hp0 hp1 hp2 hp3 hp4 hp5
  have HL := Hd.mk hlow
  clear hlow
  go_wp2_with fail
  go_quiet (fail)
  obtain ⟨wd, hwd⟩ : ∃ wd, wd = w2.drewN nq := ⟨_, rfl⟩
  have hBd : Below w2.heap.size w2 wd := by rw [hwd]; exact below_drewN (Below.refl _ _) nq
  rw [← hwd]
  have HXd := Hd.mk (HX.out.below hBd)
  have HYd := Hd.mk (HYY.out.below hBd)
  have hB' := hB.trans (hBd.mono hB.size)
  clear hwd k0 k1 k2 k3 k4 k5 t1 t2 t3 t4 t5 s1 s2 s3 s4 s5 hB hBd HX HYY
  go_wp2_with fail
  refine (bitwise_9 _ _ a b _ HXd.out HYd.out).mono ?_
  rintro e w3 ⟨v3, rfl, hb3, hB3⟩
  have HV3 := Hd.mk hb3
  have HX3 := Hd.mk (HXd.out.below hB3)
  have hB3' := hB'.trans (hB3.mono hB'.size)
  clear hB' hb3
  have hB' := hB3'
  clear hB3'
  go_wp2_with fail
  refine (word_any _ _ _ HV3.out).mono ?_
  rintro e w20 ⟨rfl, rfl⟩
  go_wp2_with fail
  go_ret2
  exact ⟨by rw [appV_9]; rfl, hB'⟩

theorem refApply_9 (a b : BitVec 64) (w : World) : Calls Try.prog 30 #[.int .u8 9, s a, s b] w fun e w' => e = .returned (.tuple #[s (appV 9 a b), .int .i64 0]) ∧ Below w.heap.size w w' := by
  cases hz : (b == 0#64)
  · exact refApply_9f a b hz w
  · exact refApply_9t a b hz w
end Go.Proofs.Ytbmommomhepfpaa
