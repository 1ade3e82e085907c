/- Walk of the reference's Apply: the lesser and the greater one, divisions. -/
import Derived.Test.YtbmommomhepfpaaR7
namespace Go.Proofs.Ytbmommomhepfpaa
open Go.RowKit
set_option linter.unusedVariables false

theorem min_ref (a b : BitVec 64) : (a.slt b = true → a = sminV a b) ∧ (a.slt b = false → b = sminV a b) := by
  unfold sminV
  rw [BitVec.slt, BitVec.slt]
  constructor
  · intro h
    have h1 : a.toInt < b.toInt := by simpa using h
    rw [if_neg (by simp; omega)]
  · intro h
    have h1 : ¬ a.toInt < b.toInt := by simpa using h
    by_cases e : b.toInt < a.toInt
    · rw [if_pos (by simpa using e)]
    · rw [if_neg (by simpa using e)]; exact BitVec.eq_of_toInt_eq (by omega)
theorem max_ref (a b : BitVec 64) : (a.slt b = true → b = smaxV a b) ∧ (a.slt b = false → a = smaxV a b) := by
  unfold smaxV
  constructor
  · intro h; rw [if_pos h]
  · intro h; rw [if_neg (by simp [h])]

set_option maxRecDepth 100000 in
set_option maxHeartbeats 1000000 in
theorem refApplyt_16f (a b : BitVec 64) (hz : (b == 0#64) = false) (hs : a.slt b = true) (w : World) : Calls Try.prog 30 #[.int .u8 16, s a, s b] w fun e w' => e = .returned (.tuple #[s (appV 16 a b), .int .i64 0]) ∧ Below w.heap.size w w' := by
  have HLOW := Hd.mk (low6 b)
  go_enter Try.func30, Try.ntmps30
  go_wp2_with fail
  refine (bits_any a _).mono ?_
  rintro e w1 ⟨v1, rfl, hb1, hB1⟩
  have HV1 := Hd.mk hb1
  clear hb1
  go_wp2_with fail
  refine (bits_any b _).mono ?_
  rintro e w2 ⟨v2, rfl, hb2, hB2⟩
  have HX := Hd.mk (HV1.out.below hB2)
  have HYY := Hd.mk hb2
  have hB := hB1.trans (hB2.mono hB1.size)
  obtain ⟨b9, off9, c9, rfl, hc9, _, hbw9, hcell9⟩ := hb2
  have k0 := hcell9 0 (by decide)
  rw [Nat.add_zero] at k0
  have k1 := hcell9 1 (by decide)
  have k2 := hcell9 2 (by decide)
  have k3 := hcell9 3 (by decide)
  have k4 := hcell9 4 (by decide)
  have k5 := hcell9 5 (by decide)
  obtain ⟨l0, u0⟩ := bi_le b 0
  obtain ⟨l1, u1⟩ := bi_le b 1
  obtain ⟨l2, u2⟩ := bi_le b 2
  obtain ⟨l3, u3⟩ := bi_le b 3
  obtain ⟨l4, u4⟩ := bi_le b 4
  obtain ⟨l5, u5⟩ := bi_le b 5
  clear hcell9 hB1 hB2 HV1
  obtain ⟨p0, hp0⟩ : ∃ p, bi b 0 = p := ⟨_, rfl⟩
  obtain ⟨p1, hp1⟩ : ∃ p, bi b 1 = p := ⟨_, rfl⟩
  obtain ⟨p2, hp2⟩ : ∃ p, bi b 2 = p := ⟨_, rfl⟩
  obtain ⟨p3, hp3⟩ : ∃ p, bi b 3 = p := ⟨_, rfl⟩
  obtain ⟨p4, hp4⟩ : ∃ p, bi b 4 = p := ⟨_, rfl⟩
  obtain ⟨p5, hp5⟩ : ∃ p, bi b 5 = p := ⟨_, rfl⟩
  have hlow := HLOW.out
  rw [hp0, hp1, hp2, hp3, hp4, hp5] at hlow
  rw [hp0] at k0 l0 u0
  rw [hp1] at k1 l1 u1
  rw [hp2] at k2 l2 u2
  rw [hp3] at k3 l3 u3
  rw [hp4] at k4 l4 u4
  rw [hp5] at k5 l5 u5
  obtain ⟨t1, t2, t3, t4, t5, s1, s2, s3, s4, s5⟩ := sums6 p0 p1 p2 p3 p4 p5 l0 u0 l1 u1 l2 u2 l3 u3 l4 u4 l5 u5
  rw [hlow] at s5
  clear HLOW hp0 hp1 hp2 hp3 hp4 hp5
  have HL := Hd.mk hlow
  clear hlow
  go_wp2_with fail
  go_quiet (fail)
  obtain ⟨wd, hwd⟩ : ∃ wd, wd = w2.drewN nq := ⟨_, rfl⟩
  have hBd : Below w2.heap.size w2 wd := by rw [hwd]; exact below_drewN (Below.refl _ _) nq
  rw [← hwd]
  have HXd := Hd.mk (HX.out.below hBd)
  have HYd := Hd.mk (HYY.out.below hBd)
  have hB' := hB.trans (hBd.mono hB.size)
  clear hwd k0 k1 k2 k3 k4 k5 t1 t2 t3 t4 t5 s1 s2 s3 s4 s5 hB hBd HX HYY
  go_wp2_with fail
  go_ret2
  exact ⟨by rw [appV_16, ← (min_ref a b).1 hs]; rfl, hB'⟩

set_option maxRecDepth 100000 in
set_option maxHeartbeats 1000000 in
theorem refApplyt_16t (a b : BitVec 64) (hz : (b == 0#64) = true) (hs : a.slt b = true) (w : World) : Calls Try.prog 30 #[.int .u8 16, s a, s b] w fun e w' => e = .returned (.tuple #[s (appV 16 a b), .int .i64 0]) ∧ Below w.heap.size w w' := by
  have HLOW := Hd.mk (low6 b)
  go_enter Try.func30, Try.ntmps30
  go_wp2_with fail
  refine (bits_any a _).mono ?_
  rintro e w1 ⟨v1, rfl, hb1, hB1⟩
  have HV1 := Hd.mk hb1
  clear hb1
  go_wp2_with fail
  refine (bits_any b _).mono ?_
  rintro e w2 ⟨v2, rfl, hb2, hB2⟩
  have HX := Hd.mk (HV1.out.below hB2)
  have HYY := Hd.mk hb2
  have hB := hB1.trans (hB2.mono hB1.size)
  obtain ⟨b9, off9, c9, rfl, hc9, _, hbw9, hcell9⟩ := hb2
  have k0 := hcell9 0 (by decide)
  rw [Nat.add_zero] at k0
  have k1 := hcell9 1 (by decide)
  have k2 := hcell9 2 (by decide)
  have k3 := hcell9 3 (by decide)
  have k4 := hcell9 4 (by decide)
  have k5 := hcell9 5 (by decide)
  obtain ⟨l0, u0⟩ := bi_le b 0
  obtain ⟨l1, u1⟩ := bi_le b 1
  obtain ⟨l2, u2⟩ := bi_le b 2
  obtain ⟨l3, u3⟩ := bi_le b 3
  obtain ⟨l4, u4⟩ := bi_le b 4
  obtain ⟨l5, u5⟩ := bi_le b 5
  clear hcell9 hB1 hB2 HV1
  obtain ⟨p0, hp0⟩ : ∃ p, bi b 0 = p := ⟨_, rfl⟩
  obtain ⟨p1, hp1⟩ : ∃ p, bi b 1 = p := ⟨_, rfl⟩
  obtain ⟨p2, hp2⟩ : ∃ p, bi b 2 = p := ⟨_, rfl⟩
  obtain ⟨p3, hp3⟩ : ∃ p, bi b 3 = p := ⟨_, rfl⟩
  obtain ⟨p4, hp4⟩ : ∃ p, bi b 4 = p := ⟨_, rfl⟩
  obtain ⟨p5, hp5⟩ : ∃ p, bi b 5 = p := ⟨_, rfl⟩
  have hlow := HLOW.out
  rw [hp0, hp1, hp2, hp3, hp4, hp5] at hlow
  rw [hp0] at k0 l0 u0
  rw [hp1] at k1 l1 u1
  rw [hp2] at k2 l2 u2
  rw [hp3] at k3 l3 u3
  rw [hp4] at k4 l4 u4
  rw [hp5] at k5 l5 u5
  obtain ⟨t1, t2, t3, t4, t5, s1, s2, s3, s4, s5⟩ := sums6 p0 p1 p2 p3 p4 p5 l0 u0 l1 u1 l2 u2 l3 u3 l4 u4 l5 u5
  rw [hlow] at s5
  clear HLOW hp0 hp1 hp2 hp3 hp4 hp5
  have HL := Hd.mk hlow
  clear hlow
  go_wp2_with fail
  go_quiet (fail)
  obtain ⟨wd, hwd⟩ : ∃ wd, wd = w2.drewN nq := ⟨_, rfl⟩
  have hBd : Below w2.heap.size w2 wd := by rw [hwd]; exact below_drewN (Below.refl _ _) nq
  rw [← hwd]
  have HXd := Hd.mk (HX.out.below hBd)
  have HYd := Hd.mk (HYY.out.below hBd)
  have hB' := hB.trans (hBd.mono hB.size)
  clear hwd k0 k1 k2 k3 k4 k5 t1 t2 t3 t4 t5 s1 s2 s3 s4 s5 hB hBd HX HYY
  go_wp2_with fail
  go_ret2
  exact ⟨by rw [appV_16, ← (min_ref a b).1 hs]; rfl, hB'⟩

set_option maxRecDepth 100000 in
set_option maxHeartbeats 1000000 in
theorem refApplyf_16f (a b : BitVec 64) (hz : (b == 0#64) = false) (hs : a.slt b = false) (w : World) : Calls Try.prog 30 #[.int .u8 16, s a, s b] w fun e w' => e = .returned (.tuple #[s (appV 16 a b), .int .i64 0]) ∧ Below w.heap.size w w' := by
  have HLOW := Hd.mk (low6 b)
  go_enter Try.func30, Try.ntmps30
  go_wp2_with fail
  refine (bits_any a _).mono ?_
  rintro e w1 ⟨v1, rfl, hb1, hB1⟩
  have HV1 := Hd.mk hb1
  clear hb1
  go_wp2_with fail
  refine (bits_any b _).mono ?_
  rintro e w2 ⟨v2, rfl, hb2, hB2⟩
  have HX := Hd.mk (HV1.out.below hB2)
  have HYY := Hd.mk hb2
  have hB := hB1.trans (hB2.mono hB1.size)
  obtain ⟨b9, off9, c9, rfl, hc9, _, hbw9, hcell9⟩ := hb2
  have k0 := hcell9 0 (by decide)
  rw [Nat.add_zero] at k0
  have k1 := hcell9 1 (by decide)
  have k2 := hcell9 2 (by decide)
  have k3 := hcell9 3 (by decide)
  have k4 := hcell9 4 (by decide)
  have k5 := hcell9 5 (by decide)
  obtain ⟨l0, u0⟩ := bi_le b 0
  obtain ⟨l1, u1⟩ := bi_le b 1
  obtain ⟨l2, u2⟩ := bi_le b 2
  obtain ⟨l3, u3⟩ := bi_le b 3
  obtain ⟨l4, u4⟩ := bi_le b 4
  obtain ⟨l5, u5⟩ := bi_le b 5
  clear hcell9 hB1 hB2 HV1
  obtain ⟨p0, hp0⟩ : ∃ p, bi b 0 = p := ⟨_, rfl⟩
  obtain ⟨p1, hp1⟩ : ∃ p, bi b 1 = p := ⟨_, rfl⟩
  obtain ⟨p2, hp2⟩ : ∃ p, bi b 2 = p := ⟨_, rfl⟩
  obtain ⟨p3, hp3⟩ : ∃ p, bi b 3 = p := ⟨_, rfl⟩
  obtain ⟨p4, hp4⟩ : ∃ p, bi b 4 = p := ⟨_, rfl⟩
  obtain ⟨p5, hp5⟩ : ∃ p, bi b 5 = p := ⟨_, rfl⟩
  have hlow := HLOW.out
  rw [hp0, hp1, hp2, hp3, hp4, hp5] at hlow
  rw [hp0] at k0 l0 u0
  rw [hp1] at k1 l1 u1
  rw [hp2] at k2 l2 u2
  rw [hp3] at k3 l3 u3
  rw [hp4] at k4 l4 u4
  rw [hp5] at k5 l5 u5
  obtain ⟨t1, t2, t3, t4, t5, s1, s2, s3, s4, s5⟩ := sums6 p0 p1 p2 p3 p4 p5 l0 u0 l1 u1 l2 u2 l3 u3 l4 u4 l5 u5
  rw [hlow] at s5
  clear HLOW hp0 hp1 hp2 hp3 hp4 hp5
  have HL := Hd.mk hlow
  clear hlow
  go_wp2_with fail
  go_quiet (fail)
  obtain ⟨wd, hwd⟩ : ∃ wd, wd = w2.drewN nq := ⟨_, rfl⟩
  have hBd : Below w2.heap.size w2 wd := by rw [hwd]; exact below_drewN (Below.refl _ _) nq
  rw [← hwd]
  have HXd := Hd.mk (HX.out.below hBd)
  have HYd := Hd.mk (HYY.out.below hBd)
  have hB' := hB.trans (hBd.mono hB.size)
  clear hwd k0 k1 k2 k3 k4 k5 t1 t2 t3 t4 t5 s1 s2 s3 s4 s5 hB hBd HX HYY
  go_wp2_with fail
  go_ret2
  exact ⟨by rw [appV_16, ← (min_ref a b).2 hs]; rfl, hB'⟩

set_option maxRecDepth 100000 in
set_option maxHeartbeats 1000000 in
theorem refApplyf_16t (a b : BitVec 64) (hz : (b == 0#64) = true) (hs : a.slt b = false) (w : World) : Calls Try.prog 30 #[.int .u8 16, s a, s b] w fun e w' => e = .returned (.tuple #[s (appV 16 a b), .int .i64 0]) ∧ Below w.heap.size w w' := by
  have HLOW := Hd.mk (low6 b)
  go_enter Try.func30, Try.ntmps30
  go_wp2_with fail
  refine (bits_any a _).mono ?_
  rintro e w1 ⟨v1, rfl, hb1, hB1⟩
  have HV1 := Hd.mk hb1
  clear hb1
  go_wp2_with fail
  refine (bits_any b _).mono ?_
  rintro e w2 ⟨v2, rfl, hb2, hB2⟩
  have HX := Hd.mk (HV1.out.below hB2)
  have HYY := Hd.mk hb2
  have hB := hB1.trans (hB2.mono hB1.size)
  obtain ⟨b9, off9, c9, rfl, hc9, _, hbw9, hcell9⟩ := hb2
  have k0 := hcell9 0 (by decide)
  rw [Nat.add_zero] at k0
  have k1 := hcell9 1 (by decide)
  have k2 := hcell9 2 (by decide)
  have k3 := hcell9 3 (by decide)
  have k4 := hcell9 4 (by decide)
  have k5 := hcell9 5 (by decide)
  obtain ⟨l0, u0⟩ := bi_le b 0
  obtain ⟨l1, u1⟩ := bi_le b 1
  obtain ⟨l2, u2⟩ := bi_le b 2
  obtain ⟨l3, u3⟩ := bi_le b 3
  obtain ⟨l4, u4⟩ := bi_le b 4
  obtain ⟨l5, u5⟩ := bi_le b 5
  clear hcell9 hB1 hB2 HV1
  obtain ⟨p0, hp0⟩ : ∃ p, bi b 0 = p := ⟨_, rfl⟩
  obtain ⟨p1, hp1⟩ : ∃ p, bi b 1 = p := ⟨_, rfl⟩
  obtain ⟨p2, hp2⟩ : ∃ p, bi b 2 = p := ⟨_, rfl⟩
  obtain ⟨p3, hp3⟩ : ∃ p, bi b 3 = p := ⟨_, rfl⟩
  obtain ⟨p4, hp4⟩ : ∃ p, bi b 4 = p := ⟨_, rfl⟩
  obtain ⟨p5, hp5⟩ : ∃ p, bi b 5 = p := ⟨_, rfl⟩
  have hlow := HLOW.out
  rw [hp0, hp1, hp2, hp3, hp4, hp5] at hlow
  rw [hp0] at k0 l0 u0
  rw [hp1] at k1 l1 u1
  rw [hp2] at k2 l2 u2
  rw [hp3] at k3 l3 u3
  rw [hp4] at k4 l4 u4
  rw [hp5] at k5 l5 u5
  obtain ⟨t1, t2, t3, t4, t5, s1, s2, s3, s4, s5⟩ := sums6 p0 p1 p2 p3 p4 p5 l0 u0 l1 u1 l2 u2 l3 u3 l4 u4 l5 u5
  rw [hlow] at s5
  clear HLOW hp0 hp1 hp2 hp3 hp4 hp5
  have HL := Hd.mk hlow
  clear hlow
  go_wp2_with fail
  go_quiet (fail)
  obtain ⟨wd, hwd⟩ : ∃ wd, wd = w2.drewN nq := ⟨_, rfl⟩
  have hBd : Below w2.heap.size w2 wd := by rw [hwd]; exact below_drewN (Below.refl _ _) nq
  rw [← hwd]
  have HXd := Hd.mk (HX.out.below hBd)
  have HYd := Hd.mk (HYY.out.below hBd)
  have hB' := hB.trans (hBd.mono hB.size)
  clear hwd k0 k1 k2 k3 k4 k5 t1 t2 t3 t4 t5 s1 s2 s3 s4 s5 hB hBd HX HYY
  go_wp2_with fail
  go_ret2
  exact ⟨by rw [appV_16, ← (min_ref a b).2 hs]; rfl, hB'⟩

theorem refApply_16 (a b : BitVec 64) (w : World) : Calls Try.prog 30 #[.int .u8 16, s a, s b] w fun e w' => e = .returned (.tuple #[s (appV 16 a b), .int .i64 0]) ∧ Below w.heap.size w w' := by
  cases hz : (b == 0#64)
  all_goals (cases hs : a.slt b)
  · exact refApplyf_16f a b hz hs w
  · exact refApplyt_16f a b hz hs w
  · exact refApplyf_16t a b hz hs w
  · exact refApplyt_16t a b hz hs w

set_option maxRecDepth 100000 in
set_option maxHeartbeats 1000000 in
theorem refApplyt_17f (a b : BitVec 64) (hz : (b == 0#64) = false) (hs : a.slt b = true) (w : World) : Calls Try.prog 30 #[.int .u8 17, s a, s b] w fun e w' => e = .returned (.tuple #[s (appV 17 a b), .int .i64 0]) ∧ Below w.heap.size w w' := by
  have HLOW := Hd.mk (low6 b)
  go_enter Try.func30, Try.ntmps30
  go_wp2_with fail
  refine (bits_any a _).mono ?_
  rintro e w1 ⟨v1, rfl, hb1, hB1⟩
  have HV1 := Hd.mk hb1
  clear hb1
  go_wp2_with fail
  refine (bits_any b _).mono ?_
  rintro e w2 ⟨v2, rfl, hb2, hB2⟩
  have HX := Hd.mk (HV1.out.below hB2)
  have HYY := Hd.mk hb2
  have hB := hB1.trans (hB2.mono hB1.size)
  obtain ⟨b9, off9, c9, rfl, hc9, _, hbw9, hcell9⟩ := hb2
  have k0 := hcell9 0 (by decide)
  rw [Nat.add_zero] at k0
  have k1 := hcell9 1 (by decide)
  have k2 := hcell9 2 (by decide)
  have k3 := hcell9 3 (by decide)
  have k4 := hcell9 4 (by decide)
  have k5 := hcell9 5 (by decide)
  obtain ⟨l0, u0⟩ := bi_le b 0
  obtain ⟨l1, u1⟩ := bi_le b 1
  obtain ⟨l2, u2⟩ := bi_le b 2
  obtain ⟨l3, u3⟩ := bi_le b 3
  obtain ⟨l4, u4⟩ := bi_le b 4
  obtain ⟨l5, u5⟩ := bi_le b 5
  clear hcell9 hB1 hB2 HV1
  obtain ⟨p0, hp0⟩ : ∃ p, bi b 0 = p := ⟨_, rfl⟩
  obtain ⟨p1, hp1⟩ : ∃ p, bi b 1 = p := ⟨_, rfl⟩
  obtain ⟨p2, hp2⟩ : ∃ p, bi b 2 = p := ⟨_, rfl⟩
  obtain ⟨p3, hp3⟩ : ∃ p, bi b 3 = p := ⟨_, rfl⟩
  obtain ⟨p4, hp4⟩ : ∃ p, bi b 4 = p := ⟨_, rfl⟩
  obtain ⟨p5, hp5⟩ : ∃ p, bi b 5 = p := ⟨_, rfl⟩
  have hlow := HLOW.out
  rw [hp0, hp1, hp2, hp3, hp4, hp5] at hlow
  rw [hp0] at k0 l0 u0
  rw [hp1] at k1 l1 u1
  rw [hp2] at k2 l2 u2
  rw [hp3] at k3 l3 u3
  rw [hp4] at k4 l4 u4
  rw [hp5] at k5 l5 u5
  obtain ⟨t1, t2, t3, t4, t5, s1, s2, s3, s4, s5⟩ := sums6 p0 p1 p2 p3 p4 p5 l0 u0 l1 u1 l2 u2 l3 u3 l4 u4 l5 u5
  rw [hlow] at s5
  clear HLOW hp0 hp1 hp2 hp3 hp4 hp5
  have HL := Hd.mk hlow
  clear hlow
  go_wp2_with fail
  go_quiet (fail)
  obtain ⟨wd, hwd⟩ : ∃ wd, wd = w2.drewN nq := ⟨_, rfl⟩
  have hBd : Below w2.heap.size w2 wd := by rw [hwd]; exact below_drewN (Below.refl _ _) nq
  rw [← hwd]
  have HXd := Hd.mk (HX.out.below hBd)
  have HYd := Hd.mk (HYY.out.below hBd)
  have hB' := hB.trans (hBd.mono hB.size)
  clear hwd k0 k1 k2 k3 k4 k5 t1 t2 t3 t4 t5 s1 s2 s3 s4 s5 hB hBd HX HYY
  go_wp2_with fail
  go_ret2
  exact ⟨by rw [appV_17, ← (max_ref a b).1 hs]; rfl, hB'⟩

set_option maxRecDepth 100000 in
set_option maxHeartbeats 1000000 in
theorem refApplyt_17t (a b : BitVec 64) (hz : (b == 0#64) = true) (hs : a.slt b = true) (w : World) : Calls Try.prog 30 #[.int .u8 17, s a, s b] w fun e w' => e = .returned (.tuple #[s (appV 17 a b), .int .i64 0]) ∧ Below w.heap.size w w' := by
  have HLOW := Hd.mk (low6 b)
  go_enter Try.func30, Try.ntmps30
  go_wp2_with fail
  refine (bits_any a _).mono ?_
  rintro e w1 ⟨v1, rfl, hb1, hB1⟩
  have HV1 := Hd.mk hb1
  clear hb1
  go_wp2_with fail
  refine (bits_any b _).mono ?_
  rintro e w2 ⟨v2, rfl, hb2, hB2⟩
  have HX := Hd.mk (HV1.out.below hB2)
  have HYY := Hd.mk hb2
  have hB := hB1.trans (hB2.mono hB1.size)
  obtain ⟨b9, off9, c9, rfl, hc9, _, hbw9, hcell9⟩ := hb2
  have k0 := hcell9 0 (by decide)
  rw [Nat.add_zero] at k0
  have k1 := hcell9 1 (by decide)
  have k2 := hcell9 2 (by decide)
  have k3 := hcell9 3 (by decide)
  have k4 := hcell9 4 (by decide)
  have k5 := hcell9 5 (by decide)
  obtain ⟨l0, u0⟩ := bi_le b 0
  obtain ⟨l1, u1⟩ := bi_le b 1
  obtain ⟨l2, u2⟩ := bi_le b 2
  obtain ⟨l3, u3⟩ := bi_le b 3
  obtain ⟨l4, u4⟩ := bi_le b 4
  obtain ⟨l5, u5⟩ := bi_le b 5
  clear hcell9 hB1 hB2 HV1
  obtain ⟨p0, hp0⟩ : ∃ p, bi b 0 = p := ⟨_, rfl⟩
  obtain ⟨p1, hp1⟩ : ∃ p, bi b 1 = p := ⟨_, rfl⟩
  obtain ⟨p2, hp2⟩ : ∃ p, bi b 2 = p := ⟨_, rfl⟩
  obtain ⟨p3, hp3⟩ : ∃ p, bi b 3 = p := ⟨_, rfl⟩
  obtain ⟨p4, hp4⟩ : ∃ p, bi b 4 = p := ⟨_, rfl⟩
  obtain ⟨p5, hp5⟩ : ∃ p, bi b 5 = p := ⟨_, rfl⟩
  have hlow := HLOW.out
  rw [hp0, hp1, hp2, hp3, hp4, hp5] at hlow
  rw [hp0] at k0 l0 u0
  rw [hp1] at k1 l1 u1
  rw [hp2] at k2 l2 u2
  rw [hp3] at k3 l3 u3
  rw [hp4] at k4 l4 u4
  rw [hp5] at k5 l5 u5
  obtain ⟨t1, t2, t3, t4, t5, s1, s2, s3, s4, s5⟩ := sums6 p0 p1 p2 p3 p4 p5 l0 u0 l1 u1 l2 u2 l3 u3 l4 u4 l5 u5
  rw [hlow] at s5
  clear HLOW hp0 hp1 hp2 hp3 hp4 hp5
  have HL := Hd.mk hlow
  clear hlow
  go_wp2_with fail
  go_quiet (fail)
  obtain ⟨wd, hwd⟩ : ∃ wd, wd = w2.drewN nq := ⟨_, rfl⟩
  have hBd : Below w2.heap.size w2 wd := by rw [hwd]; exact below_drewN (Below.refl _ _) nq
  rw [← hwd]
  have HXd := Hd.mk (HX.out.below hBd)
  have HYd := Hd.mk (HYY.out.below hBd)
  have hB' := hB.trans (hBd.mono hB.size)
  clear hwd k0 k1 k2 k3 k4 k5 t1 t2 t3 t4 t5 s1 s2 s3 s4 s5 hB hBd HX HYY
  go_wp2_with fail
  go_ret2
  exact ⟨by rw [appV_17, ← (max_ref a b).1 hs]; rfl, hB'⟩

set_option maxRecDepth 100000 in
set_option maxHeartbeats 1000000 in
theorem refApplyf_17f (a b : BitVec 64) (hz : (b == 0#64) = false) (hs : a.slt b = false) (w : World) : Calls Try.prog 30 #[.int .u8 17, s a, s b] w fun e w' => e = .returned (.tuple #[s (appV 17 a b), .int .i64 0]) ∧ Below w.heap.size w w' := by
  have HLOW := Hd.mk (low6 b)
  go_enter Try.func30, Try.ntmps30
  go_wp2_with fail
  refine (bits_any a _).mono ?_
  rintro e w1 ⟨v1, rfl, hb1, hB1⟩
  have HV1 := Hd.mk hb1
  clear hb1
  go_wp2_with fail
  refine (bits_any b _).mono ?_
  rintro e w2 ⟨v2, rfl, hb2, hB2⟩
  have HX := Hd.mk (HV1.out.below hB2)
  have HYY := Hd.mk hb2
  have hB := hB1.trans (hB2.mono hB1.size)
  obtain ⟨b9, off9, c9, rfl, hc9, _, hbw9, hcell9⟩ := hb2
  have k0 := hcell9 0 (by decide)
  rw [Nat.add_zero] at k0
  have k1 := hcell9 1 (by decide)
  have k2 := hcell9 2 (by decide)
  have k3 := hcell9 3 (by decide)
  have k4 := hcell9 4 (by decide)
  have k5 := hcell9 5 (by decide)
  obtain ⟨l0, u0⟩ := bi_le b 0
  obtain ⟨l1, u1⟩ := bi_le b 1
  obtain ⟨l2, u2⟩ := bi_le b 2
  obtain ⟨l3, u3⟩ := bi_le b 3
  obtain ⟨l4, u4⟩ := bi_le b 4
  obtain ⟨l5, u5⟩ := bi_le b 5
  clear hcell9 hB1 hB2 HV1
  obtain ⟨p0, hp0⟩ : ∃ p, bi b 0 = p := ⟨_, rfl⟩
  obtain ⟨p1, hp1⟩ : ∃ p, bi b 1 = p := ⟨_, rfl⟩
  obtain ⟨p2, hp2⟩ : ∃ p, bi b 2 = p := ⟨_, rfl⟩
  obtain ⟨p3, hp3⟩ : ∃ p, bi b 3 = p := ⟨_, rfl⟩
  obtain ⟨p4, hp4⟩ : ∃ p, bi b 4 = p := ⟨_, rfl⟩
  obtain ⟨p5, hp5⟩ : ∃ p, bi b 5 = p := ⟨_, rfl⟩
  have hlow := HLOW.out
  rw [hp0, hp1, hp2, hp3, hp4, hp5] at hlow
  rw [hp0] at k0 l0 u0
  rw [hp1] at k1 l1 u1
  rw [hp2] at k2 l2 u2
  rw [hp3] at k3 l3 u3
  rw [hp4] at k4 l4 u4
  rw [hp5] at k5 l5 u5
  obtain ⟨t1, t2, t3, t4, t5, s1, s2, s3, s4, s5⟩ := sums6 p0 p1 p2 p3 p4 p5 l0 u0 l1 u1 l2 u2 l3 u3 l4 u4 l5 u5
  rw [hlow] at s5
  clear HLOW hp0 hp1 hp2 hp3 hp4 hp5
  have HL := Hd.mk hlow
  clear hlow
  go_wp2_with fail
  go_quiet (fail)
  obtain ⟨wd, hwd⟩ : ∃ wd, wd = w2.drewN nq := ⟨_, rfl⟩
  have hBd : Below w2.heap.size w2 wd := by rw [hwd]; exact below_drewN (Below.refl _ _) nq
  rw [← hwd]
  have HXd := Hd.mk (HX.out.below hBd)
  have HYd := Hd.mk (HYY.out.below hBd)
  have hB' := hB.trans (hBd.mono hB.size)
  clear hwd k0 k1 k2 k3 k4 k5 t1 t2 t3 t4 t5 s1 s2 s3 s4 s5 hB hBd HX HYY
  go_wp2_with fail
  go_ret2
  exact ⟨by rw [appV_17, ← (max_ref a b).2 hs]; rfl, hB'⟩

set_option maxRecDepth 100000 in
set_option maxHeartbeats 1000000 in
theorem refApplyf_17t (a b : BitVec 64) (hz : (b == 0#64) = true) (hs : a.slt b = false) (w : World) : Calls Try.prog 30 #[.int .u8 17, s a, s b] w fun e w' => e = .returned (.tuple #[s (appV 17 a b), .int .i64 0]) ∧ Below w.heap.size w w' := by
  have HLOW := Hd.mk (low6 b)
  go_enter Try.func30, Try.ntmps30
  go_wp2_with fail
  refine (bits_any a _).mono ?_
  rintro e w1 ⟨v1, rfl, hb1, hB1⟩
  have HV1 := Hd.mk hb1
  clear hb1
  go_wp2_with fail
  refine (bits_any b _).mono ?_
  rintro e w2 ⟨v2, rfl, hb2, hB2⟩
  have HX := Hd.mk (HV1.out.below hB2)
  have HYY := Hd.mk hb2
  have hB := hB1.trans (hB2.mono hB1.size)
  obtain ⟨b9, off9, c9, rfl, hc9, _, hbw9, hcell9⟩ := hb2
  have k0 := hcell9 0 (by decide)
  rw [Nat.add_zero] at k0
  have k1 := hcell9 1 (by decide)
  have k2 := hcell9 2 (by decide)
  have k3 := hcell9 3 (by decide)
  have k4 := hcell9 4 (by decide)
  have k5 := hcell9 5 (by decide)
  obtain ⟨l0, u0⟩ := bi_le b 0
  obtain ⟨l1, u1⟩ := bi_le b 1
  obtain ⟨l2, u2⟩ := bi_le b 2
  obtain ⟨l3, u3⟩ := bi_le b 3
  obtain ⟨l4, u4⟩ := bi_le b 4
  obtain ⟨l5, u5⟩ := bi_le b 5
  clear hcell9 hB1 hB2 HV1
  obtain ⟨p0, hp0⟩ : ∃ p, bi b 0 = p := ⟨_, rfl⟩
  obtain ⟨p1, hp1⟩ : ∃ p, bi b 1 = p := ⟨_, rfl⟩
  obtain ⟨p2, hp2⟩ : ∃ p, bi b 2 = p := ⟨_, rfl⟩
  obtain ⟨p3, hp3⟩ : ∃ p, bi b 3 = p := ⟨_, rfl⟩
  obtain ⟨p4, hp4⟩ : ∃ p, bi b 4 = p := ⟨_, rfl⟩
  obtain ⟨p5, hp5⟩ : ∃ p, bi b 5 = p := ⟨_, rfl⟩
  have hlow := HLOW.out
  rw [hp0, hp1, hp2, hp3, hp4, hp5] at hlow
  rw [hp0] at k0 l0 u0
  rw [hp1] at k1 l1 u1
  rw [hp2] at k2 l2 u2
  rw [hp3] at k3 l3 u3
  rw [hp4] at k4 l4 u4
  rw [hp5] at k5 l5 u5
  obtain ⟨t1, t2, t3, t4, t5, s1, s2, s3, s4, s5⟩ := sums6 p0 p1 p2 p3 p4 p5 l0 u0 l1 u1 l2 u2 l3 u3 l4 u4 l5 u5
  rw [hlow] at s5
  clear HLOW hp0 hp1 hp2 hp3 hp4 hp5
  have HL := Hd.mk hlow
  clear hlow
  go_wp2_with fail
  go_quiet (fail)
  obtain ⟨wd, hwd⟩ : ∃ wd, wd = w2.drewN nq := ⟨_, rfl⟩
  have hBd : Below w2.heap.size w2 wd := by rw [hwd]; exact below_drewN (Below.refl _ _) nq
  rw [← hwd]
  have HXd := Hd.mk (HX.out.below hBd)
  have HYd := Hd.mk (HYY.out.below hBd)
  have hB' := hB.trans (hBd.mono hB.size)
  clear hwd k0 k1 k2 k3 k4 k5 t1 t2 t3 t4 t5 s1 s2 s3 s4 s5 hB hBd HX HYY
  go_wp2_with fail
  go_ret2
  exact ⟨by rw [appV_17, ← (max_ref a b).2 hs]; rfl, hB'⟩

theorem refApply_17 (a b : BitVec 64) (w : World) : Calls Try.prog 30 #[.int .u8 17, s a, s b] w fun e w' => e = .returned (.tuple #[s (appV 17 a b), .int .i64 0]) ∧ Below w.heap.size w w' := by
  cases hz : (b == 0#64)
  all_goals (cases hs : a.slt b)
  · exact refApplyf_17f a b hz hs w
  · exact refApplyt_17f a b hz hs w
  · exact refApplyf_17t a b hz hs w
  · exact refApplyt_17t a b hz hs w
end Go.Proofs.Ytbmommomhepfpaa
