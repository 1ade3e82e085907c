/- Walk of the reference's Inverse. -/
import Derived.Test.YtbmommomhepfpaaR14
import Derived.Test.YtbmommomhepfpaaP1
namespace Go.Proofs.Ytbmommomhepfpaa
open Go.RowKit
set_option linter.unusedVariables false

theorem set_bit (o : BitVec 64) (k j : Nat) (hk : k < 64) (ho : o.toNat < 2 ^ k) (hj : j < 64) : (if j = k then 1 else bi o j) = bi (o + 1#64 <<< k) j := by
  have h0 : o &&& (1#64 <<< k) = 0#64 := by
    apply BitVec.eq_of_getLsbD_eq
    intro i hi
    rw [BitVec.getLsbD_and]
    by_cases e : i = k
    · subst e
      have : o.getLsbD i = false := by rw [← BitVec.testBit_toNat]; exact Nat.testBit_lt_two_pow ho
      rw [this]; simp
    · have : (1#64 <<< k).getLsbD i = false := by
        rw [BitVec.getLsbD_shiftLeft]; simp; omega
      rw [this]; simp
  rw [BitVec.add_eq_or_of_and_eq_zero _ _ h0]
  unfold bi
  rw [BitVec.getLsbD_or, BitVec.getLsbD_shiftLeft]
  by_cases e : j = k
  · subst e; simp [hj]
  · have : ¬ (j - k = 0 ∧ k ≤ j) := by omega
    rw [if_neg e]
    by_cases h : j < k
    · simp [h]
    · have : j - k ≠ 0 := by omega
      simp [this]

theorem inv_end (a o now : BitVec 64) (h : IV a o now 64) (hok : invOk a = true) : o = invV a := by
  have h1 := inv_mul a hok
  have h2 : now = 1#64 := BitVec.eq_of_toNat_eq (by have := h.low; rw [Nat.mod_eq_of_lt now.isLt] at this; rw [this]; rfl)
  have h3 : a * o = 1#64 := by rw [← h.prod, h2]
  calc o = 1#64 * o := by rw [BitVec.one_mul]
    _ = (invV a * a) * o := by rw [BitVec.mul_comm (invV a), h1]
    _ = invV a * (a * o) := by rw [BitVec.mul_assoc]
    _ = invV a := by rw [h3, BitVec.mul_one]

/-- v lies in another block than g. -/
def Apt (g : Nat) (v : Value) : Prop := ∃ b off c, v = .slice (some ⟨b, off, none⟩) 64 c ∧ b ≠ g
theorem Fr.apt {base g : Nat} {v : Value} (h : Fr base v) (hg : g < base) : Apt g v := by
  obtain ⟨b, off, c, hv, hb⟩ := h; exact ⟨b, off, c, hv, by omega⟩
theorem Bs.apt {W : World} {g i : Nat} {v u : Value} {x : BitVec 64} (h : Bs W v x) (hf : Apt g v) : Bs (W.setCell ⟨g, i, none⟩ u) v x := by
  obtain ⟨b, off, c, rfl, h1, h2, hb, hc⟩ := h
  obtain ⟨b', off', c', hv, hbb⟩ := hf
  simp only [Value.slice.injEq, Option.some.injEq, Addr.mk.injEq] at hv
  obtain ⟨⟨rfl, rfl, -⟩, -, rfl⟩ := hv
  refine ⟨b, off, c, rfl, h1, h2, by simpa [World.setCell] using hb, fun j hj => ?_⟩
  rw [← hc j hj]
  exact World.cell?_of_block (w := W) (a := ⟨b, off + j, none⟩) (Below.heap_setCell _ _ _ _ (by show b ≠ g; exact hbb))
theorem sum0f (v1 v2 : Value) (x y : BitVec 64) (w : World) (hv1 : Bs w v1 x) (hv2 : Bs w v2 y) : Calls Try.prog 39 #[v1, v2, .int .i64 0] w fun e w' => ∃ v, e = .returned v ∧ Bs w' v (x + y) ∧ Below w.heap.size w w' ∧ Fr w.heap.size v := by
  have := sum_fr v1 v2 x y 0 (by decide) w hv1 hv2
  simpa using this
/-- What stands at a round's head: what is found lies in block g. -/
structure IW (w1 : World) (g : Nat) (a : BitVec 64) (k : Nat) (v : Value) (o now : BitVec 64) (W : World) : Prop where
  out : Mk W g (bi o)
  nw : Bs W v now
  apt : Apt g v
  iv : IV a o now k
  bel : Below w1.heap.size w1 W

set_option maxRecDepth 100000 in
set_option maxHeartbeats 4000000 in
theorem refInverse_odd (a : BitVec 64) (hok : invOk a = true) (hodd : bi a 0 = 1) (w : World) : Calls Try.prog 29 #[s a] w fun e w' => e = .returned (.tuple #[s (invV a), .bool true]) ∧ Below w.heap.size w w' := by
  have HOK := Hd.mk hok
  have HODD := Hd.mk hodd
  have hmk := mk64
  clear hok hodd
  go_enter Try.func29, Try.ntmps29
  go_wp2_with fail
  refine (bits_any a _).mono ?_
  rintro e w1 ⟨v1, rfl, hb1, hB1⟩
  have HV1 := Hd.mk hb1
  obtain ⟨b1, off1, c1, rfl, hc1, _, hbw1, hcell1⟩ := hb1
  have hc0 := hcell1 0 (by decide)
  rw [HODD.out, Nat.add_zero] at hc0
  clear hcell1
  have HBW := Hd.mk hB1
  have HB0 : Hd (Below w1.heap.size w1 ((w1.alloc (.cells z64 3)).alloc (.cells z64 3)).drew) := ⟨(((Below.refl _ _).alloc (Nat.le_refl _) _).alloc (by simp) _).drew⟩
  have HM0 : Hd (Mk ((w1.alloc (.cells z64 3)).alloc (.cells z64 3)).drew w1.heap.size (fun _ => 0)) := ⟨(Mk.made w1).below (((Below.refl _ _).alloc (Nat.le_refl _) _).drew) (by simp)⟩
  have HM1 : Hd (Mk ((w1.alloc (.cells z64 3)).alloc (.cells z64 3)).drew (w1.heap.size + 1) (fun _ => 0)) := ⟨by
    have := (Mk.made (w1.alloc (.cells z64 3))).below (Below.refl ((w1.alloc (.cells z64 3)).heap.size + 1) _).drew (by omega)
    simpa using this⟩
  clear hB1
  go_wp2_with fail
  go_region_with (fail)
  · go_wp2_with fail
    go_loopw [6, 7] (fun v i W => ∃ (k : Nat) (o now : BitVec 64), k ≤ 64 ∧ i = .int .i64 k ∧ IW w1 (w1.heap.size) a k v o now W) (fun _ i _ => 64 - (intOf i).toNat)
    case atStart => exact ⟨0, 0#64, 0#64, by omega, rfl, ⟨HM0.out.congr (fun j hj => by simp [bi]), bs_zero HM1.out, ⟨_, _, _, rfl, by omega⟩, IV.start a, HB0.out⟩⟩
    case round =>
      obtain ⟨k, o, now, hk, rfl, hI⟩ := hrel
      have HI := Hd.mk hI
      clear hI
      by_cases hlt : k < 64
      · obtain ⟨b3, off3, c3, rfl, _, _, _, hcell3⟩ := HI.out.nw
        have hck := hcell3 k hlt
        have hgk := HI.out.out.cell k hlt
        have hgf := HI.out.out.free k
        obtain ⟨n0, hn0⟩ : ∃ n, bi now k = n := ⟨_, rfl⟩
        rw [hn0] at hck
        clear hcell3
        have ha2 : a.toNat % 2 = 1 := by have h1 := bi_nat a 0; have h2 := HODD.out; rw [Nat.pow_zero, Nat.div_one] at h1; omega
        by_cases hk0 : k = 0
        · subst hk0
          rcases bi_01 now 0 with hb | hb
          all_goals (have hnn : n0 = _ := hn0.symm.trans hb; rw [hnn] at hck)
          · have HS := Hd.mk (HI.out.iv.other hlt ha2 (by rw [hb]; decide))
            clear hnn hn0 hb
            rw [Nat.add_zero] at hck
            rw [show ((0 : Nat) : Int) = 0 from rfl]
            have hst : Mk (wr.setCell ⟨w1.heap.size, 0, none⟩ (.int .i64 1)) (w1.heap.size) (bi (o + 1#64 <<< 0)) := (HI.out.out.set 0 hlt 1).congr (fun j hj => set_bit o 0 j hlt HI.out.iv.small hj)
            have HM := Hd.mk hst
            have HN := Hd.mk (HI.out.nw.apt (i := 0) (u := .int .i64 1) HI.out.apt)
            have hbs : Below w1.heap.size w1 (wr.setCell ⟨w1.heap.size, 0, none⟩ (.int .i64 1)) := HI.out.bel.setCell (by simp) _
            have HBs := Hd.mk hbs
            clear hst hbs
            go_wp2_with fail
            refine (up_any _ a 0 (by omega) _ (HV1.out.below HBs.out)).mono ?_
            rintro e w2 ⟨v2, rfl, hb2, hB2⟩
            have HV2 := Hd.mk hb2
            have HM2 := Hd.mk (HM.out.below hB2 HM.out.lt)
            have HN2 := Hd.mk (HN.out.below hB2)
            have HB2 := Hd.mk (HBs.out.trans (hB2.mono HBs.out.size))
            clear hb2 hB2
            go_wp2_with fail
            refine (sum0f _ _ now (a <<< 0) _ HN2.out HV2.out).mono ?_
            rintro e w4 ⟨v4, rfl, hb4, hB4, hF4⟩
            have HI4 : Hd (IW w1 (w1.heap.size) a (0 + 1) v4 (o + 1#64 <<< 0) (now + a <<< 0) w4) := ⟨⟨HM2.out.below hB4 HM2.out.lt, hb4, hF4.apt HM2.out.lt, HS.out, HB2.out.trans (hB4.mono HB2.out.size)⟩⟩
            clear hb4 hB4 hF4
            go_wp2_with fail
            go_roundw
            case rel => exact ⟨0 + 1, _, _, by omega, by go_num, HI4.out⟩
            case measure => simp [intOf] <;> omega
          · have HS := Hd.mk (HI.out.iv.same (by rw [hb]; rfl))
            clear hnn hn0 hb
            rw [Nat.add_zero] at hck
            rw [show ((0 : Nat) : Int) = 0 from rfl]
            go_wp2_with fail
            go_roundw
            case rel => exact ⟨0 + 1, o, now, by omega, by go_num, ⟨HI.out.out, HI.out.nw, HI.out.apt, HS.out, HI.out.bel⟩⟩
            case measure => simp [intOf] <;> omega
        · have hki : ((k : Int) == 0) = false := beq_eq_false_iff_ne.2 (by omega)
          rcases bi_01 now k with hb | hb
          all_goals (have hnn : n0 = _ := hn0.symm.trans hb; rw [hnn] at hck)
          · have HS := Hd.mk (HI.out.iv.same (by rw [hb, if_neg hk0]))
            clear hnn hn0 hb hk0
            go_wp2_with fail
            go_roundw
            case rel => exact ⟨k + 1, o, now, by omega, by go_num, ⟨HI.out.out, HI.out.nw, HI.out.apt, HS.out, HI.out.bel⟩⟩
            case measure => simp [intOf] <;> omega
          · have HS := Hd.mk (HI.out.iv.other hlt ha2 (by rw [hb, if_neg hk0]; decide))
            clear hnn hn0 hb hk0
            have hst : Mk (wr.setCell ⟨w1.heap.size, k, none⟩ (.int .i64 1)) (w1.heap.size) (bi (o + 1#64 <<< k)) := (HI.out.out.set k hlt 1).congr (fun j hj => set_bit o k j hlt HI.out.iv.small hj)
            have HM := Hd.mk hst
            have HN := Hd.mk (HI.out.nw.apt (i := k) (u := .int .i64 1) HI.out.apt)
            have hbs : Below w1.heap.size w1 (wr.setCell ⟨w1.heap.size, k, none⟩ (.int .i64 1)) := HI.out.bel.setCell (by simp) _
            have HBs := Hd.mk hbs
            clear hst hbs
            go_wp2_with fail
            refine (up_any _ a k (by omega) _ (HV1.out.below HBs.out)).mono ?_
            rintro e w2 ⟨v2, rfl, hb2, hB2⟩
            have HV2 := Hd.mk hb2
            have HM2 := Hd.mk (HM.out.below hB2 HM.out.lt)
            have HN2 := Hd.mk (HN.out.below hB2)
            have HB2 := Hd.mk (HBs.out.trans (hB2.mono HBs.out.size))
            clear hb2 hB2
            go_wp2_with fail
            refine (sum0f _ _ now (a <<< k) _ HN2.out HV2.out).mono ?_
            rintro e w4 ⟨v4, rfl, hb4, hB4, hF4⟩
            have HI4 : Hd (IW w1 (w1.heap.size) a (k + 1) v4 (o + 1#64 <<< k) (now + a <<< k) w4) := ⟨⟨HM2.out.below hB4 HM2.out.lt, hb4, hF4.apt HM2.out.lt, HS.out, HB2.out.trans (hB4.mono HB2.out.size)⟩⟩
            clear hb4 hB4 hF4
            go_wp2_with fail
            go_roundw
            case rel => exact ⟨k + 1, _, _, by omega, by go_num, HI4.out⟩
            case measure => simp [intOf] <;> omega
      · obtain rfl : k = 64 := by omega
        have HE : Hd (o = invV a) := ⟨inv_end a o now HI.out.iv HOK.out⟩
        have HBo : Hd (Bs wr (.slice (some ⟨w1.heap.size, 0, none⟩) 64 64) o) := ⟨HI.out.out.bs (fun _ _ => rfl)⟩
        have hB5 := HBW.out.trans (HI.out.bel.mono HBW.out.size)
        go_wp2_with fail
        refine (word_any _ o _ HBo.out).mono ?_
        rintro e w9 ⟨rfl, rfl⟩
        go_wp2_with fail
        go_ret2
        exact ⟨by rw [HE.out]; rfl, hB5⟩
  · go_wp2_with fail
    go_loopw [6, 7] (fun v i W => ∃ (k : Nat) (o now : BitVec 64), k ≤ 64 ∧ i = .int .i64 k ∧ IW w1 (w1.heap.size + 1) a k v o now W) (fun _ i _ => 64 - (intOf i).toNat)
    case atStart => exact ⟨0, 0#64, 0#64, by omega, rfl, ⟨HM1.out.congr (fun j hj => by simp [bi]), bs_zero HM0.out, ⟨_, _, _, rfl, by omega⟩, IV.start a, HB0.out⟩⟩
    case round =>
      obtain ⟨k, o, now, hk, rfl, hI⟩ := hrel
      have HI := Hd.mk hI
      clear hI
      by_cases hlt : k < 64
      · obtain ⟨b3, off3, c3, rfl, _, _, _, hcell3⟩ := HI.out.nw
        have hck := hcell3 k hlt
        have hgk := HI.out.out.cell k hlt
        have hgf := HI.out.out.free k
        obtain ⟨n0, hn0⟩ : ∃ n, bi now k = n := ⟨_, rfl⟩
        rw [hn0] at hck
        clear hcell3
        have ha2 : a.toNat % 2 = 1 := by have h1 := bi_nat a 0; have h2 := HODD.out; rw [Nat.pow_zero, Nat.div_one] at h1; omega
        by_cases hk0 : k = 0
        · subst hk0
          rcases bi_01 now 0 with hb | hb
          all_goals (have hnn : n0 = _ := hn0.symm.trans hb; rw [hnn] at hck)
          · have HS := Hd.mk (HI.out.iv.other hlt ha2 (by rw [hb]; decide))
            clear hnn hn0 hb
            rw [Nat.add_zero] at hck
            rw [show ((0 : Nat) : Int) = 0 from rfl]
            have hst : Mk (wr.setCell ⟨w1.heap.size + 1, 0, none⟩ (.int .i64 1)) (w1.heap.size + 1) (bi (o + 1#64 <<< 0)) := (HI.out.out.set 0 hlt 1).congr (fun j hj => set_bit o 0 j hlt HI.out.iv.small hj)
            have HM := Hd.mk hst
            have HN := Hd.mk (HI.out.nw.apt (i := 0) (u := .int .i64 1) HI.out.apt)
            have hbs : Below w1.heap.size w1 (wr.setCell ⟨w1.heap.size + 1, 0, none⟩ (.int .i64 1)) := HI.out.bel.setCell (by simp) _
            have HBs := Hd.mk hbs
            clear hst hbs
            go_wp2_with fail
            refine (up_any _ a 0 (by omega) _ (HV1.out.below HBs.out)).mono ?_
            rintro e w2 ⟨v2, rfl, hb2, hB2⟩
            have HV2 := Hd.mk hb2
            have HM2 := Hd.mk (HM.out.below hB2 HM.out.lt)
            have HN2 := Hd.mk (HN.out.below hB2)
            have HB2 := Hd.mk (HBs.out.trans (hB2.mono HBs.out.size))
            clear hb2 hB2
            go_wp2_with fail
            refine (sum0f _ _ now (a <<< 0) _ HN2.out HV2.out).mono ?_
            rintro e w4 ⟨v4, rfl, hb4, hB4, hF4⟩
            have HI4 : Hd (IW w1 (w1.heap.size + 1) a (0 + 1) v4 (o + 1#64 <<< 0) (now + a <<< 0) w4) := ⟨⟨HM2.out.below hB4 HM2.out.lt, hb4, hF4.apt HM2.out.lt, HS.out, HB2.out.trans (hB4.mono HB2.out.size)⟩⟩
            clear hb4 hB4 hF4
            go_wp2_with fail
            go_roundw
            case rel => exact ⟨0 + 1, _, _, by omega, by go_num, HI4.out⟩
            case measure => simp [intOf] <;> omega
          · have HS := Hd.mk (HI.out.iv.same (by rw [hb]; rfl))
            clear hnn hn0 hb
            rw [Nat.add_zero] at hck
            rw [show ((0 : Nat) : Int) = 0 from rfl]
            go_wp2_with fail
            go_roundw
            case rel => exact ⟨0 + 1, o, now, by omega, by go_num, ⟨HI.out.out, HI.out.nw, HI.out.apt, HS.out, HI.out.bel⟩⟩
            case measure => simp [intOf] <;> omega
        · have hki : ((k : Int) == 0) = false := beq_eq_false_iff_ne.2 (by omega)
          rcases bi_01 now k with hb | hb
          all_goals (have hnn : n0 = _ := hn0.symm.trans hb; rw [hnn] at hck)
          · have HS := Hd.mk (HI.out.iv.same (by rw [hb, if_neg hk0]))
            clear hnn hn0 hb hk0
            go_wp2_with fail
            go_roundw
            case rel => exact ⟨k + 1, o, now, by omega, by go_num, ⟨HI.out.out, HI.out.nw, HI.out.apt, HS.out, HI.out.bel⟩⟩
            case measure => simp [intOf] <;> omega
          · have HS := Hd.mk (HI.out.iv.other hlt ha2 (by rw [hb, if_neg hk0]; decide))
            clear hnn hn0 hb hk0
            have hst : Mk (wr.setCell ⟨w1.heap.size + 1, k, none⟩ (.int .i64 1)) (w1.heap.size + 1) (bi (o + 1#64 <<< k)) := (HI.out.out.set k hlt 1).congr (fun j hj => set_bit o k j hlt HI.out.iv.small hj)
            have HM := Hd.mk hst
            have HN := Hd.mk (HI.out.nw.apt (i := k) (u := .int .i64 1) HI.out.apt)
            have hbs : Below w1.heap.size w1 (wr.setCell ⟨w1.heap.size + 1, k, none⟩ (.int .i64 1)) := HI.out.bel.setCell (by simp) _
            have HBs := Hd.mk hbs
            clear hst hbs
            go_wp2_with fail
            refine (up_any _ a k (by omega) _ (HV1.out.below HBs.out)).mono ?_
            rintro e w2 ⟨v2, rfl, hb2, hB2⟩
            have HV2 := Hd.mk hb2
            have HM2 := Hd.mk (HM.out.below hB2 HM.out.lt)
            have HN2 := Hd.mk (HN.out.below hB2)
            have HB2 := Hd.mk (HBs.out.trans (hB2.mono HBs.out.size))
            clear hb2 hB2
            go_wp2_with fail
            refine (sum0f _ _ now (a <<< k) _ HN2.out HV2.out).mono ?_
            rintro e w4 ⟨v4, rfl, hb4, hB4, hF4⟩
            have HI4 : Hd (IW w1 (w1.heap.size + 1) a (k + 1) v4 (o + 1#64 <<< k) (now + a <<< k) w4) := ⟨⟨HM2.out.below hB4 HM2.out.lt, hb4, hF4.apt HM2.out.lt, HS.out, HB2.out.trans (hB4.mono HB2.out.size)⟩⟩
            clear hb4 hB4 hF4
            go_wp2_with fail
            go_roundw
            case rel => exact ⟨k + 1, _, _, by omega, by go_num, HI4.out⟩
            case measure => simp [intOf] <;> omega
      · obtain rfl : k = 64 := by omega
        have HE : Hd (o = invV a) := ⟨inv_end a o now HI.out.iv HOK.out⟩
        have HBo : Hd (Bs wr (.slice (some ⟨w1.heap.size + 1, 0, none⟩) 64 64) o) := ⟨HI.out.out.bs (fun _ _ => rfl)⟩
        have hB5 := HBW.out.trans (HI.out.bel.mono HBW.out.size)
        go_wp2_with fail
        refine (word_any _ o _ HBo.out).mono ?_
        rintro e w9 ⟨rfl, rfl⟩
        go_wp2_with fail
        go_ret2
        exact ⟨by rw [HE.out]; rfl, hB5⟩
end Go.Proofs.Ytbmommomhepfpaa
