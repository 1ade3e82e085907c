/- The law CapsWrong. -/
import Derived.Test.YtinagiofolmhbaaC4
import Derived.Test.YtinagiofolmhbaaC3
import Derived.Test.YtinagiofolmhbaaC5
namespace Go.Proofs.Ytinagiofolmhbaa
open Go.RowKit
set_option linter.unusedVariables false
set_option linter.unusedSimpArgs false


theorem get_no {st : St} {s : Int} (h : ∀ x ∈ liveS st, x.ser ≠ s) : getE st s = 6 ∧ getV st s = hn0 ∧ belowS st s = [] ∧ revokeS st s = st := by
  have h1 : getL (liveS st) s = none := getL_none.2 h
  have h2 : getE st s = 6 := by unfold getE; rw [h1]; rfl
  have h3 : belowS st s = [] := by unfold belowS; rw [h2]; rfl
  exact ⟨h2, by unfold getV; rw [h1]; rfl, h3, by unfold revokeS; rw [h3]; exact take_nil _⟩
theorem der_err {st : St} {s tw : Int} {r : BitVec 8} {e : Int} (h : derW st s tw r = e) (he : ¬ e = 0) : derN st s tw r = 0 ∧ derE st s tw r = e ∧ derS st s tw r = st := by
  unfold derN derE derS
  rw [h]
  exact ⟨if_neg he, if_neg he, if_neg he⟩
theorem root_err {st : St} {p tw : Int} {r : BitVec 8} {e : Int} (h : rootW p tw r = e) (he : ¬ e = 0) : rootN st p tw r = 0 ∧ rootE st p tw r = e ∧ rootS st p tw r = st := by
  unfold rootN rootE rootS
  rw [h]
  exact ⟨if_neg he, if_neg he, if_neg he⟩
theorem der_no {st : St} {s tw : Int} {r : BitVec 8} (h : getE st s = 6) : derW st s tw r = 6 := by
  unfold derW; rw [h]; rfl
theorem der_who {st : St} {s tw : Int} {r : BitVec 8} (h : getE st s = 0) (hw : badH tw = true) : derW st s tw r = 2 := by
  unfold derW; rw [h, hw]; rfl
theorem der_mask {st : St} {s : Int} {r : BitVec 8} (h : getE st s = 0) (hw : badM r = true) : derW st s 0 r = 220 := by
  unfold derW handE; rw [h, hw]; simp [badH]
theorem root_who {p tw : Int} {r : BitVec 8} (h : p < 0 ∨ 4294967295 < p ∨ badH tw = true) : rootW p tw r = 2 := by
  unfold rootW; rw [if_pos h]
theorem root_badm {r : BitVec 8} (hw : badM r = true) : rootW 0 0 r = 220 := by
  unfold rootW; rw [hw]; simp [badH]
theorem bad_who {st : St} (hok : Ok st) {who i : Int} (h : badH who = true) : placesS st who = [] ∧ plcE st who i = 2 ∧ plcV st who i = hn0 := by
  have h2 : plcE st who i = 2 := by unfold plcE; rw [h]; rfl
  refine ⟨?_, h2, by unfold plcV; rw [h2]; rfl⟩
  unfold placesS ownH
  rw [List.map_eq_nil_iff, List.filter_eq_nil_iff]
  intro x hx e
  have := hok.hols x hx
  unfold badH at h
  simp at h e
  omega
theorem der_more {st : St} {h : Hn} (hok : Ok st) (hm : h ∈ liveS st) (hr : ¬ 15#8 &&& ~~~h.rts = 0#8) : derW st h.ser 0 (h.rts ||| (15#8 &&& ~~~h.rts)) = 221 := by
  obtain ⟨h1, h2⟩ := getE_live hok hm
  have hb := hok.rtss _ (live_mem.1 hm)
  simp only at hb
  unfold derW
  rw [h1, h2]
  have key : ∀ r : BitVec 8, r.toNat ≤ 15 → ¬ 15#8 &&& ~~~r = 0#8 → handE r (r ||| (15#8 &&& ~~~r)) = 221 := by
    unfold handE badM
    decide
  rw [key _ hb hr]
  simp [badH]
theorem max8 (m : BitVec 8) : ∃ b : BitVec 8, badM b = true ∧ ∀ (W : World) (ts : Array TypeId) (t : TypeId), (Builtin.max_ ts t #[h8 m, .int .u8 16]).run Try.prog W = .ok (h8 b) W := by
  by_cases h : 16 ≤ m.toNat
  · refine ⟨m, by unfold badM; simp; omega, fun W ts t => ?_⟩
    unfold h8
    rw [run_max_int2, if_neg (by omega)]
  · refine ⟨16#8, by decide, fun W ts t => ?_⟩
    unfold h8
    rw [run_max_int2, if_pos (by omega)]; rfl
set_option maxRecDepth 100000 in
set_option maxHeartbeats 3000000 in
theorem wrong_law {v : Value} {ls : List Sm} {w : World} (hl : SrcN sL w v ls) (pn : BitVec 8) (zn : Int) (m : BitVec 8) (hzn : -9223372036854775808 ≤ zn ∧ zn ≤ 9223372036854775807) : Calls Try.prog 5 #[v, h8 pn, .int .i64 zn, h8 m] w fun e w' => e = .returned (.bool true) ∧ Below w.heap.size w w' := by
  have HZN := Hd.mk hzn
  clear hzn
  have FL := Hd.mk hl
  clear hl
  go_enter Try.func5, Try.ntmps5
  go_wp2_with fail
  refine (awake_any _).mono ?_
  rintro e w1 ⟨rfl, hB0⟩
  have HB0 := Hd.mk hB0
  clear hB0
  go_wp2_with fail
  refine (made_any (FL.out.below HB0.out)).mono ?_
  rintro e w2 ⟨M, rfl, hm, hB1⟩
  have HM0 := Hd.mk hm
  have FB0 := Hd.mk (Held.below (HB0.out.trans (hB1.mono HB0.out.size)) (pr := fun k => k < w1.heap.size) (fun k hk => Nat.lt_of_lt_of_le hk HB0.out.size))
  have HSH := Hd.mk (made_sh ls)
  have HFA := Hd.mk (made_fam ls)
  clear hm hB1 HB0 FL
  generalize madeS ls = st at *
  go_wp2_with fail
  refine (y_all HM0.out rfl).mono ?_
  rintro e w3 ⟨a3, c3, p3, rfl, hm, hf, hs⟩
  have FNh3 := Hd.mk hf
  clear hf
  have FB_4 := Hd.mk (FB0.out.step hs)
  have HM4 := Hd.mk hm
  clear FB0 HM0
  clear hs hm
  obtain ⟨n, hn⟩ : ∃ n, (liveS st).length = n := ⟨_, rfl⟩
  have HN := Hd.mk hn
  rw [hn]
  have hn256 : n ≤ 256 := by rw [← hn]; exact HSH.out.ok.live
  clear hn
  obtain ⟨nx, hnx⟩ : ∃ n, st.next = n := ⟨_, rfl⟩
  have HNX := Hd.mk hnx
  have hnxb : 100 ≤ nx ∧ nx ≤ 281474976710657 := ⟨by rw [← hnx]; exact HSH.out.n100, by rw [← hnx]; exact HSH.out.ok.n2⟩
  have HNB := Hd.mk hnxb
  clear hnx hnxb
  go_wp2_with fail
  refine (y_next HM4.out HNX.out).mono ?_
  rintro e w5 ⟨rfl, rfl⟩
  obtain ⟨bd, hbd, hmx⟩ := max8 m
  have HBD := Hd.mk hbd
  clear hbd
  go_upto_region 8 with fail
  clear hmx
  go_upto_region 9 with fail
  obtain ⟨ka, hka⟩ : ∃ a, min zn 99 = a := ⟨_, rfl⟩
  obtain ⟨kb, hkb⟩ : ∃ a, max zn nx = a := ⟨_, rfl⟩
  rw [hka, hkb]
  have HL1 : Hd (∀ x ∈ [ka, kb], getE st x = 6 ∧ getV st x = hn0 ∧ belowS st x = [] ∧ revokeS st x = st ∧ (-9223372036854775808 ≤ x ∧ x ≤ 9223372036854775807)) := ⟨by
    intro x hx
    have hz := HZN.out
    have hb := HNB.out
    have h1 : ∀ h ∈ liveS st, h.ser ≠ x := by
      intro h hh e
      have a1 := HFA.out.lo _ (live_mem.1 hh)
      have a2 := HSH.out.ok.lo _ (live_mem.1 hh)
      rw [HNX.out] at a2
      simp only at a1 a2
      simp only [List.mem_cons, List.not_mem_nil, or_false] at hx
      omega
    obtain ⟨g1, g2, g3, g4⟩ := get_no h1
    refine ⟨g1, g2, g3, g4, ?_⟩
    simp only [List.mem_cons, List.not_mem_nil, or_false] at hx
    omega⟩
  clear hka hkb
  obtain ⟨A6, hW⟩ : ∃ W, (w3.alloc (.cells #[.int .i64 ka, .int .i64 kb] 3)) = W := ⟨_, rfl⟩
  obtain ⟨p6, hm, hf, hs⟩ := lit_box HM4.out (.cells #[.int .i64 ka, .int .i64 kb] 3)
  rw [hW] at hm hf hs
  rw [hW]
  clear hW
  have FNL16 := Hd.mk (hf.imp fun W hW => srcI_box hW [ka, kb] rfl (by simp))
  clear hf
  have FB_7 := Hd.mk (FB_4.out.step hs)
  have Fh_7 := Hd.mk (FNh3.out.step hs)
  have HM7 := Hd.mk hm
  clear FB_4 FNh3 HM4
  clear hs hm
  have HQ0 : Hd (Kept p6 A6 A6) := ⟨Kept.refl _ _⟩
  go_loopw [70] (fun i W => ∃ k : Nat, k ≤ 2 ∧ i = .int .i64 k ∧ Hd (TabAt W p6 M st) ∧ Hd (Kept p6 A6 W)) (fun i _ => 2 - (intOf i).toNat)
  case atStart => exact ⟨0, by omega, rfl, HM7, HQ0⟩
  case round =>
    obtain ⟨k, hk, rfl, HR, HQ⟩ := hrel
    by_cases hlt : k < 2
    · have hs := Step.of HQ.out
      have FB_28 := Hd.mk (FB_7.out.step hs)
      have Fh_28 := Hd.mk (Fh_7.out.step hs)
      have FL1_28 := Hd.mk (FNL16.out.step hs)
      clear FB_7 Fh_7 FNL16
      clear hs
      have HP0_28 : Hd (∀ k, p6 k → p6 k) := ⟨fun k hk => hk⟩
      obtain ⟨b, off, hbe, _, hc⟩ := (FL1_28.out.now).at k (show k < [ka, kb].length from hlt)
      cases hbe
      have hmem := List.getElem_mem (show k < [ka, kb].length from hlt)
      obtain ⟨x, hx⟩ : ∃ x, [ka, kb][k] = x := ⟨_, rfl⟩
      rw [hx] at hc hmem
      have HX := Hd.mk (HL1.out x hmem)
      simp only [Nat.zero_add] at hc
      have v0 := hc
      have k0 : (0 : Int) ≤ (k : Int) := by omega
      have k1 : (k : Int) < 2 := by omega
      have HWK : Hd (IntKind.i64.wrap ((k : Int) + 1) = (k : Int) + 1) := ⟨IntWalk.i64_in _ ⟨by omega, by omega⟩⟩
      have HLT := Hd.mk hlt
      clear hc hx hmem hlt hk
      have FK_s : Hd (Held p6 wr (fun W => Kept p6 A6 W)) := ⟨fun W hW => HQ.out.trans hW⟩
      obtain ⟨hx1, hx2, hx3, hx4, hx5⟩ := HX.out
      have HX1 := Hd.mk (der_err (tw := -1) (r := bd) (der_no hx1) (by decide))
      have HX2 := Hd.mk hx2
      have HX3 := Hd.mk hx3
      have HX4 := Hd.mk hx4
      have HX5 := Hd.mk hx5
      have HX6 := Hd.mk hx1
      clear hx1 hx2 hx3 hx4 hx5 HX
      go_wp2_with fail
      refine (y_der HR.out (s := x) (tw := -1) (r := bd) (n := 0) (e := 6) (st' := st) HX5.out HX1.out.1 HX1.out.2.1 HX1.out.2.2).mono ?_
      rintro e w29 ⟨rfl, hm, hs⟩
      have HP30 : Hd (∀ k, p6 k → p6 k) := ⟨fun k hk => hs.more k (HP0_28.out k hk)⟩
      clear HP0_28
      have FB_30 := Hd.mk (FB_28.out.step hs)
      have Fh_30 := Hd.mk (Fh_28.out.step hs)
      have FL1_30 := Hd.mk (FL1_28.out.step hs)
      have FK_30 := Hd.mk (FK_s.out.step hs)
      have HM30 := Hd.mk hm
      clear FB_28 Fh_28 FL1_28 FK_s HR
      clear hs hm
      clear v0
      go_wp2_with fail
      refine (y_revoke HM30.out (s := x) (l := []) (e := 6) (st' := st) HX5.out HX3.out HX6.out HX4.out).mono ?_
      rintro e w31 ⟨a31, c31, p31, rfl, hm, hf, hs⟩
      have FNu31 := Hd.mk hf
      clear hf
      have HP32 : Hd (∀ k, p6 k → p31 k) := ⟨fun k hk => hs.more k (HP30.out k hk)⟩
      clear HP30
      have FB_32 := Hd.mk (FB_30.out.step hs)
      have Fh_32 := Hd.mk (Fh_30.out.step hs)
      have FL1_32 := Hd.mk (FL1_30.out.step hs)
      have FK_32 := Hd.mk (FK_30.out.step hs)
      have HM32 := Hd.mk hm
      clear FB_30 Fh_30 FL1_30 FK_30 HM30
      clear hs hm
      clear FNu31
      go_wp2_with fail
      refine (y_get HM32.out (s := x) (a := 0) (b := 0) (c := 0) (d := 0) (r := 0#8) (e := 6) HX5.out HX2.out HX6.out).mono ?_
      rintro e w33 ⟨rfl, hB⟩
      obtain ⟨hm, hs⟩ := HM32.out.below hB
      clear hB
      have HP34 : Hd (∀ k, p6 k → p31 k) := ⟨fun k hk => hs.more k (HP32.out k hk)⟩
      clear HP32
      have FB_34 := Hd.mk (FB_32.out.step hs)
      have Fh_34 := Hd.mk (Fh_32.out.step hs)
      have FL1_34 := Hd.mk (FL1_32.out.step hs)
      have FK_34 := Hd.mk (FK_32.out.step hs)
      have HM34 := Hd.mk hm
      clear FB_32 Fh_32 FL1_32 FK_32 HM32
      clear hs hm
      go_upto_region 14 with fail
      obtain ⟨A35, hW⟩ : ∃ W, (w33.alloc (.cells #[.int .i64 0, .int .i64 0, .int .i64 0, .int .i64 0, h8 0#8] 34)) = W := ⟨_, rfl⟩
      obtain ⟨p35, hm, hf, hs⟩ := lit_box HM34.out (.cells #[.int .i64 0, .int .i64 0, .int .i64 0, .int .i64 0, h8 0#8] 34)
      rw [hW] at hm hf hs
      rw [hW]
      clear hW
      have FNz35 := Hd.mk hf
      clear hf
      have HP36 : Hd (∀ k, p6 k → p35 k) := ⟨fun k hk => hs.more k (HP34.out k hk)⟩
      clear HP34
      have FB_36 := Hd.mk (FB_34.out.step hs)
      have Fh_36 := Hd.mk (Fh_34.out.step hs)
      have FL1_36 := Hd.mk (FL1_34.out.step hs)
      have FK_36 := Hd.mk (FK_34.out.step hs)
      have HM36 := Hd.mk hm
      clear FB_34 Fh_34 FL1_34 FK_34 HM34
      clear hs hm
      clear FNz35
      go_wp2_with fail
      refine (y_below HM36.out (s := x) (l := []) (e := 6) HX5.out HX3.out HX6.out).mono ?_
      rintro e w37 ⟨a37, c37, p37, rfl, hm, hf, hs⟩
      have FNw37 := Hd.mk hf
      clear hf
      have HP38 : Hd (∀ k, p6 k → p37 k) := ⟨fun k hk => hs.more k (HP36.out k hk)⟩
      clear HP36
      have FB_38 := Hd.mk (FB_36.out.step hs)
      have Fh_38 := Hd.mk (Fh_36.out.step hs)
      have FL1_38 := Hd.mk (FL1_36.out.step hs)
      have FK_38 := Hd.mk (FK_36.out.step hs)
      have HM38 := Hd.mk hm
      clear FB_36 Fh_36 FL1_36 FK_36 HM36
      clear hs hm
      clear FNw37
      have hwk := HWK.out
      go_wp2_with fail
      go_roundw
      case rel => exact ⟨k + 1, by have := HLT.out; omega, by go_num, ⟨HM38.out.less HP38.out⟩, ⟨FK_38.out.now⟩⟩
      case measure => have := HLT.out; simp [intOf]; omega
    · have hs := Step.of HQ.out
      have FB_59 := Hd.mk (FB_7.out.step hs)
      have Fh_59 := Hd.mk (Fh_7.out.step hs)
      have FL1_59 := Hd.mk (FNL16.out.step hs)
      clear FB_7 Fh_7 FNL16
      clear hs
      have HP0_59 : Hd (∀ k, p6 k → p6 k) := ⟨fun k hk => hk⟩
      obtain rfl : k = 2 := by omega
      rw [show ((2 : Nat) : Int) = 2 from rfl]
      clear hlt hk
      clear FL1_59
      go_upto_region 19 with fail
      obtain ⟨kc, hkc⟩ : ∃ a, min zn (-1) = a := ⟨_, rfl⟩
      obtain ⟨kd, hkd⟩ : ∃ a, max zn 17 = a := ⟨_, rfl⟩
      rw [hkc, hkd]
      have HL2 : Hd (∀ x ∈ [kc, kd], badH x = true) := ⟨by
        intro x hx
        unfold badH
        simp only [List.mem_cons, List.not_mem_nil, or_false] at hx
        simp only [decide_eq_true_eq]
        omega⟩
      clear hkc hkd
      obtain ⟨A60, hW⟩ : ∃ W, (wr.alloc (.cells #[.int .i64 kc, .int .i64 kd] 3)) = W := ⟨_, rfl⟩
      obtain ⟨p60, hm, hf, hs⟩ := lit_box HR.out (.cells #[.int .i64 kc, .int .i64 kd] 3)
      rw [hW] at hm hf hs
      rw [hW]
      clear hW
      have FNL260 := Hd.mk (hf.imp fun W hW => srcI_box hW [kc, kd] rfl (by simp))
      clear hf
      have FB_61 := Hd.mk (FB_59.out.step hs)
      have Fh_61 := Hd.mk (Fh_59.out.step hs)
      have HM61 := Hd.mk hm
      clear FB_59 Fh_59 HR
      clear hs hm
      have HQ0 : Hd (Kept p60 A60 A60) := ⟨Kept.refl _ _⟩
      go_loopw [120] (fun i W => ∃ k : Nat, k ≤ 2 ∧ i = .int .i64 k ∧ Hd (TabAt W p60 M st) ∧ Hd (Kept p60 A60 W)) (fun i _ => 2 - (intOf i).toNat)
      case atStart => exact ⟨0, by omega, rfl, HM61, HQ0⟩
      case round =>
        obtain ⟨k, hk, rfl, HR, HQ⟩ := hrel
        by_cases hlt : k < 2
        · have hs := Step.of HQ.out
          have FB_82 := Hd.mk (FB_61.out.step hs)
          have Fh_82 := Hd.mk (Fh_61.out.step hs)
          have FL2_82 := Hd.mk (FNL260.out.step hs)
          clear FB_61 Fh_61 FNL260
          clear hs
          have HP0_82 : Hd (∀ k, p60 k → p60 k) := ⟨fun k hk => hk⟩
          obtain ⟨b, off, hbe, _, hc⟩ := (FL2_82.out.now).at k (show k < [kc, kd].length from hlt)
          cases hbe
          have hmem := List.getElem_mem (show k < [kc, kd].length from hlt)
          obtain ⟨x, hx⟩ : ∃ x, [kc, kd][k] = x := ⟨_, rfl⟩
          rw [hx] at hc hmem
          have HX := Hd.mk (HL2.out x hmem)
          simp only [Nat.zero_add] at hc
          have v0 := hc
          have k0 : (0 : Int) ≤ (k : Int) := by omega
          have k1 : (k : Int) < 2 := by omega
          have HWK : Hd (IntKind.i64.wrap ((k : Int) + 1) = (k : Int) + 1) := ⟨IntWalk.i64_in _ ⟨by omega, by omega⟩⟩
          have HLT := Hd.mk hlt
          clear hc hx hmem hlt hk
          have FK_s : Hd (Held p60 wr (fun W => Kept p60 A60 W)) := ⟨fun W hW => HQ.out.trans hW⟩
          have HX1 := Hd.mk (root_err (st := st) (p := 0) (tw := x) (r := bd) (root_who (.inr (.inr HX.out))) (by decide))
          have HX2 := Hd.mk (bad_who HSH.out.ok (i := 0) HX.out)
          go_wp2_with fail
          refine (y_root HR.out (port := 0) (tw := x) (r := bd) (n := 0) (e := 2) (st' := st) HX1.out.1 HX1.out.2.1 HX1.out.2.2).mono ?_
          rintro e w83 ⟨rfl, hm, hs⟩
          have HP84 : Hd (∀ k, p60 k → p60 k) := ⟨fun k hk => hs.more k (HP0_82.out k hk)⟩
          clear HP0_82
          have FB_84 := Hd.mk (FB_82.out.step hs)
          have Fh_84 := Hd.mk (Fh_82.out.step hs)
          have FL2_84 := Hd.mk (FL2_82.out.step hs)
          have FK_84 := Hd.mk (FK_s.out.step hs)
          have HM84 := Hd.mk hm
          clear FB_82 Fh_82 FL2_82 FK_s HR
          clear hs hm
          clear v0
          go_wp2_with fail
          refine (y_place HM84.out (who := x) (i := 0) (a := 0) (b := 0) (c := 0) (d := 0) (r := 0#8) (e := 2) HX2.out.2.2 HX2.out.2.1).mono ?_
          rintro e w85 ⟨rfl, hB⟩
          obtain ⟨hm, hs⟩ := HM84.out.below hB
          clear hB
          have HP86 : Hd (∀ k, p60 k → p60 k) := ⟨fun k hk => hs.more k (HP84.out k hk)⟩
          clear HP84
          have FB_86 := Hd.mk (FB_84.out.step hs)
          have Fh_86 := Hd.mk (Fh_84.out.step hs)
          have FL2_86 := Hd.mk (FL2_84.out.step hs)
          have FK_86 := Hd.mk (FK_84.out.step hs)
          have HM86 := Hd.mk hm
          clear FB_84 Fh_84 FL2_84 FK_84 HM84
          clear hs hm
          go_upto_region 23 with fail
          obtain ⟨A87, hW⟩ : ∃ W, (w85.alloc (.cells #[.int .i64 0, .int .i64 0, .int .i64 0, .int .i64 0, h8 0#8] 34)) = W := ⟨_, rfl⟩
          obtain ⟨p87, hm, hf, hs⟩ := lit_box HM86.out (.cells #[.int .i64 0, .int .i64 0, .int .i64 0, .int .i64 0, h8 0#8] 34)
          rw [hW] at hm hf hs
          rw [hW]
          clear hW
          have FNz87 := Hd.mk hf
          clear hf
          have HP88 : Hd (∀ k, p60 k → p87 k) := ⟨fun k hk => hs.more k (HP86.out k hk)⟩
          clear HP86
          have FB_88 := Hd.mk (FB_86.out.step hs)
          have Fh_88 := Hd.mk (Fh_86.out.step hs)
          have FL2_88 := Hd.mk (FL2_86.out.step hs)
          have FK_88 := Hd.mk (FK_86.out.step hs)
          have HM88 := Hd.mk hm
          clear FB_86 Fh_86 FL2_86 FK_86 HM86
          clear hs hm
          clear FNz87
          go_wp2_with fail
          refine (y_places HM88.out (who := x) (l := []) HX2.out.1).mono ?_
          rintro e w89 ⟨a89, c89, p89, rfl, hm, hf, hs⟩
          have FNu89 := Hd.mk hf
          clear hf
          have HP90 : Hd (∀ k, p60 k → p89 k) := ⟨fun k hk => hs.more k (HP88.out k hk)⟩
          clear HP88
          have FB_90 := Hd.mk (FB_88.out.step hs)
          have Fh_90 := Hd.mk (Fh_88.out.step hs)
          have FL2_90 := Hd.mk (FL2_88.out.step hs)
          have FK_90 := Hd.mk (FK_88.out.step hs)
          have HM90 := Hd.mk hm
          clear FB_88 Fh_88 FL2_88 FK_88 HM88
          clear hs hm
          clear FNu89
          rcases Nat.eq_zero_or_pos n with hz | hz
          · have hz2 : ¬ 0 < (n : Int) := by omega
            clear hz
            have hwk := HWK.out
            go_wp2_with fail
            go_roundw
            case rel => exact ⟨k + 1, by have := HLT.out; omega, by go_num, ⟨HM90.out.less HP90.out⟩, ⟨FK_90.out.now⟩⟩
            case measure => have := HLT.out; simp [intOf]; omega
          · have hz2 : 0 < (n : Int) := by omega
            have hjl : 0 < (liveS st).length := by rw [HN.out]; exact hz
            obtain ⟨b2, off2, rfl, _, hc2⟩ := (OwnN.src Fh_90.out.now).at 0 hjl
            have hmem := List.getElem_mem hjl
            obtain ⟨s, hs⟩ : ∃ s, (liveS st)[0].ser = s := ⟨_, rfl⟩
            have x0 : w89.cell? ⟨b2, off2, none⟩ = some (.int .i64 s) := by
              have := hc2 0 _ rfl
              simp only [Nat.zero_mul, Nat.add_zero] at this
              rw [← hs]; exact this
            have hE := (getE_live HSH.out.ok hmem).1
            have hsb := HSH.out.ok.lo _ (live_mem.1 hmem)
            simp only at hsb
            rw [hs] at hE hsb
            have HSR : Hd (-9223372036854775808 ≤ s ∧ s ≤ 9223372036854775807) := ⟨by have := HSH.out.ok.n2; omega⟩
            have HX3 := Hd.mk (der_err (r := bd) (der_who hE HX.out) (by decide))
            clear hz hjl hc2 hmem hs hE hsb
            go_upto_region 26 with fail
            clear hz2
            go_wp2_with fail
            refine (y_der HM90.out (s := s) (tw := x) (r := bd) (n := 0) (e := 2) (st' := st) HSR.out HX3.out.1 HX3.out.2.1 HX3.out.2.2).mono ?_
            rintro e w91 ⟨rfl, hm, hs⟩
            have HP92 : Hd (∀ k, p60 k → p89 k) := ⟨fun k hk => hs.more k (HP90.out k hk)⟩
            clear HP90
            have FB_92 := Hd.mk (FB_90.out.step hs)
            have Fh_92 := Hd.mk (Fh_90.out.step hs)
            have FL2_92 := Hd.mk (FL2_90.out.step hs)
            have FK_92 := Hd.mk (FK_90.out.step hs)
            have HM92 := Hd.mk hm
            clear FB_90 Fh_90 FL2_90 FK_90 HM90
            clear hs hm
            clear x0
            have hwk := HWK.out
            go_wp2_with fail
            go_roundw
            case rel => exact ⟨k + 1, by have := HLT.out; omega, by go_num, ⟨HM92.out.less HP92.out⟩, ⟨FK_92.out.now⟩⟩
            case measure => have := HLT.out; simp [intOf]; omega
        · have hs := Step.of HQ.out
          have FB_113 := Hd.mk (FB_61.out.step hs)
          have Fh_113 := Hd.mk (Fh_61.out.step hs)
          have FL2_113 := Hd.mk (FNL260.out.step hs)
          clear FB_61 Fh_61 FNL260
          clear hs
          have HP0_113 : Hd (∀ k, p60 k → p60 k) := ⟨fun k hk => hk⟩
          obtain rfl : k = 2 := by omega
          rw [show ((2 : Nat) : Int) = 2 from rfl]
          clear hlt hk
          clear FL2_113
          have HB1 := Hd.mk (root_err (st := st) (p := min zn (-1)) (tw := 0) (r := bd) (root_who (.inl (by omega))) (by decide))
          have HB2 := Hd.mk (root_err (st := st) (p := max zn 4294967296) (tw := 0) (r := bd) (root_who (.inr (.inl (by omega)))) (by decide))
          have HB3 := Hd.mk (root_err (st := st) (p := 0) (tw := 0) (r := bd) (root_badm HBD.out) (by decide))
          go_wp2_with fail
          refine (y_root HR.out (port := min zn (-1)) (tw := 0) (r := bd) (n := 0) (e := 2) (st' := st) HB1.out.1 HB1.out.2.1 HB1.out.2.2).mono ?_
          rintro e w114 ⟨rfl, hm, hs⟩
          have FB_115 := Hd.mk (FB_113.out.step hs)
          have Fh_115 := Hd.mk (Fh_113.out.step hs)
          have HM115 := Hd.mk hm
          clear FB_113 Fh_113 HR
          clear hs hm
          go_wp2_with fail
          refine (y_root HM115.out (port := max zn 4294967296) (tw := 0) (r := bd) (n := 0) (e := 2) (st' := st) HB2.out.1 HB2.out.2.1 HB2.out.2.2).mono ?_
          rintro e w116 ⟨rfl, hm, hs⟩
          have FB_117 := Hd.mk (FB_115.out.step hs)
          have Fh_117 := Hd.mk (Fh_115.out.step hs)
          have HM117 := Hd.mk hm
          clear FB_115 Fh_115 HM115
          clear hs hm
          go_wp2_with fail
          refine (y_root HM117.out (port := 0) (tw := 0) (r := bd) (n := 0) (e := 220) (st' := st) HB3.out.1 HB3.out.2.1 HB3.out.2.2).mono ?_
          rintro e w118 ⟨rfl, hm, hs⟩
          have FB_119 := Hd.mk (FB_117.out.step hs)
          have Fh_119 := Hd.mk (Fh_117.out.step hs)
          have HM119 := Hd.mk hm
          clear FB_117 Fh_117 HM117
          clear hs hm
          rcases Nat.eq_zero_or_pos n with hz | hz
          · have hz2 : ¬ 0 < (n : Int) := by omega
            have hz4 : decide (0 < n) = false := by simp; omega
            have hz5 : decide (0 < (n : Int)) = false := by simp; omega
            clear hz
            go_upto_region 46 with fail
            obtain ⟨ke, hke⟩ : ∃ a, min zn 0 = a := ⟨_, rfl⟩
            obtain ⟨kf, hkf⟩ : ∃ a, max zn 281474976710657 = a := ⟨_, rfl⟩
            rw [hke, hkf]
            have HL3 : Hd (∀ x ∈ [ke, kf], x < 1 ∨ 281474976710656 < x) := ⟨by
              intro x hx
              simp only [List.mem_cons, List.not_mem_nil, or_false] at hx
              omega⟩
            clear hke hkf
            clear hz2 hz4 hz5
            obtain ⟨A120, hW⟩ : ∃ W, (w118.alloc (.cells #[.int .i64 ke, .int .i64 kf] 3)) = W := ⟨_, rfl⟩
            obtain ⟨p120, hm, hf, hs⟩ := lit_box HM119.out (.cells #[.int .i64 ke, .int .i64 kf] 3)
            rw [hW] at hm hf hs
            rw [hW]
            clear hW
            have FNL3120 := Hd.mk (hf.imp fun W hW => srcI_box hW [ke, kf] rfl (by simp))
            clear hf
            have FB_121 := Hd.mk (FB_119.out.step hs)
            have Fh_121 := Hd.mk (Fh_119.out.step hs)
            have HM121 := Hd.mk hm
            clear FB_119 Fh_119 HM119
            clear hs hm
            have HQ0 : Hd (Kept p120 A120 A120) := ⟨Kept.refl _ _⟩
            go_loopw [244] (fun i W => ∃ k : Nat, k ≤ 2 ∧ i = .int .i64 k ∧ Hd (TabAt W p120 M st) ∧ Hd (Kept p120 A120 W)) (fun i _ => 2 - (intOf i).toNat)
            case atStart => exact ⟨0, by omega, rfl, HM121, HQ0⟩
            case round =>
              obtain ⟨k, hk, rfl, HR, HQ⟩ := hrel
              by_cases hlt : k < 2
              · have hs := Step.of HQ.out
                have FB_142 := Hd.mk (FB_121.out.step hs)
                have Fh_142 := Hd.mk (Fh_121.out.step hs)
                have FL3_142 := Hd.mk (FNL3120.out.step hs)
                clear FB_121 Fh_121 FNL3120
                clear hs
                have HP0_142 : Hd (∀ k, p120 k → p120 k) := ⟨fun k hk => hk⟩
                obtain ⟨b, off, hbe, _, hc⟩ := (FL3_142.out.now).at k (show k < [ke, kf].length from hlt)
                cases hbe
                have hmem := List.getElem_mem (show k < [ke, kf].length from hlt)
                obtain ⟨x, hx⟩ : ∃ x, [ke, kf][k] = x := ⟨_, rfl⟩
                rw [hx] at hc hmem
                have HX := Hd.mk (HL3.out x hmem)
                simp only [Nat.zero_add] at hc
                have v0 := hc
                have k0 : (0 : Int) ≤ (k : Int) := by omega
                have k1 : (k : Int) < 2 := by omega
                have HWK : Hd (IntKind.i64.wrap ((k : Int) + 1) = (k : Int) + 1) := ⟨IntWalk.i64_in _ ⟨by omega, by omega⟩⟩
                have HLT := Hd.mk hlt
                clear hc hx hmem hlt hk
                have FK_s : Hd (Held p120 wr (fun W => Kept p120 A120 W)) := ⟨fun W hW => HQ.out.trans hW⟩
                have HX1 := Hd.mk (new_bad x wr HX.out)
                go_wp2_with fail
                refine HX1.out.mono ?_
                rintro e wq ⟨rfl, rfl⟩
                clear v0
                have hwk := HWK.out
                go_wp2_with fail
                go_roundw
                case rel => exact ⟨k + 1, by have := HLT.out; omega, by go_num, ⟨HR.out.less HP0_142.out⟩, ⟨FK_s.out.now⟩⟩
                case measure => have := HLT.out; simp [intOf]; omega
              · have hs := Step.of HQ.out
                have FB_163 := Hd.mk (FB_121.out.step hs)
                have Fh_163 := Hd.mk (Fh_121.out.step hs)
                have FL3_163 := Hd.mk (FNL3120.out.step hs)
                clear FB_121 Fh_121 FNL3120
                clear hs
                have HP0_163 : Hd (∀ k, p120 k → p120 k) := ⟨fun k hk => hk⟩
                obtain rfl : k = 2 := by omega
                rw [show ((2 : Nat) : Int) = 2 from rfl]
                clear hlt hk
                clear FL3_163
                go_wp2_with fail
                refine (y_all HR.out rfl).mono ?_
                rintro e w164 ⟨a164, c164, p164, rfl, hm, hf, hs⟩
                have FNh2164 := Hd.mk hf
                clear hf
                have FB_165 := Hd.mk (FB_163.out.step hs)
                have Fh_165 := Hd.mk (Fh_163.out.step hs)
                have HM165 := Hd.mk hm
                clear FB_163 Fh_163 HR
                clear hs hm
                have h_e := Hd.mk (equalH_at (l := liveS st) (m := liveS st) (b := true) (by simp) (OwnN.src FNh2164.out.now) (OwnN.src Fh_165.out.now))
                rw [HN.out] at h_e ⊢
                go_wp2_with fail
                refine (h_e.out).mono ?_
                rintro e w166 ⟨rfl, hB⟩
                obtain ⟨hm, hs⟩ := HM165.out.below hB
                clear hB
                have FB_167 := Hd.mk (FB_165.out.step hs)
                have Fh_167 := Hd.mk (Fh_165.out.step hs)
                have Fh2_167 := Hd.mk (FNh2164.out.step hs)
                have HM167 := Hd.mk hm
                clear FB_165 Fh_165 FNh2164 HM165
                clear hs hm
                clear h_e
                go_wp2_with fail
                refine (y_next HM167.out HNX.out).mono ?_
                rintro e w168 ⟨rfl, rfl⟩
                go_wp2_with fail
                go_ret
                exact ⟨rfl, FB_167.out.now⟩
          · have hz2 : 0 < (n : Int) := by omega
            have hz4 : decide (0 < n) = true := by simp; omega
            have hz5 : decide (0 < (n : Int)) = true := by simp; omega
            have hz3 : ¬ (n : Int) = 0 := by omega
            obtain ⟨j, hj⟩ : ∃ j, pn.toNat % n = j := ⟨_, rfl⟩
            have hjn : j < n := by rw [← hj]; exact Nat.mod_lt _ (by omega)
            have hj3 : j ≤ 255 := by
              have h1 := pn.isLt
              have h2 := Nat.mod_le pn.toNat n
              omega
            have r0 : (0 : Int) ≤ n8 pn := by unfold n8; omega
            have r1 : n8 pn % (n : Int) = (j : Int) := by unfold n8; omega
            have r2 : Int.tmod (n8 pn) (n : Int) = (j : Int) := by rw [Int.tmod_eq_emod_of_nonneg r0]; exact r1
            have r3 : IntKind.i64.wrap (j : Int) = (j : Int) := IntWalk.i64_in _ ⟨by omega, by omega⟩
            have r4 : (0 : Int) ≤ (j : Int) := by omega
            have r5 : (j : Int) < (n : Int) := by omega
            have hjl : j < (liveS st).length := by rw [HN.out]; exact hjn
            obtain ⟨b2, off2, rfl, _, hc2⟩ := (OwnN.src Fh_119.out.now).at j hjl
            have hmem := List.getElem_mem hjl
            obtain ⟨⟨x0, x1, x2, x3, x4⟩, hs⟩ : ∃ s, (liveS st)[j] = s := ⟨_, rfl⟩
            rw [hs] at hc2 hmem
            have v0 : w118.cell? ⟨b2, off2 + j * 5, none⟩ = some (.int .i64 x0) := hc2 0 _ rfl
            have v1 : w118.cell? ⟨b2, off2 + j * 5 + 1, none⟩ = some (.int .i64 x1) := hc2 1 _ rfl
            have v2 : w118.cell? ⟨b2, off2 + j * 5 + 2, none⟩ = some (.int .i64 x2) := hc2 2 _ rfl
            have v3 : w118.cell? ⟨b2, off2 + j * 5 + 3, none⟩ = some (.int .i64 x3) := hc2 3 _ rfl
            have v4 : w118.cell? ⟨b2, off2 + j * 5 + 4, none⟩ = some (h8 x4) := hc2 4 _ rfl
            have hE := (getE_live HSH.out.ok hmem).1
            have hsb := HSH.out.ok.lo _ (live_mem.1 hmem)
            simp only at hsb hE
            have HSR : Hd (-9223372036854775808 ≤ x0 ∧ x0 ≤ 9223372036854775807) := ⟨by have := HSH.out.ok.n2; omega⟩
            have HD1 := Hd.mk (der_err (st := st) (s := x0) (r := bd) (der_mask hE HBD.out) (by decide))
            have HD2 : Hd (¬ 15#8 &&& ~~~x4 = 0#8 → derW st x0 0 (x4 ||| (15#8 &&& ~~~x4)) = 221) := ⟨fun h => der_more HSH.out.ok hmem h⟩
            clear hj hjn hj3 r0 r1 hjl hc2 hmem hs hE hsb hz
            go_upto_region 37 with fail
            clear v0 v1 v2 v3 v4 r2 r3 r4 r5 hz2 hz3 hz4 hz5
            obtain ⟨A169, hW⟩ : ∃ W, (w118.alloc (.cells #[.int .i64 x0, .int .i64 x1, .int .i64 x2, .int .i64 x3, h8 x4] 34)) = W := ⟨_, rfl⟩
            obtain ⟨p169, hm, hf, hs⟩ := lit_box HM119.out (.cells #[.int .i64 x0, .int .i64 x1, .int .i64 x2, .int .i64 x3, h8 x4] 34)
            rw [hW] at hm hf hs
            rw [hW]
            clear hW
            have FNx169 := Hd.mk hf
            clear hf
            have FB_170 := Hd.mk (FB_119.out.step hs)
            have Fh_170 := Hd.mk (Fh_119.out.step hs)
            have HM170 := Hd.mk hm
            clear FB_119 Fh_119 HM119
            clear hs hm
            have hcx := FNx169.out.now
            have cx0 := (cells_cell hcx 0).trans (show _ = some (Value.int .i64 x0) from rfl)
            have cx1 := (cells_cell hcx 1).trans (show _ = some (Value.int .i64 x1) from rfl)
            have cx2 := (cells_cell hcx 2).trans (show _ = some (Value.int .i64 x2) from rfl)
            have cx3 := (cells_cell hcx 3).trans (show _ = some (Value.int .i64 x3) from rfl)
            have cx4 := (cells_cell hcx 4).trans (show _ = some (h8 x4) from rfl)
            clear hcx
            go_wp2_with fail
            refine (y_der HM170.out (s := x0) (tw := 0) (r := bd) (n := 0) (e := 220) (st' := st) HSR.out HD1.out.1 HD1.out.2.1 HD1.out.2.2).mono ?_
            rintro e w171 ⟨rfl, hm, hs⟩
            have FB_172 := Hd.mk (FB_170.out.step hs)
            have Fh_172 := Hd.mk (Fh_170.out.step hs)
            have Fx_172 := Hd.mk (FNx169.out.step hs)
            have HM172 := Hd.mk hm
            clear FB_170 Fh_170 FNx169 HM170
            clear hs hm
            clear cx0 cx1 cx2 cx3 cx4
            have hcx := Fx_172.out.now
            have dx0 := (cells_cell hcx 0).trans (show _ = some (Value.int .i64 x0) from rfl)
            have dx1 := (cells_cell hcx 1).trans (show _ = some (Value.int .i64 x1) from rfl)
            have dx2 := (cells_cell hcx 2).trans (show _ = some (Value.int .i64 x2) from rfl)
            have dx3 := (cells_cell hcx 3).trans (show _ = some (Value.int .i64 x3) from rfl)
            have dx4 := (cells_cell hcx 4).trans (show _ = some (h8 x4) from rfl)
            clear hcx
            clear Fx_172
            by_cases hm0 : 15#8 &&& ~~~x4 = 0#8
            · have hm1 : (15#8 &&& ~~~x4 != 0#8) = false := by rw [hm0]; rfl
              clear hm0
              go_upto_region 46 with fail
              obtain ⟨ke, hke⟩ : ∃ a, min zn 0 = a := ⟨_, rfl⟩
              obtain ⟨kf, hkf⟩ : ∃ a, max zn 281474976710657 = a := ⟨_, rfl⟩
              rw [hke, hkf]
              have HL3 : Hd (∀ x ∈ [ke, kf], x < 1 ∨ 281474976710656 < x) := ⟨by
                intro x hx
                simp only [List.mem_cons, List.not_mem_nil, or_false] at hx
                omega⟩
              clear hke hkf
              clear hm1 dx0 dx1 dx2 dx3 dx4
              obtain ⟨A173, hW⟩ : ∃ W, (w171.alloc (.cells #[.int .i64 ke, .int .i64 kf] 3)) = W := ⟨_, rfl⟩
              obtain ⟨p173, hm, hf, hs⟩ := lit_box HM172.out (.cells #[.int .i64 ke, .int .i64 kf] 3)
              rw [hW] at hm hf hs
              rw [hW]
              clear hW
              have FNL3173 := Hd.mk (hf.imp fun W hW => srcI_box hW [ke, kf] rfl (by simp))
              clear hf
              have FB_174 := Hd.mk (FB_172.out.step hs)
              have Fh_174 := Hd.mk (Fh_172.out.step hs)
              have HM174 := Hd.mk hm
              clear FB_172 Fh_172 HM172
              clear hs hm
              have HQ0 : Hd (Kept p173 A173 A173) := ⟨Kept.refl _ _⟩
              go_loopw [244] (fun i W => ∃ k : Nat, k ≤ 2 ∧ i = .int .i64 k ∧ Hd (TabAt W p173 M st) ∧ Hd (Kept p173 A173 W)) (fun i _ => 2 - (intOf i).toNat)
              case atStart => exact ⟨0, by omega, rfl, HM174, HQ0⟩
              case round =>
                obtain ⟨k, hk, rfl, HR, HQ⟩ := hrel
                by_cases hlt : k < 2
                · have hs := Step.of HQ.out
                  have FB_195 := Hd.mk (FB_174.out.step hs)
                  have Fh_195 := Hd.mk (Fh_174.out.step hs)
                  have FL3_195 := Hd.mk (FNL3173.out.step hs)
                  clear FB_174 Fh_174 FNL3173
                  clear hs
                  have HP0_195 : Hd (∀ k, p173 k → p173 k) := ⟨fun k hk => hk⟩
                  obtain ⟨b, off, hbe, _, hc⟩ := (FL3_195.out.now).at k (show k < [ke, kf].length from hlt)
                  cases hbe
                  have hmem := List.getElem_mem (show k < [ke, kf].length from hlt)
                  obtain ⟨x, hx⟩ : ∃ x, [ke, kf][k] = x := ⟨_, rfl⟩
                  rw [hx] at hc hmem
                  have HX := Hd.mk (HL3.out x hmem)
                  simp only [Nat.zero_add] at hc
                  have v0 := hc
                  have k0 : (0 : Int) ≤ (k : Int) := by omega
                  have k1 : (k : Int) < 2 := by omega
                  have HWK : Hd (IntKind.i64.wrap ((k : Int) + 1) = (k : Int) + 1) := ⟨IntWalk.i64_in _ ⟨by omega, by omega⟩⟩
                  have HLT := Hd.mk hlt
                  clear hc hx hmem hlt hk
                  have FK_s : Hd (Held p173 wr (fun W => Kept p173 A173 W)) := ⟨fun W hW => HQ.out.trans hW⟩
                  have HX1 := Hd.mk (new_bad x wr HX.out)
                  go_wp2_with fail
                  refine HX1.out.mono ?_
                  rintro e wq ⟨rfl, rfl⟩
                  clear v0
                  have hwk := HWK.out
                  go_wp2_with fail
                  go_roundw
                  case rel => exact ⟨k + 1, by have := HLT.out; omega, by go_num, ⟨HR.out.less HP0_195.out⟩, ⟨FK_s.out.now⟩⟩
                  case measure => have := HLT.out; simp [intOf]; omega
                · have hs := Step.of HQ.out
                  have FB_216 := Hd.mk (FB_174.out.step hs)
                  have Fh_216 := Hd.mk (Fh_174.out.step hs)
                  have FL3_216 := Hd.mk (FNL3173.out.step hs)
                  clear FB_174 Fh_174 FNL3173
                  clear hs
                  have HP0_216 : Hd (∀ k, p173 k → p173 k) := ⟨fun k hk => hk⟩
                  obtain rfl : k = 2 := by omega
                  rw [show ((2 : Nat) : Int) = 2 from rfl]
                  clear hlt hk
                  clear FL3_216
                  go_wp2_with fail
                  refine (y_all HR.out rfl).mono ?_
                  rintro e w217 ⟨a217, c217, p217, rfl, hm, hf, hs⟩
                  have FNh2217 := Hd.mk hf
                  clear hf
                  have FB_218 := Hd.mk (FB_216.out.step hs)
                  have Fh_218 := Hd.mk (Fh_216.out.step hs)
                  have HM218 := Hd.mk hm
                  clear FB_216 Fh_216 HR
                  clear hs hm
                  have h_e := Hd.mk (equalH_at (l := liveS st) (m := liveS st) (b := true) (by simp) (OwnN.src FNh2217.out.now) (OwnN.src Fh_218.out.now))
                  rw [HN.out] at h_e ⊢
                  go_wp2_with fail
                  refine (h_e.out).mono ?_
                  rintro e w219 ⟨rfl, hB⟩
                  obtain ⟨hm, hs⟩ := HM218.out.below hB
                  clear hB
                  have FB_220 := Hd.mk (FB_218.out.step hs)
                  have Fh_220 := Hd.mk (Fh_218.out.step hs)
                  have Fh2_220 := Hd.mk (FNh2217.out.step hs)
                  have HM220 := Hd.mk hm
                  clear FB_218 Fh_218 FNh2217 HM218
                  clear hs hm
                  clear h_e
                  go_wp2_with fail
                  refine (y_next HM220.out HNX.out).mono ?_
                  rintro e w221 ⟨rfl, rfl⟩
                  go_wp2_with fail
                  go_ret
                  exact ⟨rfl, FB_220.out.now⟩
            · have HD3 := Hd.mk (der_err (HD2.out hm0) (by decide))
              have hm1 : (15#8 &&& ~~~x4 != 0#8) = true := by simpa using hm0
              clear hm0
              go_wp2_with fail
              refine (y_der HM172.out (s := x0) (tw := 0) (r := x4 ||| (15#8 &&& ~~~x4)) (n := 0) (e := 221) (st' := st) HSR.out HD3.out.1 HD3.out.2.1 HD3.out.2.2).mono ?_
              rintro e w222 ⟨rfl, hm, hs⟩
              have FB_223 := Hd.mk (FB_172.out.step hs)
              have Fh_223 := Hd.mk (Fh_172.out.step hs)
              have HM223 := Hd.mk hm
              clear FB_172 Fh_172 HM172
              clear hs hm
              clear dx0 dx1 dx2 dx3 dx4 hm1
              go_upto_region 46 with fail
              obtain ⟨ke, hke⟩ : ∃ a, min zn 0 = a := ⟨_, rfl⟩
              obtain ⟨kf, hkf⟩ : ∃ a, max zn 281474976710657 = a := ⟨_, rfl⟩
              rw [hke, hkf]
              have HL3 : Hd (∀ x ∈ [ke, kf], x < 1 ∨ 281474976710656 < x) := ⟨by
                intro x hx
                simp only [List.mem_cons, List.not_mem_nil, or_false] at hx
                omega⟩
              clear hke hkf
              obtain ⟨A224, hW⟩ : ∃ W, (w222.alloc (.cells #[.int .i64 ke, .int .i64 kf] 3)) = W := ⟨_, rfl⟩
              obtain ⟨p224, hm, hf, hs⟩ := lit_box HM223.out (.cells #[.int .i64 ke, .int .i64 kf] 3)
              rw [hW] at hm hf hs
              rw [hW]
              clear hW
              have FNL3224 := Hd.mk (hf.imp fun W hW => srcI_box hW [ke, kf] rfl (by simp))
              clear hf
              have FB_225 := Hd.mk (FB_223.out.step hs)
              have Fh_225 := Hd.mk (Fh_223.out.step hs)
              have HM225 := Hd.mk hm
              clear FB_223 Fh_223 HM223
              clear hs hm
              have HQ0 : Hd (Kept p224 A224 A224) := ⟨Kept.refl _ _⟩
              go_loopw [244] (fun i W => ∃ k : Nat, k ≤ 2 ∧ i = .int .i64 k ∧ Hd (TabAt W p224 M st) ∧ Hd (Kept p224 A224 W)) (fun i _ => 2 - (intOf i).toNat)
              case atStart => exact ⟨0, by omega, rfl, HM225, HQ0⟩
              case round =>
                obtain ⟨k, hk, rfl, HR, HQ⟩ := hrel
                by_cases hlt : k < 2
                · have hs := Step.of HQ.out
                  have FB_246 := Hd.mk (FB_225.out.step hs)
                  have Fh_246 := Hd.mk (Fh_225.out.step hs)
                  have FL3_246 := Hd.mk (FNL3224.out.step hs)
                  clear FB_225 Fh_225 FNL3224
                  clear hs
                  have HP0_246 : Hd (∀ k, p224 k → p224 k) := ⟨fun k hk => hk⟩
                  obtain ⟨b, off, hbe, _, hc⟩ := (FL3_246.out.now).at k (show k < [ke, kf].length from hlt)
                  cases hbe
                  have hmem := List.getElem_mem (show k < [ke, kf].length from hlt)
                  obtain ⟨x, hx⟩ : ∃ x, [ke, kf][k] = x := ⟨_, rfl⟩
                  rw [hx] at hc hmem
                  have HX := Hd.mk (HL3.out x hmem)
                  simp only [Nat.zero_add] at hc
                  have v0 := hc
                  have k0 : (0 : Int) ≤ (k : Int) := by omega
                  have k1 : (k : Int) < 2 := by omega
                  have HWK : Hd (IntKind.i64.wrap ((k : Int) + 1) = (k : Int) + 1) := ⟨IntWalk.i64_in _ ⟨by omega, by omega⟩⟩
                  have HLT := Hd.mk hlt
                  clear hc hx hmem hlt hk
                  have FK_s : Hd (Held p224 wr (fun W => Kept p224 A224 W)) := ⟨fun W hW => HQ.out.trans hW⟩
                  have HX1 := Hd.mk (new_bad x wr HX.out)
                  go_wp2_with fail
                  refine HX1.out.mono ?_
                  rintro e wq ⟨rfl, rfl⟩
                  clear v0
                  have hwk := HWK.out
                  go_wp2_with fail
                  go_roundw
                  case rel => exact ⟨k + 1, by have := HLT.out; omega, by go_num, ⟨HR.out.less HP0_246.out⟩, ⟨FK_s.out.now⟩⟩
                  case measure => have := HLT.out; simp [intOf]; omega
                · have hs := Step.of HQ.out
                  have FB_267 := Hd.mk (FB_225.out.step hs)
                  have Fh_267 := Hd.mk (Fh_225.out.step hs)
                  have FL3_267 := Hd.mk (FNL3224.out.step hs)
                  clear FB_225 Fh_225 FNL3224
                  clear hs
                  have HP0_267 : Hd (∀ k, p224 k → p224 k) := ⟨fun k hk => hk⟩
                  obtain rfl : k = 2 := by omega
                  rw [show ((2 : Nat) : Int) = 2 from rfl]
                  clear hlt hk
                  clear FL3_267
                  go_wp2_with fail
                  refine (y_all HR.out rfl).mono ?_
                  rintro e w268 ⟨a268, c268, p268, rfl, hm, hf, hs⟩
                  have FNh2268 := Hd.mk hf
                  clear hf
                  have FB_269 := Hd.mk (FB_267.out.step hs)
                  have Fh_269 := Hd.mk (Fh_267.out.step hs)
                  have HM269 := Hd.mk hm
                  clear FB_267 Fh_267 HR
                  clear hs hm
                  have h_e := Hd.mk (equalH_at (l := liveS st) (m := liveS st) (b := true) (by simp) (OwnN.src FNh2268.out.now) (OwnN.src Fh_269.out.now))
                  rw [HN.out] at h_e ⊢
                  go_wp2_with fail
                  refine (h_e.out).mono ?_
                  rintro e w270 ⟨rfl, hB⟩
                  obtain ⟨hm, hs⟩ := HM269.out.below hB
                  clear hB
                  have FB_271 := Hd.mk (FB_269.out.step hs)
                  have Fh_271 := Hd.mk (Fh_269.out.step hs)
                  have Fh2_271 := Hd.mk (FNh2268.out.step hs)
                  have HM271 := Hd.mk hm
                  clear FB_269 Fh_269 FNh2268 HM269
                  clear hs hm
                  clear h_e
                  go_wp2_with fail
                  refine (y_next HM271.out HNX.out).mono ?_
                  rintro e w272 ⟨rfl, rfl⟩
                  go_wp2_with fail
                  go_ret
                  exact ⟨rfl, FB_271.out.now⟩
end Go.Proofs.Ytinagiofolmhbaa
