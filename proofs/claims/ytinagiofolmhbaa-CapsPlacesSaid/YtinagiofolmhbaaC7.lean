/- The law CapsCopies. -/
import Derived.Test.YtinagiofolmhbaaC6
import Derived.Test.YtinagiofolmhbaaC5
namespace Go.Proofs.Ytinagiofolmhbaa
open Go.RowKit
set_option linter.unusedVariables false
set_option linter.unusedSimpArgs false


/-- A table that stands beside: it is there while what is protected stands. -/
theorem beside {w w' : World} {pr q : Nat → Prop} {M : Nat} {st : St} (h : TabAt w pr M st) (hB : Below w.heap.size w w') (hq : ∀ k, k < w.heap.size → q k) : Held q w' (fun W => TabAt W (fun _ => False) M st) := by
  intro W hW
  obtain ⟨y, h⟩ := h
  have h2 := h.below (hB.trans (hW.below hq |>.mono (Nat.le_refl _)))
  exact ⟨y, h2.less (fun k hk => hk.elim)⟩
section
variable {w : World} {pr : Nat → Prop} {M : Nat} {st : St}
theorem z_all (h : TabAt w pr M st) {l : List Hn} (hl : liveS st = l) : Calls Try.prog 14 #[.pointer (some ⟨M, 0, none⟩)] w fun e' w' => ∃ a c, e' = .returned (.slice a l.length c) ∧ OwnN hL w' w.heap.size 34 (.slice a l.length c) l ∧ Below w.heap.size w w' := by
  subst hl
  obtain ⟨y, h⟩ := h
  refine (all_any h).mono ?_
  rintro e' w' ⟨v, rfl, hO, hB⟩
  obtain ⟨a, c, rfl⟩ := hO.shape
  exact ⟨a, c, rfl, hO, hB⟩
theorem z_places (h : TabAt w pr M st) {who : Int} {l : List Int} (hl : placesS st who = l) : Calls Try.prog 30 #[.pointer (some ⟨M, 0, none⟩), .int .i64 who] w fun e' w' => ∃ a c, e' = .returned (.slice a l.length c) ∧ AppI w' w.heap.size (.slice a l.length c) l ∧ Below w.heap.size w w' := by
  subst hl
  obtain ⟨y, h⟩ := h
  refine (places_any h who).mono ?_
  rintro e' w' ⟨v, rfl, hO, hB⟩
  obtain ⟨a, c, rfl⟩ := (OwnE.src hO).shape
  exact ⟨a, c, rfl, hO, hB⟩
end
theorem copies_root {st : St} (h : Sh 60 st) : rootE st 9 0 3#8 = 0 ∧ (rootS st 9 0 3#8).next = st.next + 1 ∧ (∀ x ∈ liveS st, x ∈ liveS (rootS st 9 0 3#8)) ∧ (placesS (rootS st 9 0 3#8) 0).length = (placesS st 0).length + 1 := by
  have hw : rootW 9 0 3#8 = 0 := by decide
  have ha : addE st 0 = 0 := h.addE (by omega) 0
  have hs : rootS st 9 0 3#8 = addS st ⟨0, 0, 9, 0, 3#8⟩ := by unfold rootS; rw [if_pos hw]
  refine ⟨by unfold rootE; rw [if_pos hw]; exact ha, ?_, ?_, ?_⟩
  · rw [hs]; unfold addS; rw [if_pos ha]
  · intro x hx
    rw [hs, live_add (h := ⟨0, 0, 9, 0, 3#8⟩) ha]
    exact List.mem_append_left _ hx
  · rw [hs]
    unfold addS placesS ownH
    rw [if_pos ha]
    simp
set_option maxRecDepth 100000 in
set_option maxHeartbeats 3000000 in
theorem copies_law {v : Value} {ls : List Sm} {w : World} (hl : SrcN sL w v ls) (pn : BitVec 8) : Calls Try.prog 10 #[v, h8 pn] w fun e w' => e = .returned (.bool true) ∧ Below w.heap.size w w' := by
  have FL := Hd.mk hl
  clear hl
  go_enter Try.func10, Try.ntmps10
  go_wp2_with fail
  refine (awake_any _).mono ?_
  rintro e w1 ⟨rfl, hB0⟩
  have HB0 := Hd.mk hB0
  clear hB0
  go_wp2_with fail
  refine (made_any (FL.out.below HB0.out)).mono ?_
  rintro e w2 ⟨M, rfl, hm, hB1⟩
  have HM0 := Hd.mk hm
  have FB0 := Hd.mk (Held.below (HB0.out.trans (hB1.mono HB0.out.size)) (pr := fun k => k < w1.heap.size) (fun k hk => Nat.lt_of_lt_of_le hk HB0.out.size))
  have HSH := Hd.mk (made_sh ls)
  have HFA := Hd.mk (made_fam ls)
  clear hm hB1 HB0 FL
  generalize madeS ls = st at *
  go_wp2_with fail
  obtain ⟨y0, hy0⟩ := HM0.out
  refine (copy_any hy0).mono ?_
  rintro e w3 ⟨M2, rfl, hm, hB⟩
  have HM1 := Hd.mk hm
  have FT1 := Hd.mk (beside (q := fun k => k < w2.heap.size) HM0.out hB (fun k hk => hk))
  have FB1 := Hd.mk (Held.below (pr := fun k => k < w2.heap.size) (FB0.out.now.trans (hB.mono FB0.out.now.size)) (fun k hk => Nat.lt_of_lt_of_le hk FB0.out.now.size))
  clear hm hB hy0 FB0 HM0
  obtain ⟨nx, hnx⟩ : ∃ n, st.next = n := ⟨_, rfl⟩
  have HNX := Hd.mk hnx
  obtain ⟨n, hn⟩ : ∃ n, (liveS st).length = n := ⟨_, rfl⟩
  have HN := Hd.mk hn
  have hn256 : n ≤ 256 := by rw [← hn]; exact HSH.out.ok.live
  obtain ⟨np, hnp⟩ : ∃ n, (placesS st 0).length = n := ⟨_, rfl⟩
  have HNP := Hd.mk hnp
  have hnp256 : np ≤ 256 := by rw [← hnp]; exact HSH.out.ok.places 0
  have hnxb : 100 ≤ nx ∧ nx ≤ 281474976710657 := ⟨by rw [← hnx]; exact HSH.out.n100, by rw [← hnx]; exact HSH.out.ok.n2⟩
  have hwx : IntKind.i64.wrap (nx + 1) = nx + 1 := IntWalk.i64_in _ ⟨by omega, by omega⟩
  have hwp : IntKind.i64.wrap ((np : Int) + 1) = (np : Int) + 1 := IntWalk.i64_in _ ⟨by omega, by omega⟩
  clear hnx hn hnp hnxb
  go_wp2_with fail
  refine (z_all HM1.out rfl).mono ?_
  rintro e w4 ⟨a4, c4, rfl, hO, hB⟩
  obtain ⟨hm, hs⟩ := HM1.out.protect hB
  have FNac4 := Hd.mk (Held.ownH (pr := (fun k => k < w2.heap.size)) hO (Nat.le_refl _))
  clear hO hB
  have FT_5 := Hd.mk (FT1.out.step hs)
  have FB_5 := Hd.mk (FB1.out.step hs)
  have HM5 := Hd.mk hm
  clear FT1 FB1 HM1
  clear hs hm
  go_wp2_with fail
  refine (z_all FT_5.out.now rfl).mono ?_
  rintro e w6 ⟨a6, c6, rfl, hO, hB⟩
  obtain ⟨hm, hs⟩ := HM5.out.protect hB
  have FNat6 := Hd.mk (Held.ownH (pr := (grow (fun k => k < w2.heap.size) w3 w4)) hO (Nat.le_refl _))
  clear hO hB
  have FT_7 := Hd.mk (FT_5.out.step hs)
  have FB_7 := Hd.mk (FB_5.out.step hs)
  have Fac_7 := Hd.mk (FNac4.out.step hs)
  have HM7 := Hd.mk hm
  clear FT_5 FB_5 FNac4 HM5
  clear hs hm
  go_wp2_with fail
  refine (equalH_at (l := liveS st) (m := liveS st) (b := true) (by simp) (OwnN.src Fac_7.out.now) (OwnN.src FNat6.out.now)).mono ?_
  rintro e w8 ⟨rfl, hB⟩
  obtain ⟨hm, hs⟩ := HM7.out.below hB
  clear hB
  have FT_9 := Hd.mk (FT_7.out.step hs)
  have FB_9 := Hd.mk (FB_7.out.step hs)
  have Fac_9 := Hd.mk (Fac_7.out.step hs)
  have Fat_9 := Hd.mk (FNat6.out.step hs)
  have HM9 := Hd.mk hm
  clear FT_7 FB_7 Fac_7 FNat6 HM7
  clear hs hm
  clear Fac_9 Fat_9
  go_wp2_with fail
  refine (y_next HM9.out HNX.out).mono ?_
  rintro e w10 ⟨rfl, rfl⟩
  go_wp2_with fail
  refine (y_next FT_9.out.now HNX.out).mono ?_
  rintro e wq ⟨rfl, rfl⟩
  go_wp2_with fail
  refine (z_all FT_9.out.now rfl).mono ?_
  rintro e w11 ⟨a11, c11, rfl, hO, hB⟩
  obtain ⟨hm, hs⟩ := HM9.out.protect hB
  have FNal11 := Hd.mk (Held.ownH (pr := (grow (grow (fun k => k < w2.heap.size) w3 w4) w4 w6)) hO (Nat.le_refl _))
  clear hO hB
  have FT_12 := Hd.mk (FT_9.out.step hs)
  have FB_12 := Hd.mk (FB_9.out.step hs)
  have HM12 := Hd.mk hm
  clear FT_9 FB_9 HM9
  clear hs hm
  rw [HN.out]
  go_wp2_with fail
  refine (y_next FT_12.out.now HNX.out).mono ?_
  rintro e wq ⟨rfl, rfl⟩
  go_wp2_with fail
  refine (z_places FT_12.out.now rfl).mono ?_
  rintro e w13 ⟨a13, c13, rfl, hO, hB⟩
  obtain ⟨hm, hs⟩ := HM12.out.protect hB
  have FNpl13 := Hd.mk (Held.own (pr := (grow (grow (grow (fun k => k < w2.heap.size) w3 w4) w4 w6) w8 w11)) hO (Nat.le_refl _))
  clear hO hB
  have FT_14 := Hd.mk (FT_12.out.step hs)
  have FB_14 := Hd.mk (FB_12.out.step hs)
  have Fal_14 := Hd.mk (FNal11.out.step hs)
  have HM14 := Hd.mk hm
  clear FT_12 FB_12 FNal11 HM12
  clear hs hm
  rw [HNP.out]
  go_wp2_with fail
  obtain ⟨hE, hR2, hR3, hR4⟩ := copies_root HSH.out
  obtain ⟨st2, hst2⟩ : ∃ x, rootS st 9 0 3#8 = x := ⟨_, rfl⟩
  have hok2 : Ok st2 := by rw [← hst2]; exact HSH.out.ok.root _ _ _
  rw [hst2] at hR2 hR3 hR4
  have HR := Hd.mk (And.intro hR2 (And.intro hR3 hR4))
  have HOK2 := Hd.mk hok2
  have HC_ := Hd.mk (y_root HM14.out (n := rootN st 9 0 3#8) rfl hE hst2)
  generalize rootN st 9 0 3#8 = rn at HC_
  clear hE hR2 hR3 hR4 hst2 hok2
  refine HC_.out.mono ?_
  rintro e w15 ⟨rfl, hm, hs⟩
  clear HC_
  have FT_16 := Hd.mk (FT_14.out.step hs)
  have FB_16 := Hd.mk (FB_14.out.step hs)
  have Fal_16 := Hd.mk (Fal_14.out.step hs)
  have Fpl_16 := Hd.mk (FNpl13.out.step hs)
  have HM16 := Hd.mk hm
  clear FT_14 FB_14 Fal_14 FNpl13 HM14
  clear hs hm
  by_cases hz : n = 0
  · have hz2 : ¬ 0 < (n : Int) := by omega
    have HX3 : Hd (st2.next = nx + 1 ∧ (placesS st2 0).length = np + 1) := ⟨by rw [← HNX.out, ← HNP.out]; exact ⟨HR.out.1, HR.out.2.2⟩⟩
    clear hz
    go_wp2_with fail
    refine (z_all FT_16.out.now rfl).mono ?_
    rintro e w17 ⟨a17, c17, rfl, hO, hB⟩
    obtain ⟨hm, hs⟩ := HM16.out.protect hB
    have FNa217 := Hd.mk (Held.ownH (pr := (grow (grow (grow (grow (fun k => k < w2.heap.size) w3 w4) w4 w6) w8 w11) w11 w13)) hO (Nat.le_refl _))
    clear hO hB
    have FT_18 := Hd.mk (FT_16.out.step hs)
    have FB_18 := Hd.mk (FB_16.out.step hs)
    have Fal_18 := Hd.mk (Fal_16.out.step hs)
    have Fpl_18 := Hd.mk (Fpl_16.out.step hs)
    have HM18 := Hd.mk hm
    clear FT_16 FB_16 Fal_16 Fpl_16 HM16
    clear hs hm
    rw [HN.out]
    have h_e := Hd.mk (equalH_at (l := liveS st) (m := liveS st) (b := true) (by simp) (OwnN.src FNa217.out.now) (OwnN.src Fal_18.out.now))
    rw [HN.out] at h_e
    go_wp2_with fail
    refine (h_e.out).mono ?_
    rintro e w19 ⟨rfl, hB⟩
    obtain ⟨hm, hs⟩ := HM18.out.below hB
    clear hB
    have FT_20 := Hd.mk (FT_18.out.step hs)
    have FB_20 := Hd.mk (FB_18.out.step hs)
    have Fal_20 := Hd.mk (Fal_18.out.step hs)
    have Fpl_20 := Hd.mk (Fpl_18.out.step hs)
    have Fa2_20 := Hd.mk (FNa217.out.step hs)
    have HM20 := Hd.mk hm
    clear FT_18 FB_18 Fal_18 Fpl_18 FNa217 HM18
    clear hs hm
    clear h_e
    go_wp2_with fail
    refine (y_next FT_20.out.now HNX.out).mono ?_
    rintro e wq ⟨rfl, rfl⟩
    go_wp2_with fail
    refine (z_places FT_20.out.now rfl).mono ?_
    rintro e w21 ⟨a21, c21, rfl, hO, hB⟩
    obtain ⟨hm, hs⟩ := HM20.out.protect hB
    have FNp221 := Hd.mk (Held.own (pr := (grow (grow (grow (grow (grow (fun k => k < w2.heap.size) w3 w4) w4 w6) w8 w11) w11 w13) w15 w17)) hO (Nat.le_refl _))
    clear hO hB
    have FT_22 := Hd.mk (FT_20.out.step hs)
    have FB_22 := Hd.mk (FB_20.out.step hs)
    have Fal_22 := Hd.mk (Fal_20.out.step hs)
    have Fpl_22 := Hd.mk (Fpl_20.out.step hs)
    have Fa2_22 := Hd.mk (Fa2_20.out.step hs)
    have HM22 := Hd.mk hm
    clear FT_20 FB_20 Fal_20 Fpl_20 Fa2_20 HM20
    clear hs hm
    rw [HNP.out]
    have h_e := Hd.mk (same_at (l := placesS st 0) (m := placesS st 0) (b := true) (by simp) (OwnE.src FNp221.out.now) (OwnE.src Fpl_22.out.now))
    rw [HNP.out] at h_e
    go_wp2_with fail
    refine (h_e.out).mono ?_
    rintro e w23 ⟨rfl, hB⟩
    obtain ⟨hm, hs⟩ := HM22.out.below hB
    clear hB
    have FT_24 := Hd.mk (FT_22.out.step hs)
    have FB_24 := Hd.mk (FB_22.out.step hs)
    have Fal_24 := Hd.mk (Fal_22.out.step hs)
    have Fpl_24 := Hd.mk (Fpl_22.out.step hs)
    have Fa2_24 := Hd.mk (Fa2_22.out.step hs)
    have Fp2_24 := Hd.mk (FNp221.out.step hs)
    have HM24 := Hd.mk hm
    clear FT_22 FB_22 Fal_22 Fpl_22 Fa2_22 FNp221 HM22
    clear hs hm
    clear h_e
    go_wp2_with fail
    refine (y_next HM24.out (n := nx + 1) HX3.out.1).mono ?_
    rintro e w25 ⟨rfl, rfl⟩
    go_wp2_with fail
    refine (z_places HM24.out rfl).mono ?_
    rintro e w26 ⟨a26, c26, rfl, hO, hB⟩
    obtain ⟨hm, hs⟩ := HM24.out.protect hB
    have FNp326 := Hd.mk (Held.own (pr := (grow (grow (grow (grow (grow (grow (fun k => k < w2.heap.size) w3 w4) w4 w6) w8 w11) w11 w13) w15 w17) w19 w21)) hO (Nat.le_refl _))
    clear hO hB
    have FT_27 := Hd.mk (FT_24.out.step hs)
    have FB_27 := Hd.mk (FB_24.out.step hs)
    have Fal_27 := Hd.mk (Fal_24.out.step hs)
    have Fpl_27 := Hd.mk (Fpl_24.out.step hs)
    have Fa2_27 := Hd.mk (Fa2_24.out.step hs)
    have Fp2_27 := Hd.mk (Fp2_24.out.step hs)
    have HM27 := Hd.mk hm
    clear FT_24 FB_24 Fal_24 Fpl_24 Fa2_24 Fp2_24 HM24
    clear hs hm
    rw [HX3.out.2]
    go_wp2_with fail
    go_ret
    exact ⟨rfl, FB_27.out.now⟩
  · have hz2 : 0 < (n : Int) := by omega
    have hz3 : ¬ (n : Int) = 0 := by omega
    obtain ⟨j, hj⟩ : ∃ j, pn.toNat % n = j := ⟨_, rfl⟩
    have hjn : j < n := by rw [← hj]; exact Nat.mod_lt _ (by omega)
    have hj3 : j ≤ 255 := by
      have h1 := pn.isLt
      have h2 := Nat.mod_le pn.toNat n
      omega
    have r0 : (0 : Int) ≤ n8 pn := by unfold n8; omega
    have r1 : n8 pn % (n : Int) = (j : Int) := by unfold n8; omega
    have r2 : Int.tmod (n8 pn) (n : Int) = (j : Int) := by rw [Int.tmod_eq_emod_of_nonneg r0]; exact r1
    have r3 : IntKind.i64.wrap (j : Int) = (j : Int) := IntWalk.i64_in _ ⟨by omega, by omega⟩
    have r4 : (0 : Int) ≤ (j : Int) := by omega
    have r5 : (j : Int) < (n : Int) := by omega
    have hjl : j < (liveS st).length := by rw [HN.out]; exact hjn
    obtain ⟨b2, off2, hbe, _, hc2⟩ := (OwnN.src Fal_16.out.now).at j hjl
    cases hbe
    have hmem := List.getElem_mem hjl
    obtain ⟨s, hs⟩ : ∃ s, (liveS st)[j].ser = s := ⟨_, rfl⟩
    have x0 : w15.cell? ⟨b2, off2 + j * 5, none⟩ = some (.int .i64 s) := by rw [← hs]; exact hc2 0 _ rfl
    have hE := (getE_live HOK2.out (HR.out.2.1 _ hmem)).1
    have hsb := HSH.out.ok.lo _ (live_mem.1 hmem)
    simp only at hsb
    rw [hs] at hE hsb
    have hsr : -9223372036854775808 ≤ s ∧ s ≤ 9223372036854775807 := by have := HSH.out.ok.n2; omega
    obtain ⟨st3, hst3⟩ : ∃ x, revokeS st2 s = x := ⟨_, rfl⟩
    have HX3 : Hd (st3.next = nx + 1 ∧ (placesS st3 0).length = np + 1) := ⟨by
      rw [← hst3, ← HNX.out, ← HNP.out]
      exact ⟨HR.out.1, by unfold revokeS; rw [own_take]; exact HR.out.2.2⟩⟩
    have HC_ := Hd.mk (y_revoke HM16.out hsr (l := belowS st2 s) rfl hE hst3)
    clear hj hjn hj3 r0 r1 hjl hc2 hmem hs hE hsb hsr hst3
    go_wp2_with fail
    refine HC_.out.mono ?_
    rintro e w17 ⟨a17, c17, p17, rfl, hm, hf, hs⟩
    clear HC_ x0 r2 r3 r4 r5 hf
    have FT_18 := Hd.mk (FT_16.out.step hs)
    have FB_18 := Hd.mk (FB_16.out.step hs)
    have Fal_18 := Hd.mk (Fal_16.out.step hs)
    have Fpl_18 := Hd.mk (Fpl_16.out.step hs)
    have HM18 := Hd.mk hm
    clear FT_16 FB_16 Fal_16 Fpl_16 HM16
    clear hs hm
    go_wp2_with fail
    refine (z_all FT_18.out.now rfl).mono ?_
    rintro e w19 ⟨a19, c19, rfl, hO, hB⟩
    obtain ⟨hm, hs⟩ := HM18.out.protect hB
    have FNa219 := Hd.mk (Held.ownH (pr := p17) hO (Nat.le_refl _))
    clear hO hB
    have FT_20 := Hd.mk (FT_18.out.step hs)
    have FB_20 := Hd.mk (FB_18.out.step hs)
    have Fal_20 := Hd.mk (Fal_18.out.step hs)
    have Fpl_20 := Hd.mk (Fpl_18.out.step hs)
    have HM20 := Hd.mk hm
    clear FT_18 FB_18 Fal_18 Fpl_18 HM18
    clear hs hm
    rw [HN.out]
    have h_e := Hd.mk (equalH_at (l := liveS st) (m := liveS st) (b := true) (by simp) (OwnN.src FNa219.out.now) (OwnN.src Fal_20.out.now))
    rw [HN.out] at h_e
    go_wp2_with fail
    refine (h_e.out).mono ?_
    rintro e w21 ⟨rfl, hB⟩
    obtain ⟨hm, hs⟩ := HM20.out.below hB
    clear hB
    have FT_22 := Hd.mk (FT_20.out.step hs)
    have FB_22 := Hd.mk (FB_20.out.step hs)
    have Fal_22 := Hd.mk (Fal_20.out.step hs)
    have Fpl_22 := Hd.mk (Fpl_20.out.step hs)
    have Fa2_22 := Hd.mk (FNa219.out.step hs)
    have HM22 := Hd.mk hm
    clear FT_20 FB_20 Fal_20 Fpl_20 FNa219 HM20
    clear hs hm
    clear h_e
    go_wp2_with fail
    refine (y_next FT_22.out.now HNX.out).mono ?_
    rintro e wq ⟨rfl, rfl⟩
    go_wp2_with fail
    refine (z_places FT_22.out.now rfl).mono ?_
    rintro e w23 ⟨a23, c23, rfl, hO, hB⟩
    obtain ⟨hm, hs⟩ := HM22.out.protect hB
    have FNp223 := Hd.mk (Held.own (pr := (grow p17 w17 w19)) hO (Nat.le_refl _))
    clear hO hB
    have FT_24 := Hd.mk (FT_22.out.step hs)
    have FB_24 := Hd.mk (FB_22.out.step hs)
    have Fal_24 := Hd.mk (Fal_22.out.step hs)
    have Fpl_24 := Hd.mk (Fpl_22.out.step hs)
    have Fa2_24 := Hd.mk (Fa2_22.out.step hs)
    have HM24 := Hd.mk hm
    clear FT_22 FB_22 Fal_22 Fpl_22 Fa2_22 HM22
    clear hs hm
    rw [HNP.out]
    have h_e := Hd.mk (same_at (l := placesS st 0) (m := placesS st 0) (b := true) (by simp) (OwnE.src FNp223.out.now) (OwnE.src Fpl_24.out.now))
    rw [HNP.out] at h_e
    go_wp2_with fail
    refine (h_e.out).mono ?_
    rintro e w25 ⟨rfl, hB⟩
    obtain ⟨hm, hs⟩ := HM24.out.below hB
    clear hB
    have FT_26 := Hd.mk (FT_24.out.step hs)
    have FB_26 := Hd.mk (FB_24.out.step hs)
    have Fal_26 := Hd.mk (Fal_24.out.step hs)
    have Fpl_26 := Hd.mk (Fpl_24.out.step hs)
    have Fa2_26 := Hd.mk (Fa2_24.out.step hs)
    have Fp2_26 := Hd.mk (FNp223.out.step hs)
    have HM26 := Hd.mk hm
    clear FT_24 FB_24 Fal_24 Fpl_24 Fa2_24 FNp223 HM24
    clear hs hm
    clear h_e
    go_wp2_with fail
    refine (y_next HM26.out (n := nx + 1) HX3.out.1).mono ?_
    rintro e w27 ⟨rfl, rfl⟩
    go_wp2_with fail
    refine (z_places HM26.out rfl).mono ?_
    rintro e w28 ⟨a28, c28, rfl, hO, hB⟩
    obtain ⟨hm, hs⟩ := HM26.out.protect hB
    have FNp328 := Hd.mk (Held.own (pr := (grow (grow p17 w17 w19) w21 w23)) hO (Nat.le_refl _))
    clear hO hB
    have FT_29 := Hd.mk (FT_26.out.step hs)
    have FB_29 := Hd.mk (FB_26.out.step hs)
    have Fal_29 := Hd.mk (Fal_26.out.step hs)
    have Fpl_29 := Hd.mk (Fpl_26.out.step hs)
    have Fa2_29 := Hd.mk (Fa2_26.out.step hs)
    have Fp2_29 := Hd.mk (Fp2_26.out.step hs)
    have HM29 := Hd.mk hm
    clear FT_26 FB_26 Fal_26 Fpl_26 Fa2_26 Fp2_26 HM26
    clear hs hm
    rw [HX3.out.2]
    go_wp2_with fail
    go_ret
    exact ⟨rfl, FB_29.out.now⟩
end Go.Proofs.Ytinagiofolmhbaa
