/- The law CapsRevoke. -/
import Derived.Test.YtinagiofolmhbaaC4
namespace Go.Proofs.Ytinagiofolmhbaa
open Go.RowKit
set_option linter.unusedVariables false
set_option linter.unusedSimpArgs false


theorem take_nil (st : St) : takeS st [] = st := by
  obtain ⟨n, m⟩ := st
  unfold takeS
  simp
theorem below_under {st : St} (hok : Ok st) {s : Int} (he : getE st s = 0) {h : Hn} (hm : h ∈ liveS st) : (belowS st s).contains h.ser = undB (liveS st) (liveS st).length h s := by
  unfold belowS
  rw [if_pos he, Bool.eq_iff_iff, List.contains_iff_mem, below_mem hok.tr, undB_iff hok.tr hm]
  constructor
  · rintro ⟨u, hu, h1, h2⟩
    have : u = h := inc_inj hok.tr.inc hu hm h1
    rwa [this] at h2
  · exact fun h2 => ⟨h, hm, rfl, h2⟩
def leftL (l : List Hn) (s : Int) (k : Nat) : List Hn := (l.take k).filter (fun h => !undB l l.length h s)
theorem leftL_succ {l : List Hn} {s : Int} {k : Nat} (hk : k < l.length) : leftL l s (k + 1) = if undB l l.length l[k] s = true then leftL l s k else leftL l s k ++ [l[k]] := by
  unfold leftL
  rw [List.take_succ_eq_append_getElem hk, List.filter_append]
  split <;> rename_i h <;> simp [h]
theorem revoke_live {st : St} (hok : Ok st) {s : Int} (he : getE st s = 0) : liveS (revokeS st s) = leftL (liveS st) s (liveS st).length := by
  unfold revokeS leftL
  rw [live_take, List.take_length]
  exact List.filter_congr fun h hm => by rw [below_under hok he hm]
theorem take_get {st : St} {p : List Int} (hok : Ok st) {h : Hn} (hm : h ∈ liveS st) : (p.contains h.ser = true → getE (takeS st p) h.ser = 6 ∧ getV (takeS st p) h.ser = hn0) ∧ (p.contains h.ser = false → getE (takeS st p) h.ser = 0 ∧ getV (takeS st p) h.ser = h) := by
  constructor
  · intro hc
    have : getL (liveS (takeS st p)) h.ser = none := by
      rw [getL_none, live_take]
      intro u hu e
      obtain ⟨h1, h2⟩ := List.mem_filter.1 hu
      rw [e, hc] at h2
      cases h2
    unfold getE getV
    rw [this]
    exact ⟨rfl, rfl⟩
  · intro hc
    exact getE_live (hok.take p) (by rw [live_take]; exact List.mem_filter.2 ⟨hm, by rw [hc]; rfl⟩)
theorem belowS_inc {st : St} (hok : Ok st) (s : Int) : (belowS st s).Pairwise (· ≤ ·) := by
  unfold belowS
  split
  · exact inc_le (below_inc hok.tr s)
  · exact .nil
theorem belowS_len {st : St} (hok : Ok st) (s : Int) : (belowS st s).length ≤ 256 := by
  unfold belowS belowL
  split
  · rw [List.length_map]; exact Nat.le_trans (List.length_filter_le _ _) hok.live
  · simp
theorem self_gone {st : St} (hok : Ok st) {h : Hn} (hm : h ∈ liveS st) : getE (revokeS st h.ser) h.ser = 6 := by
  refine ((take_get hok hm).1 ?_).1
  rw [below_under hok (getE_live hok hm).1 hm, undB_iff hok.tr hm]
  exact .here rfl
set_option maxRecDepth 100000 in
set_option maxHeartbeats 3000000 in
theorem revoke_law {v : Value} {ls : List Sm} {w : World} (hl : SrcN sL w v ls) (pn : BitVec 8) : Calls Try.prog 7 #[v, h8 pn] w fun e w' => e = .returned (.bool true) ∧ Below w.heap.size w w' := by
  have FL := Hd.mk hl
  clear hl
  go_enter Try.func7, Try.ntmps7
  go_wp2_with fail
  refine (awake_any _).mono ?_
  rintro e w1 ⟨rfl, hB0⟩
  have HB0 := Hd.mk hB0
  clear hB0
  go_wp2_with fail
  refine (made_any (FL.out.below HB0.out)).mono ?_
  rintro e w2 ⟨M, rfl, hm, hB1⟩
  have HM0 := Hd.mk hm
  have FB0 := Hd.mk (Held.below (HB0.out.trans (hB1.mono HB0.out.size)) (pr := fun k => k < w1.heap.size) (fun k hk => Nat.lt_of_lt_of_le hk HB0.out.size))
  have HSH := Hd.mk (made_sh ls)
  have HFA := Hd.mk (made_fam ls)
  clear hm hB1 HB0 FL
  generalize madeS ls = st at *
  go_wp2_with fail
  refine (y_all HM0.out rfl).mono ?_
  rintro e w3 ⟨a3, c3, p3, rfl, hm, hf, hs⟩
  have FNh3 := Hd.mk hf
  clear hf
  have FB_4 := Hd.mk (FB0.out.step hs)
  have HM4 := Hd.mk hm
  clear FB0 HM0
  clear hs hm
  obtain ⟨n, hn⟩ : ∃ n, (liveS st).length = n := ⟨_, rfl⟩
  have HN := Hd.mk hn
  rw [hn]
  have hn256 : n ≤ 256 := by rw [← hn]; exact HSH.out.ok.live
  clear hn
  by_cases hz : n = 0
  · subst hz
    go_wp2_with fail
    refine (y_len HM4.out (n := 0) (by rw [HN.out]; rfl)).mono ?_
    rintro e wq ⟨rfl, rfl⟩
    go_wp2_with fail
    go_ret
    exact ⟨rfl, FB_4.out.now⟩
  · have hz2 : ¬ (n : Int) = 0 := by omega
    have hz3 : ((n : Int) == 0) = false := by simp; omega
    obtain ⟨j, hj⟩ : ∃ j, pn.toNat % n = j := ⟨_, rfl⟩
    have hjn : j < n := by rw [← hj]; exact Nat.mod_lt _ (by omega)
    have hj3 : j ≤ 255 := by
      have h1 := pn.isLt
      have h2 := Nat.mod_le pn.toNat n
      omega
    have r0 : (0 : Int) ≤ n8 pn := by unfold n8; omega
    have r1 : n8 pn % (n : Int) = (j : Int) := by unfold n8; omega
    have r2 : Int.tmod (n8 pn) (n : Int) = (j : Int) := by rw [Int.tmod_eq_emod_of_nonneg r0]; exact r1
    have r3 : IntKind.i64.wrap (j : Int) = (j : Int) := IntWalk.i64_in _ ⟨by omega, by omega⟩
    have r4 : (0 : Int) ≤ (j : Int) := by omega
    have r5 : (j : Int) < (n : Int) := by omega
    have hjl : j < (liveS st).length := by rw [HN.out]; exact hjn
    obtain ⟨b2, off2, rfl, _, hc2⟩ := (OwnN.src FNh3.out.now).at j hjl
    have hmem := List.getElem_mem hjl
    obtain ⟨s, hs⟩ : ∃ s, (liveS st)[j].ser = s := ⟨_, rfl⟩
    have x0 : w3.cell? ⟨b2, off2 + j * 5, none⟩ = some (.int .i64 s) := by rw [← hs]; exact hc2 0 _ rfl
    have hE := (getE_live HSH.out.ok hmem).1
    have hgone := self_gone HSH.out.ok hmem
    have hsb := HSH.out.ok.lo _ (live_mem.1 hmem)
    simp only at hsb
    rw [hs] at hE hgone hsb
    have hsr : -9223372036854775808 ≤ s ∧ s ≤ 9223372036854775807 := by have := HSH.out.ok.n2; omega
    have HE := Hd.mk hE
    have HG := Hd.mk hgone
    have HSR := Hd.mk hsr
    clear hj hjn hj3 r0 r1 hjl hc2 hmem hs hE hgone hsb hsr hz
    go_upto_region 10 with fail
    clear x0 r2 r3 r4 r5 hz2 hz3
    go_wp2_with fail
    refine (y_below HM4.out (l := belowS st s) HSR.out rfl HE.out).mono ?_
    rintro e w5 ⟨a5, c5, p5, rfl, hm, hf, hs⟩
    have FNb5 := Hd.mk hf
    clear hf
    have FB_6 := Hd.mk (FB_4.out.step hs)
    have Fh_6 := Hd.mk (FNh3.out.step hs)
    have HM6 := Hd.mk hm
    clear FB_4 FNh3 HM4
    clear hs hm
    go_wp2_with fail
    refine (y_next HM6.out rfl).mono ?_
    rintro e w7 ⟨rfl, rfl⟩
    go_wp2_with fail
    obtain ⟨st1, hst1⟩ : ∃ x, revokeS st s = x := ⟨_, rfl⟩
    have HST1 := Hd.mk hst1
    have HOK1 : Hd (Ok st1) := ⟨by rw [← hst1]; exact HSH.out.ok.take _⟩
    have hnx : st1.next = st.next := by rw [← hst1]; rfl
    have HNX := Hd.mk hnx
    have hlv : liveS st1 = leftL (liveS st) s n := by rw [← hst1, ← HN.out]; exact revoke_live HSH.out.ok HE.out
    have HLV := Hd.mk hlv
    have HG1 : Hd (getE st1 s = 6) := ⟨by rw [← hst1]; exact HG.out⟩
    clear hst1 hnx hlv
    refine (y_revoke HM6.out (l := belowS st s) HSR.out rfl HE.out HST1.out).mono ?_
    rintro e w8 ⟨a8, c8, p8, rfl, hm, hf, hs⟩
    have FNg8 := Hd.mk hf
    clear hf
    have FB_9 := Hd.mk (FB_6.out.step hs)
    have Fh_9 := Hd.mk (Fh_6.out.step hs)
    have Fb_9 := Hd.mk (FNb5.out.step hs)
    have HM9 := Hd.mk hm
    clear FB_6 Fh_6 FNb5 HM6
    clear hs hm
    go_wp2_with fail
    refine (same_at (l := belowS st s) (m := belowS st s) (b := true) (by simp) (OwnE.src Fb_9.out.now) (OwnE.src FNg8.out.now)).mono ?_
    rintro e w10 ⟨rfl, hB⟩
    obtain ⟨hm, hs⟩ := HM9.out.below hB
    clear hB
    have FB_11 := Hd.mk (FB_9.out.step hs)
    have Fh_11 := Hd.mk (Fh_9.out.step hs)
    have Fb_11 := Hd.mk (Fb_9.out.step hs)
    have Fg_11 := Hd.mk (FNg8.out.step hs)
    have HM11 := Hd.mk hm
    clear FB_9 Fh_9 Fb_9 FNg8 HM9
    clear hs hm
    go_wp2_with fail
    refine (sorted_any _ (belowS st s) _ (OwnE.src Fg_11.out.now) (belowS_inc HSH.out.ok s) (by have := belowS_len HSH.out.ok s; omega)).mono ?_
    rintro e w12 ⟨rfl, hB⟩
    obtain ⟨hm, hs⟩ := HM11.out.below hB
    clear hB
    have FB_13 := Hd.mk (FB_11.out.step hs)
    have Fh_13 := Hd.mk (Fh_11.out.step hs)
    have Fb_13 := Hd.mk (Fb_11.out.step hs)
    have Fg_13 := Hd.mk (Fg_11.out.step hs)
    have HM13 := Hd.mk hm
    clear FB_11 Fh_11 Fb_11 Fg_11 HM11
    clear hs hm
    go_wp2_with fail
    refine (y_next HM13.out HNX.out).mono ?_
    rintro e w14 ⟨rfl, rfl⟩
    go_wp2_with fail
    have HZ : Hd (OwnN hL w12 w12.heap.size 34 (.slice none 0 0) (leftL (liveS st) s 0)) := ⟨OwnN.nil _ _ _ _⟩
    have hn63 : (n : Int) + 1 ≤ 9223372036854775807 := by omega
    have HN63 := Hd.mk hn63
    clear hn63
    go_loopw [14, 87] (fun v i W => ∃ k : Nat, k ≤ n ∧ i = .int .i64 k ∧ Hd (OwnN hL W w12.heap.size 34 v (leftL (liveS st) s k)) ∧ Hd (Below w12.heap.size w12 W)) (fun _ i _ => n - (intOf i).toNat)
    case atStart => exact ⟨0, by omega, rfl, HZ, ⟨Below.refl _ _⟩⟩
    case round =>
      obtain ⟨k, hk, rfl, HV, HB⟩ := hrel
      obtain ⟨av, cv, rfl⟩ := HV.out.shape
      obtain ⟨hm, hs⟩ := HM13.out.protect HB.out
      have FNv0 := Hd.mk (Held.ownH (pr := p8) HV.out (Nat.le_refl _))
      by_cases hlt : k < n
      · have FB_35 := Hd.mk (FB_13.out.step hs)
        have Fh_35 := Hd.mk (Fh_13.out.step hs)
        have Fb_35 := Hd.mk (Fb_13.out.step hs)
        have Fg_35 := Hd.mk (Fg_13.out.step hs)
        have HM35 := Hd.mk hm
        clear FB_13 Fh_13 Fb_13 Fg_13 HM13
        clear hs hm
        have hkl : k < (liveS st).length := by rw [HN.out]; exact hlt
        obtain ⟨b, off, hbe, _, hc⟩ := (OwnN.src Fh_35.out.now).at k hkl
        cases hbe
        have hmem := List.getElem_mem hkl
        have hund := below_under HSH.out.ok HE.out hmem
        have hget := take_get (p := belowS st s) HSH.out.ok hmem
        rw [show takeS st (belowS st s) = st1 from HST1.out, hund] at hget
        have hsucc := leftL_succ (s := s) hkl
        obtain ⟨⟨x0, x1, x2, x3, x4⟩, hx⟩ : ∃ x, (liveS st)[k] = x := ⟨_, rfl⟩
        rw [hx] at hc hmem hund hget hsucc
        simp only at hund hget
        have hxb := HSH.out.ok.lo _ (live_mem.1 hmem)
        have hn2 := HSH.out.ok.n2
        simp only at hxb
        have HXR : Hd (-9223372036854775808 ≤ x0 ∧ x0 ≤ 9223372036854775807) := ⟨by omega⟩
        obtain ⟨u, hu⟩ : ∃ u, undB (liveS st) (liveS st).length ⟨x0, x1, x2, x3, x4⟩ s = u := ⟨_, rfl⟩
        rw [hu] at hund hget hsucc
        have HU := Hd.mk hu
        have HC := Hd.mk hund
        have HMEM := Hd.mk hmem
        have v0 : wr.cell? ⟨b2, off2 + k * 5, none⟩ = some (.int .i64 x0) := hc 0 _ rfl
        have v1 : wr.cell? ⟨b2, off2 + k * 5 + 1, none⟩ = some (.int .i64 x1) := hc 1 _ rfl
        have v2 : wr.cell? ⟨b2, off2 + k * 5 + 2, none⟩ = some (.int .i64 x2) := hc 2 _ rfl
        have v3 : wr.cell? ⟨b2, off2 + k * 5 + 3, none⟩ = some (.int .i64 x3) := hc 3 _ rfl
        have v4 : wr.cell? ⟨b2, off2 + k * 5 + 4, none⟩ = some (h8 x4) := hc 4 _ rfl
        have k0 : (0 : Int) ≤ (k : Int) := by omega
        have k1 : (k : Int) < (n : Int) := by omega
        have HK : Hd ((0 : Int) ≤ (k : Int) ∧ (k : Int) < (n : Int) ∧ (k : Int) + 1 ≤ 9223372036854775807) := ⟨by omega, by omega, by omega⟩
        have HLT := Hd.mk hlt
        obtain ⟨lk, hlk⟩ : ∃ l, leftL (liveS st) s k = l := ⟨_, rfl⟩
        have hlen : lk.length ≤ 256 := by
          rw [← hlk]
          unfold leftL
          exact Nat.le_trans (List.length_filter_le _ _) (Nat.le_trans (by rw [List.length_take]; omega) hn256)
        rw [hlk] at hsucc FNv0 ⊢
        have HSC := Hd.mk hsucc
        have HLL := Hd.mk hlen
        have HGT := Hd.mk hget
        clear hc hlt hk hkl hx hund hget hmem hsucc hu hxb hn2 hlk hlen HV
        go_upto_region 19 with fail
        obtain ⟨A36, hW⟩ : ∃ W, (wr.alloc (.cells #[.int .i64 x0, .int .i64 x1, .int .i64 x2, .int .i64 x3, h8 x4] 34)) = W := ⟨_, rfl⟩
        obtain ⟨p36, hm, hf, hs⟩ := lit_box HM35.out (.cells #[.int .i64 x0, .int .i64 x1, .int .i64 x2, .int .i64 x3, h8 x4] 34)
        rw [hW] at hm hf hs
        rw [hW]
        have HBl37 := Hd.mk (HB.out.alloc HB.out.size (.cells #[.int .i64 x0, .int .i64 x1, .int .i64 x2, .int .i64 x3, h8 x4] 34))
        rw [hW] at HBl37
        clear HB
        clear hW
        have FNx36 := Hd.mk hf
        clear hf
        have FB_37 := Hd.mk (FB_35.out.step hs)
        have Fh_37 := Hd.mk (Fh_35.out.step hs)
        have Fb_37 := Hd.mk (Fb_35.out.step hs)
        have Fg_37 := Hd.mk (Fg_35.out.step hs)
        have Fv_37 := Hd.mk (FNv0.out.step hs)
        have HM37 := Hd.mk hm
        clear FB_35 Fh_35 Fb_35 Fg_35 FNv0 HM35
        clear hs hm
        clear v0 v1 v2 v3 v4
        have hcx := FNx36.out.now
        have cx0 := (cells_cell hcx 0).trans (show _ = some (Value.int .i64 x0) from rfl)
        have cx1 := (cells_cell hcx 1).trans (show _ = some (Value.int .i64 x1) from rfl)
        have cx2 := (cells_cell hcx 2).trans (show _ = some (Value.int .i64 x2) from rfl)
        have cx3 := (cells_cell hcx 3).trans (show _ = some (Value.int .i64 x3) from rfl)
        have cx4 := (cells_cell hcx 4).trans (show _ = some (h8 x4) from rfl)
        clear hcx
        have hsrc := OwnN.src Fh_37.out.now
        have HABV := Hd.mk (above_at hsrc HU.out HSH.out.ok.tr HSH.out.ok.live HMEM.out)
        rw [HN.out] at HABV
        clear hsrc
        go_wp2_with fail
        refine (HABV.out).mono ?_
        rintro e w38 ⟨rfl, hB⟩
        have HBl38 := Hd.mk (HBl37.out.trans (hB.mono HBl37.out.size))
        clear HBl37
        obtain ⟨hm, hs⟩ := HM37.out.below hB
        clear hB
        have FB_39 := Hd.mk (FB_37.out.step hs)
        have Fh_39 := Hd.mk (Fh_37.out.step hs)
        have Fb_39 := Hd.mk (Fb_37.out.step hs)
        have Fg_39 := Hd.mk (Fg_37.out.step hs)
        have Fv_39 := Hd.mk (Fv_37.out.step hs)
        have Fx_39 := Hd.mk (FNx36.out.step hs)
        have HM39 := Hd.mk hm
        clear FB_37 Fh_37 Fb_37 Fg_37 Fv_37 FNx36 HM37
        clear hs hm
        clear HABV cx0 cx1 cx2 cx3 cx4
        have hcx := Fx_39.out.now
        have y0 := (cells_cell hcx 0).trans (show _ = some (Value.int .i64 x0) from rfl)
        have y1 := (cells_cell hcx 1).trans (show _ = some (Value.int .i64 x1) from rfl)
        have y2 := (cells_cell hcx 2).trans (show _ = some (Value.int .i64 x2) from rfl)
        have y3 := (cells_cell hcx 3).trans (show _ = some (Value.int .i64 x3) from rfl)
        have y4 := (cells_cell hcx 4).trans (show _ = some (h8 x4) from rfl)
        clear hcx
        go_wp2_with fail
        refine (contains_at HC.out (OwnE.src Fg_39.out.now)).mono ?_
        rintro e w40 ⟨rfl, rfl⟩
        cases u with
        | true =>
          go_wp2_with fail
          obtain ⟨hg1, hg2⟩ := HGT.out.1 (by trivial)
          refine (y_get HM39.out (a := 0) (b := 0) (c := 0) (d := 0) (r := 0#8) (e := 6) HXR.out hg2 hg1).mono ?_
          rintro e w41 ⟨rfl, hB⟩
          have HBl41 := Hd.mk (HBl38.out.trans (hB.mono HBl38.out.size))
          clear HBl38
          obtain ⟨hm, hs⟩ := HM39.out.below hB
          clear hB
          have FB_42 := Hd.mk (FB_39.out.step hs)
          have Fh_42 := Hd.mk (Fh_39.out.step hs)
          have Fb_42 := Hd.mk (Fb_39.out.step hs)
          have Fg_42 := Hd.mk (Fg_39.out.step hs)
          have Fv_42 := Hd.mk (Fv_39.out.step hs)
          have Fx_42 := Hd.mk (Fx_39.out.step hs)
          have HM42 := Hd.mk hm
          clear FB_39 Fh_39 Fb_39 Fg_39 Fv_39 Fx_39 HM39
          clear hs hm
          clear hg1 hg2 y0 y1 y2 y3 y4
          have HFIN : Hd (OwnN hL w41 w12.heap.size 34 (.slice av lk.length cv) (leftL (liveS st) s (k + 1))) := ⟨by rw [HSC.out]; exact Fv_42.out.now⟩
          have HF2 := Hd.mk (OwnN.alloc HFIN.out (.cells #[.int .i64 0, .int .i64 0, .int .i64 0, .int .i64 0, h8 0#8] 34))
          have HB2 := Hd.mk (HBl41.out.alloc HBl41.out.size (.cells #[.int .i64 0, .int .i64 0, .int .i64 0, .int .i64 0, h8 0#8] 34))
          go_upto_region 27 with fail
          obtain ⟨k0, k1, k2⟩ := HK.out
          go_wp2_with fail
          go_roundw
          case rel => exact ⟨k + 1, by have := HLT.out; omega, by go_num, HF2, HB2⟩
          case measure => have := HLT.out; simp [intOf]; omega
        | false =>
          go_wp2_with fail
          obtain ⟨hg1, hg2⟩ := HGT.out.2 (by trivial)
          refine (y_get HM39.out (a := x0) (b := x1) (c := x2) (d := x3) (r := x4) (e := 0) HXR.out hg2 hg1).mono ?_
          rintro e w43 ⟨rfl, hB⟩
          have HBl43 := Hd.mk (HBl38.out.trans (hB.mono HBl38.out.size))
          clear HBl38
          obtain ⟨hm, hs⟩ := HM39.out.below hB
          clear hB
          have FB_44 := Hd.mk (FB_39.out.step hs)
          have Fh_44 := Hd.mk (Fh_39.out.step hs)
          have Fb_44 := Hd.mk (Fb_39.out.step hs)
          have Fg_44 := Hd.mk (Fg_39.out.step hs)
          have Fv_44 := Hd.mk (Fv_39.out.step hs)
          have Fx_44 := Hd.mk (Fx_39.out.step hs)
          have HM44 := Hd.mk hm
          clear FB_39 Fh_39 Fb_39 Fg_39 Fv_39 Fx_39 HM39
          clear hs hm
          clear hg1 hg2 y0 y1 y2 y3 y4
          go_upto_region 23 with fail
          obtain ⟨A45, hW⟩ : ∃ W, (w43.alloc (.cells #[.int .i64 x0, .int .i64 x1, .int .i64 x2, .int .i64 x3, h8 x4] 34)) = W := ⟨_, rfl⟩
          obtain ⟨p45, hm, hf, hs⟩ := lit_box HM44.out (.cells #[.int .i64 x0, .int .i64 x1, .int .i64 x2, .int .i64 x3, h8 x4] 34)
          rw [hW] at hm hf hs
          rw [hW]
          have HBl46 := Hd.mk (HBl43.out.alloc HBl43.out.size (.cells #[.int .i64 x0, .int .i64 x1, .int .i64 x2, .int .i64 x3, h8 x4] 34))
          rw [hW] at HBl46
          clear HBl43
          clear hW
          have FNz45 := Hd.mk hf
          clear hf
          have FB_46 := Hd.mk (FB_44.out.step hs)
          have Fh_46 := Hd.mk (Fh_44.out.step hs)
          have Fb_46 := Hd.mk (Fb_44.out.step hs)
          have Fg_46 := Hd.mk (Fg_44.out.step hs)
          have Fv_46 := Hd.mk (Fv_44.out.step hs)
          have Fx_46 := Hd.mk (Fx_44.out.step hs)
          have HM46 := Hd.mk hm
          clear FB_44 Fh_44 Fb_44 Fg_44 Fv_44 Fx_44 HM44
          clear hs hm
          have hcx := Fx_46.out.now
          have y0 := (cells_cell hcx 0).trans (show _ = some (Value.int .i64 x0) from rfl)
          have y1 := (cells_cell hcx 1).trans (show _ = some (Value.int .i64 x1) from rfl)
          have y2 := (cells_cell hcx 2).trans (show _ = some (Value.int .i64 x2) from rfl)
          have y3 := (cells_cell hcx 3).trans (show _ = some (Value.int .i64 x3) from rfl)
          have y4 := (cells_cell hcx 4).trans (show _ = some (h8 x4) from rfl)
          clear hcx
          have hcx := FNz45.out.now
          have z0 := (cells_cell hcx 0).trans (show _ = some (Value.int .i64 x0) from rfl)
          have z1 := (cells_cell hcx 1).trans (show _ = some (Value.int .i64 x1) from rfl)
          have z2 := (cells_cell hcx 2).trans (show _ = some (Value.int .i64 x2) from rfl)
          have z3 := (cells_cell hcx 3).trans (show _ = some (Value.int .i64 x3) from rfl)
          have z4 := (cells_cell hcx 4).trans (show _ = some (h8 x4) from rfl)
          clear hcx
          have hnev : ∀ W, (binOp .neq 34 (.agg #[.int .i64 x0, .int .i64 x1, .int .i64 x2, .int .i64 x3, h8 x4]) (.agg #[.int .i64 x0, .int .i64 x1, .int .i64 x2, .int .i64 x3, h8 x4])).run Try.prog W = .ok (.bool false) W := fun W => (nev_h34 ⟨x0, x1, x2, x3, x4⟩ ⟨x0, x1, x2, x3, x4⟩ W).trans (by rw [decide_eq_true rfl]; rfl)
          have hgd := guard34
          obtain ⟨m, hm⟩ : ∃ m, lk.length = m := ⟨_, rfl⟩
          have hvv := Fv_46.out.now
          have hbb : Below w12.heap.size w12 A45 := HBl46.out
          obtain ⟨v', w', hr, ho, hg⟩ := push_h ⟨x0, x1, x2, x3, x4⟩ hvv hbb.size (by have := HLL.out; omega)
          have hr2 : (Builtin.append_ #[28, 28] 28 #[.slice av m cv, .slice (some ⟨A45.heap.size, 0, none⟩) 1 1]).run Try.prog (A45.alloc (.cells #[.int .i64 x0, .int .i64 x1, .int .i64 x2, .int .i64 x3, h8 x4] 34)) = .ok v' w' := by rw [← hm]; exact hr
          have HF2 : Hd (OwnN hL w' w12.heap.size 34 v' (leftL (liveS st) s (k + 1))) := ⟨by rw [HSC.out]; exact ho⟩
          have HB2 := Hd.mk (hg hbb)
          rw [hm]
          clear hr ho hg hvv hbb hm
          go_upto_region 26 with fail
          go_upto_region 27 with (at_builtin; refine wpList_append_run rfl _ _ _ rfl rfl rfl hr2 ?_; clear hr2)
          obtain ⟨k0, k1, k2⟩ := HK.out
          go_wp2_with fail
          go_roundw
          case rel => exact ⟨k + 1, by have := HLT.out; omega, by go_num, HF2, HB2⟩
          case measure => have := HLT.out; simp [intOf]; omega
      · have FB_35 := Hd.mk (FB_13.out.step hs)
        have Fh_35 := Hd.mk (Fh_13.out.step hs)
        have Fb_35 := Hd.mk (Fb_13.out.step hs)
        have Fg_35 := Hd.mk (Fg_13.out.step hs)
        have HM35 := Hd.mk hm
        clear FB_13 Fh_13 Fb_13 Fg_13 HM13
        clear hs hm
        obtain rfl : k = n := by omega
        clear hlt hk HV HB
        have HEQ : Hd (leftL (liveS st) s k = liveS st1) := ⟨HLV.out.symm⟩
        have hvl := FNv0
        rw [HEQ.out] at hvl ⊢
        have HVL := Hd.mk hvl.out
        clear hvl FNv0
        go_wp2_with fail
        refine (y_revoke HM35.out (l := []) HSR.out (by unfold belowS; rw [HG1.out]; rfl) HG1.out (show revokeS st1 s = st1 from by unfold revokeS belowS; rw [HG1.out]; exact take_nil _)).mono ?_
        rintro e w36 ⟨a36, c36, p36, rfl, hm, hf, hs⟩
        have FNr236 := Hd.mk hf
        clear hf
        have FB_37 := Hd.mk (FB_35.out.step hs)
        have Fh_37 := Hd.mk (Fh_35.out.step hs)
        have Fb_37 := Hd.mk (Fb_35.out.step hs)
        have Fg_37 := Hd.mk (Fg_35.out.step hs)
        have Fv_37 := Hd.mk (HVL.out.step hs)
        have HM37 := Hd.mk hm
        clear FB_35 Fh_35 Fb_35 Fg_35 HVL HM35
        clear hs hm
        go_wp2_with fail
        refine (y_der HM37.out (s := s) (tw := 0) (r := 0#8) (n := 0) (e := 6) (st' := st1) HSR.out (by unfold derN derW; rw [HG1.out]; rfl) (by unfold derE derW; rw [HG1.out]; rfl) (by unfold derS derW; rw [HG1.out]; rfl)).mono ?_
        rintro e w38 ⟨rfl, hm, hs⟩
        have FB_39 := Hd.mk (FB_37.out.step hs)
        have Fh_39 := Hd.mk (Fh_37.out.step hs)
        have Fb_39 := Hd.mk (Fb_37.out.step hs)
        have Fg_39 := Hd.mk (Fg_37.out.step hs)
        have Fv_39 := Hd.mk (Fv_37.out.step hs)
        have Fr2_39 := Hd.mk (FNr236.out.step hs)
        have HM39 := Hd.mk hm
        clear FB_37 Fh_37 Fb_37 Fg_37 Fv_37 FNr236 HM37
        clear hs hm
        go_wp2_with fail
        refine (y_all HM39.out rfl).mono ?_
        rintro e w40 ⟨a40, c40, p40, rfl, hm, hf, hs⟩
        have FNa240 := Hd.mk hf
        clear hf
        have FB_41 := Hd.mk (FB_39.out.step hs)
        have Fh_41 := Hd.mk (Fh_39.out.step hs)
        have Fb_41 := Hd.mk (Fb_39.out.step hs)
        have Fg_41 := Hd.mk (Fg_39.out.step hs)
        have Fv_41 := Hd.mk (Fv_39.out.step hs)
        have Fr2_41 := Hd.mk (Fr2_39.out.step hs)
        have HM41 := Hd.mk hm
        clear FB_39 Fh_39 Fb_39 Fg_39 Fv_39 Fr2_39 HM39
        clear hs hm
        go_wp2_with fail
        refine (equalH_at (l := liveS st1) (m := liveS st1) (b := true) (by simp) (OwnN.src FNa240.out.now) (OwnN.src Fv_41.out.now)).mono ?_
        rintro e w42 ⟨rfl, hB⟩
        obtain ⟨hm, hs⟩ := HM41.out.below hB
        clear hB
        have FB_43 := Hd.mk (FB_41.out.step hs)
        have Fh_43 := Hd.mk (Fh_41.out.step hs)
        have Fb_43 := Hd.mk (Fb_41.out.step hs)
        have Fg_43 := Hd.mk (Fg_41.out.step hs)
        have Fv_43 := Hd.mk (Fv_41.out.step hs)
        have Fr2_43 := Hd.mk (Fr2_41.out.step hs)
        have Fa2_43 := Hd.mk (FNa240.out.step hs)
        have HM43 := Hd.mk hm
        clear FB_41 Fh_41 Fb_41 Fg_41 Fv_41 Fr2_41 FNa240 HM41
        clear hs hm
        go_wp2_with fail
        refine (y_len HM43.out rfl).mono ?_
        rintro e w44 ⟨rfl, rfl⟩
        go_wp2_with fail
        go_ret
        exact ⟨rfl, FB_43.out.now⟩
end Go.Proofs.Ytinagiofolmhbaa
