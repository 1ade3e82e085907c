/- Walk of the reference's long division. -/
import Derived.Test.YtbmommomhepfpaaR4
import Derived.Test.YtbmommomhepfpaaPD
namespace Go.Proofs.Ytbmommomhepfpaa
open Go.RowKit
set_option linter.unusedVariables false

theorem Mk.other {W : World} {B g i : Nat} {f : Nat → Int} (h : Mk W B f) (v : Value) (hne : B ≠ g) : Mk (W.setCell ⟨g, i, none⟩ v) B f := by
  obtain ⟨A, hA, hs, hg⟩ := h
  exact ⟨A, by rw [Below.heap_setCell _ _ _ _ (by simpa using hne)]; exact hA, hs, hg⟩
theorem Bs.other {W : World} {g i : Nat} {v u : Value} {x : BitVec 64} (h : Bs W v x) {base : Nat} (hf : Fr base v) (hg : g < base) : Bs (W.setCell ⟨g, i, none⟩ u) v x := by
  obtain ⟨b, off, c, rfl, h1, h2, hb, hc⟩ := h
  obtain ⟨b', off', c', hv, hbb⟩ := hf
  simp only [Value.slice.injEq, Option.some.injEq, Addr.mk.injEq] at hv
  obtain ⟨⟨rfl, rfl, -⟩, -, rfl⟩ := hv
  refine ⟨b, off, c, rfl, h1, h2, by simpa [World.setCell] using hb, fun j hj => ?_⟩
  rw [← hc j hj]
  exact World.cell?_of_block (w := W) (a := ⟨b, off + j, none⟩) (Below.heap_setCell _ _ _ _ (by show b ≠ g; omega))

/-- What stands at a round's head: the quotient's block g, the rest. -/
structure DV (w : World) (g : Nat) (x y : BitVec 64) (k : Nat) (v : Value) (z : BitVec 64) (W : World) : Prop where
  quo : Mk W g (qF (x / y) k)
  rest : Bs W v z
  num : z.toNat = x.toNat / 2 ^ k % y.toNat
  bel : Below w.heap.size w W

theorem up1 (v : Value) (x : BitVec 64) (w : World) (hv : Bs w v x) : Calls Try.prog 38 #[v, .int .i64 1] w fun e w' => ∃ g, e = .returned (.slice (some ⟨g, 0, none⟩) 64 64) ∧ w.heap.size ≤ g ∧ Mk w' g (bi (x <<< 1)) ∧ Below w.heap.size w w' :=
  up_mk v x 1 (by decide) w hv
theorem sum1f (v1 v2 : Value) (x y : BitVec 64) (w : World) (hv1 : Bs w v1 x) (hv2 : Bs w v2 y) : Calls Try.prog 39 #[v1, v2, .int .i64 1] w fun e w' => ∃ v, e = .returned v ∧ Bs w' v (x + y + 1#64) ∧ Below w.heap.size w w' ∧ Fr w.heap.size v :=
  sum_fr v1 v2 x y 1 (by decide) w hv1 hv2

set_option maxRecDepth 100000 in
set_option maxHeartbeats 8000000 in
theorem divided_any (v1 v2 : Value) (x y : BitVec 64) (hy : 0 < y.toNat) (w : World) (hv1 : Bs w v1 x) (hv2 : Bs w v2 y) : Calls Try.prog 45 #[v1, v2] w fun e w' => ∃ v u', e = .returned (.tuple #[v, u']) ∧ Bs w' v (x / y) ∧ Bs w' u' (x % y) ∧ Below w.heap.size w w' := by
  have HV1 := Hd.mk hv1
  have HV2 := Hd.mk hv2
  have HY := Hd.mk hy
  have hmk := mk64
  obtain ⟨b1, off1, c1, rfl, hc1, _, hbw1, hcell1⟩ := hv1
  have HC1 := Hd.mk hcell1
  clear hv2 hy hcell1
  have hB0 : Below w.heap.size w ((w.alloc (.cells z64 3)).alloc (.cells z64 3)).drew := (((Below.refl _ _).alloc (Nat.le_refl _) _).alloc (by simp) _).drew
  have hM0 : Mk ((w.alloc (.cells z64 3)).alloc (.cells z64 3)).drew w.heap.size (fun _ => 0) := ((Mk.made w).below (((Below.refl _ _).alloc (Nat.le_refl _) _).drew) (by simp))
  have hM1 : Mk ((w.alloc (.cells z64 3)).alloc (.cells z64 3)).drew (w.heap.size + 1) (fun _ => 0) := by
    have := (Mk.made (w.alloc (.cells z64 3))).below (Below.refl ((w.alloc (.cells z64 3)).heap.size + 1) _).drew (by omega)
    simpa using this
  have HB0 := Hd.mk hB0
  have HM0 := Hd.mk hM0
  have HM1 := Hd.mk hM1
  clear hB0 hM0 hM1
  go_enter Try.func45, Try.ntmps45
  go_wp2_with fail
  go_region_with (fail)
  · go_wp2_with fail
    go_loopw [7, 8] (fun v i W => ∃ (k : Nat) (z : BitVec 64), k ≤ 64 ∧ i = .int .i64 ((k : Int) - 1) ∧ DV w (w.heap.size) x y k v z W) (fun _ i _ => (intOf i + 1).toNat)
    case atStart => exact ⟨64, 0#64, by omega, rfl, ⟨HM0.out.congr (fun j hj => by unfold qF; rw [if_neg (by omega)]), bs_zero HM1.out, by rw [Nat.div_eq_of_lt x.isLt]; simp, HB0.out⟩⟩
    case round =>
      obtain ⟨k, z, hk, rfl, hD⟩ := hrel
      have HD := Hd.mk hD
      clear hD
      by_cases hlt : 0 < k
      · obtain ⟨m, rfl⟩ : ∃ m, k = m + 1 := ⟨k - 1, by omega⟩
        have hm0 : ((m + 1 : Nat) : Int) - 1 = (m : Int) := by omega
        rw [hm0]
        have hm64 : m < 64 := by omega
        have HO := Hd.mk (div_one x y z m HY.out HD.out.num)
        obtain ⟨b3, off3, c3, rfl, hc3, hc3m, hbw3, hcell3⟩ := HD.out.rest
        have hc63 := hcell3 63 (by omega)
        have HRR := Hd.mk HD.out.rest
        clear hm0 hcell3
        have hqw : (w.heap.size) < wr.heap.size := HD.out.quo.lt
        rcases bi_01 z 63 with hov | hov
        all_goals (rw [hov] at hc63; have HOV := Hd.mk hov; clear hov)
        · go_wp2_with fail
          refine (up1 _ z _ HRR.out).mono ?_
          rintro e w2 ⟨g, rfl, hg, hMg, hB2⟩
          have hxm : w2.cell? ⟨b1, off1 + m, none⟩ = some (.int .i64 (bi x m)) := by
            rw [(HD.out.bel.trans (hB2.mono HD.out.bel.size)).cell (p := ⟨b1, off1 + m, none⟩) hbw1]; exact HC1.out m hm64
          have hg0 := hMg.cell 0 (by omega)
          have hgf := hMg.free 0
          have hne : (w.heap.size) ≠ g := by omega
          obtain ⟨W3, hW3⟩ : ∃ W3, W3 = w2.setCell ⟨g, 0, none⟩ (.int .i64 (bi x m)) := ⟨_, rfl⟩
          have hrest : Bs W3 (.slice (some ⟨g, 0, none⟩) 64 64) (nxt x z m) := by
            rw [hW3]; exact (hMg.set 0 (by omega) (bi x m)).bs (fun j _ => nxt_bit x z m j)
          have hquo : Mk W3 (w.heap.size) (qF (x / y) (m + 1)) := by
            rw [hW3]; exact (HD.out.quo.below hB2 hqw).other _ hne
          have hbel : Below w.heap.size w W3 := by
            rw [hW3]; exact (HD.out.bel.trans (hB2.mono HD.out.bel.size)).setCell (by have := HD.out.bel.size; show w.heap.size ≤ g; omega) _
          have HR3 := Hd.mk hrest
          have HQ3 := Hd.mk hquo
          have HB3 := Hd.mk hbel
          have HW3 := Hd.mk hW3
          clear hg hMg hB2 hne hrest hquo hbel hW3
          go_wp2_with fail
          rw [← HW3.out]
          clear hxm hg0 hgf HW3
          refine (less_any _ v2 (nxt x z m) y _ HR3.out (HV2.out.below HB3.out)).mono ?_
          rintro e w4 ⟨rfl, hB4⟩
          have HR4 := Hd.mk (HR3.out.below hB4)
          have HQ4 := Hd.mk (HQ3.out.below hB4 HQ3.out.lt)
          have HB4 := Hd.mk (HB3.out.trans (hB4.mono HB3.out.size))
          clear hB4
          cases hul : (nxt x z m).ult y
          · have HGE : Hd (y.toNat ≤ 2 * z.toNat + x.toNat / 2 ^ m % 2) := ⟨Nat.le_of_not_lt fun h => by have := (HO.out.under HOV.out).2 h; rw [hul] at this; cases this⟩
            clear hul
            go_wp2_with fail
            refine (not_any v2 y _ (HV2.out.below HB4.out)).mono ?_
            rintro e w6 ⟨v6, rfl, hb6, hB6⟩
            have HV6 := Hd.mk hb6
            have HR6 := Hd.mk (HR4.out.below hB6)
            have HQ6 := Hd.mk (HQ4.out.below hB6 HQ4.out.lt)
            have HB6 := Hd.mk (HB4.out.trans (hB6.mono HB4.out.size))
            clear hb6 hB6
            go_wp2_with fail
            refine (sum1f _ _ (nxt x z m) (~~~y) _ HR6.out HV6.out).mono ?_
            rintro e w7 ⟨v7, rfl, hb7, hB7, hF7⟩
            have HQ7 := Hd.mk (HQ6.out.below hB7 HQ6.out.lt)
            have HB7 := Hd.mk (HB6.out.trans (hB7.mono HB6.out.size))
            have hqc := HQ7.out.cell m hm64
            have hqf := HQ7.out.free m
            have HD8 : Hd (DV w (w.heap.size) x y m v7 (nxt x z m + ~~~y + 1#64) (w7.setCell ⟨w.heap.size, m, none⟩ (.int .i64 1))) :=
              ⟨⟨(HQ7.out.set m hm64 1).congr (fun j _ => qF_one _ m j (HO.out.yes HGE.out).2), hb7.other hF7 HQ6.out.lt, (HO.out.yes HGE.out).1, HB7.out.setCell (by simp) _⟩⟩
            clear hb7 hB7 hF7
            go_wp2_with fail
            go_roundw
            case rel => exact ⟨m, _, by omega, by go_num, HD8.out⟩
            case measure => simp [intOf]
          · have HLT : Hd (2 * z.toNat + x.toNat / 2 ^ m % 2 < y.toNat) := ⟨(HO.out.under HOV.out).1 hul⟩
            clear hul
            go_wp2_with fail
            go_roundw
            case rel => exact ⟨m, _, by omega, by go_num, ⟨HQ4.out.congr (fun j _ => qF_zero _ m j (HO.out.no HLT.out).2), HR4.out, (HO.out.no HLT.out).1, HB4.out⟩⟩
            case measure => simp [intOf]
        · go_wp2_with fail
          refine (up1 _ z _ HRR.out).mono ?_
          rintro e w2 ⟨g, rfl, hg, hMg, hB2⟩
          have hxm : w2.cell? ⟨b1, off1 + m, none⟩ = some (.int .i64 (bi x m)) := by
            rw [(HD.out.bel.trans (hB2.mono HD.out.bel.size)).cell (p := ⟨b1, off1 + m, none⟩) hbw1]; exact HC1.out m hm64
          have hg0 := hMg.cell 0 (by omega)
          have hgf := hMg.free 0
          have hne : (w.heap.size) ≠ g := by omega
          obtain ⟨W3, hW3⟩ : ∃ W3, W3 = w2.setCell ⟨g, 0, none⟩ (.int .i64 (bi x m)) := ⟨_, rfl⟩
          have hrest : Bs W3 (.slice (some ⟨g, 0, none⟩) 64 64) (nxt x z m) := by
            rw [hW3]; exact (hMg.set 0 (by omega) (bi x m)).bs (fun j _ => nxt_bit x z m j)
          have hquo : Mk W3 (w.heap.size) (qF (x / y) (m + 1)) := by
            rw [hW3]; exact (HD.out.quo.below hB2 hqw).other _ hne
          have hbel : Below w.heap.size w W3 := by
            rw [hW3]; exact (HD.out.bel.trans (hB2.mono HD.out.bel.size)).setCell (by have := HD.out.bel.size; show w.heap.size ≤ g; omega) _
          have HR3 := Hd.mk hrest
          have HQ3 := Hd.mk hquo
          have HB3 := Hd.mk hbel
          have HW3 := Hd.mk hW3
          clear hg hMg hB2 hne hrest hquo hbel hW3
          go_wp2_with fail
          rw [← HW3.out]
          clear hxm hg0 hgf HW3
          have HGE := Hd.mk (HO.out.over HOV.out)
          refine (not_any v2 y _ (HV2.out.below HB3.out)).mono ?_
          rintro e w6 ⟨v6, rfl, hb6, hB6⟩
          have HV6 := Hd.mk hb6
          have HR6 := Hd.mk (HR3.out.below hB6)
          have HQ6 := Hd.mk (HQ3.out.below hB6 HQ3.out.lt)
          have HB6 := Hd.mk (HB3.out.trans (hB6.mono HB3.out.size))
          clear hb6 hB6
          go_wp2_with fail
          refine (sum1f _ _ (nxt x z m) (~~~y) _ HR6.out HV6.out).mono ?_
          rintro e w7 ⟨v7, rfl, hb7, hB7, hF7⟩
          have HQ7 := Hd.mk (HQ6.out.below hB7 HQ6.out.lt)
          have HB7 := Hd.mk (HB6.out.trans (hB7.mono HB6.out.size))
          have hqc := HQ7.out.cell m hm64
          have hqf := HQ7.out.free m
          have HD8 : Hd (DV w (w.heap.size) x y m v7 (nxt x z m + ~~~y + 1#64) (w7.setCell ⟨w.heap.size, m, none⟩ (.int .i64 1))) :=
            ⟨⟨(HQ7.out.set m hm64 1).congr (fun j _ => qF_one _ m j (HO.out.yes HGE.out).2), hb7.other hF7 HQ6.out.lt, (HO.out.yes HGE.out).1, HB7.out.setCell (by simp) _⟩⟩
          clear hb7 hB7 hF7
          go_wp2_with fail
          go_roundw
          case rel => exact ⟨m, _, by omega, by go_num, HD8.out⟩
          case measure => simp [intOf]
      · obtain rfl : k = 0 := by omega
        have HE : Hd (z = x % y) := ⟨BitVec.eq_of_toNat_eq (by rw [HD.out.num, BitVec.toNat_umod]; simp)⟩
        go_wp2_with fail
        go_ret2
        exact ⟨_, _, rfl, HD.out.quo.bs (fun j hj => by unfold qF; rw [if_pos (by omega)]), by rw [← HE.out]; exact HD.out.rest, HD.out.bel⟩
  · go_wp2_with fail
    go_loopw [7, 8] (fun v i W => ∃ (k : Nat) (z : BitVec 64), k ≤ 64 ∧ i = .int .i64 ((k : Int) - 1) ∧ DV w (w.heap.size + 1) x y k v z W) (fun _ i _ => (intOf i + 1).toNat)
    case atStart => exact ⟨64, 0#64, by omega, rfl, ⟨HM1.out.congr (fun j hj => by unfold qF; rw [if_neg (by omega)]), bs_zero HM0.out, by rw [Nat.div_eq_of_lt x.isLt]; simp, HB0.out⟩⟩
    case round =>
      obtain ⟨k, z, hk, rfl, hD⟩ := hrel
      have HD := Hd.mk hD
      clear hD
      by_cases hlt : 0 < k
      · obtain ⟨m, rfl⟩ : ∃ m, k = m + 1 := ⟨k - 1, by omega⟩
        have hm0 : ((m + 1 : Nat) : Int) - 1 = (m : Int) := by omega
        rw [hm0]
        have hm64 : m < 64 := by omega
        have HO := Hd.mk (div_one x y z m HY.out HD.out.num)
        obtain ⟨b3, off3, c3, rfl, hc3, hc3m, hbw3, hcell3⟩ := HD.out.rest
        have hc63 := hcell3 63 (by omega)
        have HRR := Hd.mk HD.out.rest
        clear hm0 hcell3
        have hqw : (w.heap.size + 1) < wr.heap.size := HD.out.quo.lt
        rcases bi_01 z 63 with hov | hov
        all_goals (rw [hov] at hc63; have HOV := Hd.mk hov; clear hov)
        · go_wp2_with fail
          refine (up1 _ z _ HRR.out).mono ?_
          rintro e w2 ⟨g, rfl, hg, hMg, hB2⟩
          have hxm : w2.cell? ⟨b1, off1 + m, none⟩ = some (.int .i64 (bi x m)) := by
            rw [(HD.out.bel.trans (hB2.mono HD.out.bel.size)).cell (p := ⟨b1, off1 + m, none⟩) hbw1]; exact HC1.out m hm64
          have hg0 := hMg.cell 0 (by omega)
          have hgf := hMg.free 0
          have hne : (w.heap.size + 1) ≠ g := by omega
          obtain ⟨W3, hW3⟩ : ∃ W3, W3 = w2.setCell ⟨g, 0, none⟩ (.int .i64 (bi x m)) := ⟨_, rfl⟩
          have hrest : Bs W3 (.slice (some ⟨g, 0, none⟩) 64 64) (nxt x z m) := by
            rw [hW3]; exact (hMg.set 0 (by omega) (bi x m)).bs (fun j _ => nxt_bit x z m j)
          have hquo : Mk W3 (w.heap.size + 1) (qF (x / y) (m + 1)) := by
            rw [hW3]; exact (HD.out.quo.below hB2 hqw).other _ hne
          have hbel : Below w.heap.size w W3 := by
            rw [hW3]; exact (HD.out.bel.trans (hB2.mono HD.out.bel.size)).setCell (by have := HD.out.bel.size; show w.heap.size ≤ g; omega) _
          have HR3 := Hd.mk hrest
          have HQ3 := Hd.mk hquo
          have HB3 := Hd.mk hbel
          have HW3 := Hd.mk hW3
          clear hg hMg hB2 hne hrest hquo hbel hW3
          go_wp2_with fail
          rw [← HW3.out]
          clear hxm hg0 hgf HW3
          refine (less_any _ v2 (nxt x z m) y _ HR3.out (HV2.out.below HB3.out)).mono ?_
          rintro e w4 ⟨rfl, hB4⟩
          have HR4 := Hd.mk (HR3.out.below hB4)
          have HQ4 := Hd.mk (HQ3.out.below hB4 HQ3.out.lt)
          have HB4 := Hd.mk (HB3.out.trans (hB4.mono HB3.out.size))
          clear hB4
          cases hul : (nxt x z m).ult y
          · have HGE : Hd (y.toNat ≤ 2 * z.toNat + x.toNat / 2 ^ m % 2) := ⟨Nat.le_of_not_lt fun h => by have := (HO.out.under HOV.out).2 h; rw [hul] at this; cases this⟩
            clear hul
            go_wp2_with fail
            refine (not_any v2 y _ (HV2.out.below HB4.out)).mono ?_
            rintro e w6 ⟨v6, rfl, hb6, hB6⟩
            have HV6 := Hd.mk hb6
            have HR6 := Hd.mk (HR4.out.below hB6)
            have HQ6 := Hd.mk (HQ4.out.below hB6 HQ4.out.lt)
            have HB6 := Hd.mk (HB4.out.trans (hB6.mono HB4.out.size))
            clear hb6 hB6
            go_wp2_with fail
            refine (sum1f _ _ (nxt x z m) (~~~y) _ HR6.out HV6.out).mono ?_
            rintro e w7 ⟨v7, rfl, hb7, hB7, hF7⟩
            have HQ7 := Hd.mk (HQ6.out.below hB7 HQ6.out.lt)
            have HB7 := Hd.mk (HB6.out.trans (hB7.mono HB6.out.size))
            have hqc := HQ7.out.cell m hm64
            have hqf := HQ7.out.free m
            have HD8 : Hd (DV w (w.heap.size + 1) x y m v7 (nxt x z m + ~~~y + 1#64) (w7.setCell ⟨w.heap.size + 1, m, none⟩ (.int .i64 1))) :=
              ⟨⟨(HQ7.out.set m hm64 1).congr (fun j _ => qF_one _ m j (HO.out.yes HGE.out).2), hb7.other hF7 HQ6.out.lt, (HO.out.yes HGE.out).1, HB7.out.setCell (by simp) _⟩⟩
            clear hb7 hB7 hF7
            go_wp2_with fail
            go_roundw
            case rel => exact ⟨m, _, by omega, by go_num, HD8.out⟩
            case measure => simp [intOf]
          · have HLT : Hd (2 * z.toNat + x.toNat / 2 ^ m % 2 < y.toNat) := ⟨(HO.out.under HOV.out).1 hul⟩
            clear hul
            go_wp2_with fail
            go_roundw
            case rel => exact ⟨m, _, by omega, by go_num, ⟨HQ4.out.congr (fun j _ => qF_zero _ m j (HO.out.no HLT.out).2), HR4.out, (HO.out.no HLT.out).1, HB4.out⟩⟩
            case measure => simp [intOf]
        · go_wp2_with fail
          refine (up1 _ z _ HRR.out).mono ?_
          rintro e w2 ⟨g, rfl, hg, hMg, hB2⟩
          have hxm : w2.cell? ⟨b1, off1 + m, none⟩ = some (.int .i64 (bi x m)) := by
            rw [(HD.out.bel.trans (hB2.mono HD.out.bel.size)).cell (p := ⟨b1, off1 + m, none⟩) hbw1]; exact HC1.out m hm64
          have hg0 := hMg.cell 0 (by omega)
          have hgf := hMg.free 0
          have hne : (w.heap.size + 1) ≠ g := by omega
          obtain ⟨W3, hW3⟩ : ∃ W3, W3 = w2.setCell ⟨g, 0, none⟩ (.int .i64 (bi x m)) := ⟨_, rfl⟩
          have hrest : Bs W3 (.slice (some ⟨g, 0, none⟩) 64 64) (nxt x z m) := by
            rw [hW3]; exact (hMg.set 0 (by omega) (bi x m)).bs (fun j _ => nxt_bit x z m j)
          have hquo : Mk W3 (w.heap.size + 1) (qF (x / y) (m + 1)) := by
            rw [hW3]; exact (HD.out.quo.below hB2 hqw).other _ hne
          have hbel : Below w.heap.size w W3 := by
            rw [hW3]; exact (HD.out.bel.trans (hB2.mono HD.out.bel.size)).setCell (by have := HD.out.bel.size; show w.heap.size ≤ g; omega) _
          have HR3 := Hd.mk hrest
          have HQ3 := Hd.mk hquo
          have HB3 := Hd.mk hbel
          have HW3 := Hd.mk hW3
          clear hg hMg hB2 hne hrest hquo hbel hW3
          go_wp2_with fail
          rw [← HW3.out]
          clear hxm hg0 hgf HW3
          have HGE := Hd.mk (HO.out.over HOV.out)
          refine (not_any v2 y _ (HV2.out.below HB3.out)).mono ?_
          rintro e w6 ⟨v6, rfl, hb6, hB6⟩
          have HV6 := Hd.mk hb6
          have HR6 := Hd.mk (HR3.out.below hB6)
          have HQ6 := Hd.mk (HQ3.out.below hB6 HQ3.out.lt)
          have HB6 := Hd.mk (HB3.out.trans (hB6.mono HB3.out.size))
          clear hb6 hB6
          go_wp2_with fail
          refine (sum1f _ _ (nxt x z m) (~~~y) _ HR6.out HV6.out).mono ?_
          rintro e w7 ⟨v7, rfl, hb7, hB7, hF7⟩
          have HQ7 := Hd.mk (HQ6.out.below hB7 HQ6.out.lt)
          have HB7 := Hd.mk (HB6.out.trans (hB7.mono HB6.out.size))
          have hqc := HQ7.out.cell m hm64
          have hqf := HQ7.out.free m
          have HD8 : Hd (DV w (w.heap.size + 1) x y m v7 (nxt x z m + ~~~y + 1#64) (w7.setCell ⟨w.heap.size + 1, m, none⟩ (.int .i64 1))) :=
            ⟨⟨(HQ7.out.set m hm64 1).congr (fun j _ => qF_one _ m j (HO.out.yes HGE.out).2), hb7.other hF7 HQ6.out.lt, (HO.out.yes HGE.out).1, HB7.out.setCell (by simp) _⟩⟩
          clear hb7 hB7 hF7
          go_wp2_with fail
          go_roundw
          case rel => exact ⟨m, _, by omega, by go_num, HD8.out⟩
          case measure => simp [intOf]
      · obtain rfl : k = 0 := by omega
        have HE : Hd (z = x % y) := ⟨BitVec.eq_of_toNat_eq (by rw [HD.out.num, BitVec.toNat_umod]; simp)⟩
        go_wp2_with fail
        go_ret2
        exact ⟨_, _, rfl, HD.out.quo.bs (fun j hj => by unfold qF; rw [if_pos (by omega)]), by rw [← HE.out]; exact HD.out.rest, HD.out.bel⟩
end Go.Proofs.Ytbmommomhepfpaa
