/- The law QuotaNever: its walk, case A. -/
import Derived.Test.YtppfhcocmpmadaaC1
import Derived.Test.YtppfhcocmpmadaaPN
namespace Go.Proofs.Ytppfhcocmpmadaa
open Go.RowKit
set_option linter.unusedVariables false

theorem lit4uA {W : World} {g : Nat} {t : TypeId} {f : Nat → Int} (h : W.heap[g]? = some (.cells (ar f) t (0, 0))) :
    W.cell? ⟨g, 0, none⟩ = some (.int .i64 (f 0)) ∧ W.cell? ⟨g, 1, none⟩ = some (.int .i64 (f 1)) ∧ W.cell? ⟨g, 2, none⟩ = some (.int .i64 (f 2)) ∧ W.cell? ⟨g, 3, none⟩ = some (.int .i64 (f 3)) :=
  ⟨cells_cell h 0, cells_cell h 1, cells_cell h 2, cells_cell h 3⟩
theorem nv_stepsA {L U V : Nat → Int} {cs : List (Int × Int)} (hr : rightB L U = true) (hc : chkV cs = 0) (hV : useK U cs cs.length = V) (hK : StepAt L (useK U cs) cs.length cs.length) (v : Value) (w : World) (hs : SrcC w v cs) :
    Calls Try.prog 13 #[.agg (bk L U), v] w fun e w' => e = .returned (.tuple #[.agg (bk L V), .int .i64 (-1), .int .i64 0]) ∧ Below w.heap.size w w' :=
  (steps_yes L U v cs cs.length hK w hs (both_of hr hc)).mono fun e w' ⟨he, hB⟩ => ⟨he.trans (by rw [stepR, if_neg (by omega), hV]), hB⟩
theorem nv_barA {L U V : Nat → Int} {cs : List (Int × Int)} (hr : rightB L U = true) (hc : chkV cs = 0) (hV : useK U cs cs.length = V) (hf : (failsV L V).2 = 0) (v : Value) (w : World) (hs : SrcC w v cs) :
    Calls Try.prog 17 #[.agg (bk L U), v] w fun e w' => e = .returned (.tuple #[.agg (bk L V), .int .i64 (-1), .int .i64 0]) ∧ Below w.heap.size w w' :=
  (barrier_yes L U v cs w hs (both_of hr hc)).mono fun e w' ⟨he, hB⟩ => ⟨he.trans (by rw [hV, barR, if_pos hf]), hB⟩
theorem nv_sumA {S : Nat → Int} {cs : List (Int × Int)} (hc : chkV cs = 0) (hS : useK zf cs cs.length = S) (v : Value) (w : World) (hs : SrcC w v cs) :
    Calls Try.prog 18 #[v] w fun e w' => e = .returned (.tuple #[.agg (ar S), .int .i64 0]) ∧ Below w.heap.size w w' :=
  (sum_any v cs w hs).mono fun e w' ⟨he, hB⟩ => ⟨he.trans (by rw [if_pos hc, hS, hc]), hB⟩

theorem k0A (w : World) (o1 o2 : Obj) : Below w.heap.size w ((w.alloc o1).alloc o2) := ((Below.refl _ _).alloc (Nat.le_refl _) _).alloc (by simp) _

set_option maxRecDepth 100000 in
set_option maxHeartbeats 8000000 in
theorem never_A (haw : AwakeC) (a b : Nat → Int) (ha : ∀ j, j < 4 → 0 ≤ a j ∧ a j ≤ 255) (hb : ∀ j, j < 4 → 0 ≤ b j ∧ b j ≤ 255) (v : Value) (xs : List Int) (w : World) (hs : SrcE e16 w v xs) (hx : ∀ x ∈ xs, 0 ≤ x ∧ x ≤ 65535)
    (L U V S : Nat → Int) (cs : List (Int × Int)) (hL : mL a = L) (hU : mU a b = U) (hcs : mC xs = cs) (hV : useK U cs cs.length = V) (hS : useK zf cs cs.length = S) (hm : MB L U) (hc : MC cs)
    (hK : StepAt L (useK U cs) cs.length cs.length) (hf : (failsV L V).2 = 0) :
    Calls Try.prog 6 #[.agg (a8 a), .agg (a8 b), v] w fun e w' => e = .returned (.bool true) ∧ Below w.heap.size w w' := by
  have H_haw := Hd.mk haw
  have H_hs := Hd.mk hs
  have H_hx := Hd.mk hx
  have H_hL := Hd.mk hL
  have H_hU := Hd.mk hU
  have H_hcs := Hd.mk hcs
  have H_hV := Hd.mk hV
  have H_hS := Hd.mk hS
  have H_hm := Hd.mk hm
  have H_hc := Hd.mk hc
  have H_hK := Hd.mk hK
  have H_hf := Hd.mk hf
  have hlen := hc.len
  clear haw hs hx hL hU hcs hV hS hm hc hK hf
  obtain ⟨p0, p1, p2⟩ := push2 w (.cells (a8 a) 22) (.cells (a8 b) 22)
  have HP1 := Hd.mk p1
  have HP2 := Hd.mk p2
  have HW0 : Hd (Below w.heap.size w ((w.alloc (.cells (a8 a) 22)).alloc (.cells (a8 b) 22))) := ⟨((Below.refl _ _).alloc (Nat.le_refl _) _).alloc (by simp) _⟩
  have HSX := Hd.mk (H_hs.out.below (k0A w (.cells (a8 a) 22) (.cells (a8 b) 22)))
  have HA := Hd.mk ha
  have HBb := Hd.mk hb
  clear ha hb p0 p1 p2
  obtain ⟨va, vc, rfl⟩ := H_hs.out.shape
  clear H_hs
  go_enter Try.func6, Try.ntmps6
  go_wp2_with fail
  refine (H_haw.out _).mono ?_
  rintro e w1 ⟨rfl, hB1⟩
  have h1 := keep HP1.out hB1
  have h2 := keep HP2.out hB1
  have HB_1 := Hd.mk (HW0.out.trans (hB1.mono (by simp; omega)))
  have HS1 := Hd.mk (HSX.out.below hB1)
  obtain ⟨c0, c1, c2, c3⟩ := a8_cells h1
  obtain ⟨d0, d1, d2, d3⟩ := a8_cells h2
  clear h1 h2 HP1 HP2 HW0 hB1 HSX
  go_wp2_with fail
  refine (made_any a b HA.out HBb.out _ xs _ HS1.out H_hx.out).mono ?_
  rw [H_hL.out, H_hU.out, H_hcs.out]
  rintro e w2 ⟨v', rfl, hv, hB2⟩
  have HSV := Hd.mk hv.src
  have HB2 := Hd.mk (ch4 HB_1.out hB2)
  clear hv c0 c1 c2 c3 d0 d1 d2 d3 HA HBb HB_1 hB2 HS1
  obtain ⟨va', vc', rfl⟩ := HSV.out.shape
  simp only [bk]
  go_upto_region 4 with fail
  obtain ⟨W2, hW⟩ : ∃ W, W = w2.alloc (.cells (bk L U) 27) := ⟨_, rfl⟩
  have hX : Below w2.heap.size w2 W2 := by rw [hW]; exact (Below.refl _ _).alloc (Nat.le_refl _) _
  have hT : W2.heap[w2.heap.size]? = some (.cells (bk L U) 27 (0, 0)) := by rw [hW]; exact World.alloc_heap_new _ _
  simp only [bk] at hW
  rw [← hW]
  have HT7_b2 := Hd.mk hT
  clear hW hT
  have HB_c2 := Hd.mk (ch4 HB2.out hX)
  have SV_c2 := Hd.mk (HSV.out.below hX)
  clear HB2 HSV
  clear hX
  obtain ⟨c0, c1, c2, c3, c4, c5, c6, c7⟩ := lit8 HT7_b2.out
  go_wp2_with fail
  refine (nv_stepsA H_hm.out.right H_hc.out.chk H_hV.out H_hK.out _ _ SV_c2.out).mono ?_
  rintro e w3 ⟨rfl, hB⟩
  have HB_3 := Hd.mk (ch4 HB_c2.out hB)
  have HT7_3 := Hd.mk (keep HT7_b2.out hB)
  have SV_3 := Hd.mk (SV_c2.out.below hB)
  clear HB_c2 HT7_b2 SV_c2
  clear hB
  clear c0 c1 c2 c3 c4 c5 c6 c7
  simp only [bk]
  go_upto_region 5 with fail
  obtain ⟨W3, hW⟩ : ∃ W, W = w3.alloc (.cells (bk L V) 27) := ⟨_, rfl⟩
  have hX : Below w3.heap.size w3 W3 := by rw [hW]; exact (Below.refl _ _).alloc (Nat.le_refl _) _
  have hT : W3.heap[w3.heap.size]? = some (.cells (bk L V) 27 (0, 0)) := by rw [hW]; exact World.alloc_heap_new _ _
  simp only [bk] at hW
  rw [← hW]
  have HT9_b3 := Hd.mk hT
  clear hW hT
  have HB_c3 := Hd.mk (ch4 HB_3.out hX)
  have HT7_c3 := Hd.mk (keep HT7_3.out hX)
  have SV_c3 := Hd.mk (SV_3.out.below hX)
  clear HB_3 HT7_3 SV_3
  clear hX
  obtain ⟨c0, c1, c2, c3, c4, c5, c6, c7⟩ := lit8 HT7_c3.out
  go_wp2_with fail
  refine (nv_barA H_hm.out.right H_hc.out.chk H_hV.out H_hf.out _ _ SV_c3.out).mono ?_
  rintro e w4 ⟨rfl, hB⟩
  have HB_4 := Hd.mk (ch4 HB_c3.out hB)
  have HT7_4 := Hd.mk (keep HT7_c3.out hB)
  have HT9_4 := Hd.mk (keep HT9_b3.out hB)
  have SV_4 := Hd.mk (SV_c3.out.below hB)
  clear HB_c3 HT7_c3 HT9_b3 SV_c3
  clear hB
  clear c0 c1 c2 c3 c4 c5 c6 c7
  simp only [bk]
  go_upto_region 6 with fail
  obtain ⟨W4, hW⟩ : ∃ W, W = w4.alloc (.cells (bk L V) 27) := ⟨_, rfl⟩
  have hX : Below w4.heap.size w4 W4 := by rw [hW]; exact (Below.refl _ _).alloc (Nat.le_refl _) _
  have hT : W4.heap[w4.heap.size]? = some (.cells (bk L V) 27 (0, 0)) := by rw [hW]; exact World.alloc_heap_new _ _
  simp only [bk] at hW
  rw [← hW]
  have HT12_b4 := Hd.mk hT
  clear hW hT
  have HB_c4 := Hd.mk (ch4 HB_4.out hX)
  have HT7_c4 := Hd.mk (keep HT7_4.out hX)
  have HT9_c4 := Hd.mk (keep HT9_4.out hX)
  have SV_c4 := Hd.mk (SV_4.out.below hX)
  clear HB_4 HT7_4 HT9_4 SV_4
  clear hX
  go_wp2_with fail
  refine (nv_sumA H_hc.out.chk H_hS.out _ _ SV_c4.out).mono ?_
  rintro e w5 ⟨rfl, hB⟩
  have HB_5 := Hd.mk (ch4 HB_c4.out hB)
  have HT7_5 := Hd.mk (keep HT7_c4.out hB)
  have HT9_5 := Hd.mk (keep HT9_c4.out hB)
  have HT12_5 := Hd.mk (keep HT12_b4.out hB)
  have SV_5 := Hd.mk (SV_c4.out.below hB)
  clear HB_c4 HT7_c4 HT9_c4 HT12_b4 SV_c4
  clear hB
  simp only [ar]
  go_upto_region 7 with fail
  obtain ⟨W5, hW⟩ : ∃ W, W = w5.alloc (.cells (ar S) 25) := ⟨_, rfl⟩
  have hX : Below w5.heap.size w5 W5 := by rw [hW]; exact (Below.refl _ _).alloc (Nat.le_refl _) _
  have hT : W5.heap[w5.heap.size]? = some (.cells (ar S) 25 (0, 0)) := by rw [hW]; exact World.alloc_heap_new _ _
  simp only [ar] at hW
  rw [← hW]
  have HT15_b5 := Hd.mk hT
  clear hW hT
  have HB_c5 := Hd.mk (ch4 HB_5.out hX)
  have HT7_c5 := Hd.mk (keep HT7_5.out hX)
  have HT9_c5 := Hd.mk (keep HT9_5.out hX)
  have HT12_c5 := Hd.mk (keep HT12_5.out hX)
  have SV_c5 := Hd.mk (SV_5.out.below hX)
  clear HB_5 HT7_5 HT9_5 HT12_5 SV_5
  clear hX
  obtain ⟨c0, c1, c2, c3, c4, c5, c6, c7⟩ := lit8 HT7_c5.out
  go_wp2_with fail
  refine (right_any L U _).mono ?_
  rintro e w6 ⟨rfl, hB⟩
  have HB_6 := Hd.mk (ch4 HB_c5.out hB)
  have HT7_6 := Hd.mk (keep HT7_c5.out hB)
  have HT9_6 := Hd.mk (keep HT9_c5.out hB)
  have HT12_6 := Hd.mk (keep HT12_c5.out hB)
  have HT15_6 := Hd.mk (keep HT15_b5.out hB)
  have SV_6 := Hd.mk (SV_c5.out.below hB)
  clear HB_c5 HT7_c5 HT9_c5 HT12_c5 HT15_b5 SV_c5
  clear hB
  clear c0 c1 c2 c3 c4 c5 c6 c7
  rw [H_hm.out.right]
  obtain ⟨c0, c1, c2, c3, c4, c5, c6, c7⟩ := lit8 HT9_6.out
  obtain ⟨d0, d1, d2, d3, d4, d5, d6, d7⟩ := lit8 HT12_6.out
  have hne : ∀ W : World, (binOp .neq 27 (v8 (L 0) (L 1) (L 2) (L 3) (V 0) (V 1) (V 2) (V 3)) (v8 (L 0) (L 1) (L 2) (L 3) (V 0) (V 1) (V 2) (V 3))).run Try.prog W = .ok (.bool false) W := fun W => by have := nev_bk L V L V W; rwa [eq4_self, eq4_self] at this
  have gd27 := guard27
  go_wp2_with fail
  clear c0 c1 c2 c3 c4 c5 c6 c7 hne d0 d1 d2 d3 d4 d5 d6 d7
  go_loopw [17, 85] (fun p i W => ∃ k : Nat, k ≤ 4 ∧ i = .int .i64 k ∧ p = .int .i64 (lsK L V k) ∧ Below w6.heap.size w6 W) (fun _ i _ => 4 - (intOf i).toNat)
  case atStart => exact ⟨0, by omega, rfl, rfl, Below.refl _ _⟩
  case round =>
    obtain ⟨k, hk, rfl, rfl, hB⟩ := hrel
    have HBW := Hd.mk hB
    have HRT7 := Hd.mk (keep HT7_6.out hB)
    have HRT12 := Hd.mk (keep HT12_6.out hB)
    have HRT15 := Hd.mk (keep HT15_6.out hB)
    clear hB
    by_cases hk4 : k < 4
    · have k0 : (0 : Int) ≤ (k : Int) := by omega
      have k1 : (k : Int) < 4 := by omega
      have hl7 := (cells_cell HRT7.out k).trans (bk_lim L U k hk4)
      have hu7 := (cells_cell HRT7.out (4 + k)).trans (bk_use L U k hk4)
      have hs15 := (cells_cell HRT15.out k).trans (ar_get S k hk4)
      have hv12 := (cells_cell HRT12.out (4 + k)).trans (bk_use L V k hk4)
      have hsum : U k + S k = V k := by rw [← H_hS.out, ← H_hV.out]; exact useK_sum U cs cs.length k
      have hbd : -360 ≤ V k ∧ V k ≤ 389 := by
        have := useK_small H_hc.out (fun j hj => ⟨(H_hm.out.use j hj).1, by have := H_hm.out.use j hj; have := H_hm.out.lim j hj; omega⟩) cs.length k (Nat.le_refl _) hk4
        rw [H_hV.out] at this
        omega
      have hw : IntKind.i64.wrap (U k + S k) = V k := by rw [hsum]; exact IntWalk.i64_in _ ⟨by omega, by omega⟩
      have HLO : Hd (0 ≤ V k ∧ V k ≤ L k → lsK L V (k + 1) = lsK L V k) := ⟨lsK_ok⟩
      have HLB : Hd (lsK L V k < 0 → (V k < 0 ∨ L k < V k) → lsK L V (k + 1) = (k : Int)) := ⟨lsK_bad⟩
      have HLH : Hd (0 ≤ lsK L V k → lsK L V (k + 1) = lsK L V k) := ⟨lsK_had⟩
      have hok : 0 ≤ V k ∧ V k ≤ L k := failAt_iff.1 (fails_ok.1 H_hf.out k hk4)
      obtain ⟨p, hp⟩ : ∃ p, lsK L V k = p := ⟨_, rfl⟩
      obtain ⟨x, hx⟩ : ∃ x, V k = x := ⟨_, rfl⟩
      obtain ⟨l, hl⟩ : ∃ l, L k = l := ⟨_, rfl⟩
      obtain ⟨y, hy⟩ : ∃ y, U k = y := ⟨_, rfl⟩
      obtain ⟨z, hz⟩ : ∃ z, S k = z := ⟨_, rfl⟩
      rw [hp] at HLO HLB HLH ⊢
      rw [hl] at hl7 HLO HLB
      rw [hy] at hu7 hw
      rw [hz] at hs15 hw
      rw [hx] at hw HLO HLB
      rw [hx] at hv12 hok
      rw [hl] at hok
      obtain ⟨ok1, ok2⟩ := hok
      have HE := Hd.mk (HLO.out ⟨ok1, ok2⟩)
      clear HLO HLB HLH hx hl hy hz hsum hbd
      have hpn : p = -1 ∨ 0 ≤ p := by rw [← hp]; rcases lsK_fails L V k hk with ⟨h, _⟩ | ⟨h, _⟩ <;> omega
      clear hp
      rcases hpn with rfl | hp0
      all_goals
        go_wp2_with fail
        go_quiet (fail)
        go_wp2_with fail
        rw [← HE.out]
        go_roundw
        case rel => exact ⟨k + 1, by omega, by go_num, rfl, below_drewN HBW.out _⟩
        case measure => simp [intOf] <;> omega
    · obtain rfl : k = 4 := by omega
      have HBF := Hd.mk (ch4 HB_6.out HBW.out)
      rw [lsK_none H_hf.out]
      obtain ⟨c0, c1, c2, c3, c4, c5, c6, c7⟩ := lit8 HRT7.out
      obtain ⟨d0, d1, d2, d3, d4, d5, d6, d7⟩ := lit8 HRT12.out
      have heq : ∀ W : World, (binOp .eql 25 (v4 (L 0) (L 1) (L 2) (L 3)) (v4 (L 0) (L 1) (L 2) (L 3))).run Try.prog W = .ok (.bool true) W := fun W => by have := eqv_ar L L W; rwa [eq4_self] at this
      have gd25 := guard25
      go_wp2_with fail
      refine (right_any L V _).mono ?_
      rintro e wz ⟨rfl, hBz⟩
      rw [fails_right H_hm.out.lim H_hf.out]
      have HBZ := Hd.mk (ch4 HBF.out hBz)
      have HZ7 := keep HRT7.out hBz
      have HZ12 := keep HRT12.out hBz
      clear hBz c0 c1 c2 c3 c4 c5 c6 c7 d0 d1 d2 d3 d4 d5 d6 d7
      obtain ⟨c0, c1, c2, c3, c4, c5, c6, c7⟩ := lit8 HZ7
      obtain ⟨d0, d1, d2, d3, d4, d5, d6, d7⟩ := lit8 HZ12
      go_wp2_with fail
      go_ret
      exact ⟨rfl, HBZ.out⟩
end Go.Proofs.Ytppfhcocmpmadaa
