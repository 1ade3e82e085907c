/- The law QuotaBack: its walk. -/
import Derived.Test.YtppfhcocmpmadaaC0
import Derived.Test.YtppfhcocmpmadaaPK
import Derived.Test.YtppfhcocmpmadaaB8
namespace Go.Proofs.Ytppfhcocmpmadaa
open Go.RowKit
set_option linter.unusedVariables false

theorem k0qk (w : World) (o1 o2 : Obj) : Below w.heap.size w ((w.alloc o1).alloc o2) := ((Below.refl _ _).alloc (Nat.le_refl _) _).alloc (by simp) _
/-- The charges that take others back. -/
theorem qk_back {cs B : List (Int × Int)} (hc : MC cs) (hB : backV cs = B) (n : Nat) (hn : B.length = n) (v : Value) (w : World) (hs : SrcC w v cs) :
    Calls Try.prog 20 #[v] w fun e w' => ∃ a c, e = .returned (.tuple #[.slice a n c, .int .i64 0]) ∧ SrcC w' (.slice a n c) B ∧ Below w.heap.size w w' := by
  refine (back_yes v cs w hs hc.chk).mono fun e w' ⟨v', he, ho, hb⟩ => ?_
  rw [hB] at ho
  obtain ⟨a, c, rfl⟩ := ho.src.shape
  rw [hn] at he ho
  exact ⟨a, c, he, ho.src, hb⟩
theorem qk_sum {S : Nat → Int} {cs : List (Int × Int)} (hc : chkV cs = 0) (n : Nat) (hn : cs.length = n) (hS : useK zf cs n = S) (v : Value) (w : World) (hs : SrcC w v cs) :
    Calls Try.prog 18 #[v] w fun e w' => e = .returned (.tuple #[.agg (ar S), .int .i64 0]) ∧ Below w.heap.size w w' :=
  (sum_any v cs w hs).mono fun e w' ⟨he, hB⟩ => ⟨he.trans (by rw [if_pos hc, hn, hS, hc]), hB⟩
theorem barr_right {L U V : Nat → Int} (hm : MB L U) (h : (failsV L V).2 = 0) : rightB L V = true := fails_right hm.lim h
/-- All charges, where all can be done. -/
theorem qk_all {L U V : Nat → Int} {cs : List (Int × Int)} (n : Nat) (hn : cs.length = n) (hr : rightB L U = true) (hc : chkV cs = 0) (hK : StepAt L (useK U cs) n n) (hV : useK U cs n = V) (v : Value) (w : World) (hs : SrcC w v cs) :
    Calls Try.prog 13 #[.agg (bk L U), v] w fun e w' => e = .returned (.tuple #[.agg (bk L V), .int .i64 (-1), .int .i64 0]) ∧ Below w.heap.size w w' := by
  subst hn
  exact (steps_yes L U v cs cs.length hK w hs (both_of hr hc)).mono fun e w' ⟨he, hB⟩ => ⟨he.trans (by rw [stepR, if_neg (by omega), hV]), hB⟩
theorem qk_bad {L U : Nat → Int} {cs : List (Int × Int)} {K : Nat} {f : Int} (hm : MB L U) (hc : MC cs) (hK : StepAt L (useK U cs) cs.length K) (hn : K < cs.length)
    (hf : (failsV L (useK U cs (K + 1))).2 = f) (v : Value) (w : World) (hs : SrcC w v cs) :
    Calls Try.prog 13 #[.agg (bk L U), v] w fun e w' => e = .returned (.tuple #[v8 0 0 0 0 0 0 0 0, .int .i64 (K : Int), .int .i64 f]) ∧ Below w.heap.size w w' :=
  (steps_yes L U v cs K hK w hs (both_of hm.right hc.chk)).mono fun e w' ⟨he, hB⟩ => ⟨he.trans (by rw [stepR, if_pos hn, hf]; rfl), hB⟩
theorem qk_bar {L U V : Nat → Int} {cs : List (Int × Int)} (n : Nat) (hn : cs.length = n) (hr : rightB L U = true) (hc : chkV cs = 0) (hV : useK U cs n = V) (hf : (failsV L V).2 = 0) (v : Value) (w : World) (hs : SrcC w v cs) :
    Calls Try.prog 17 #[.agg (bk L U), v] w fun e w' => e = .returned (.tuple #[.agg (bk L V), .int .i64 (-1), .int .i64 0]) ∧ Below w.heap.size w w' := by
  subst hn
  exact (barrier_yes L U v cs w hs (both_of hr hc)).mono fun e w' ⟨he, hB⟩ => ⟨he.trans (by rw [hV, barR, if_pos hf]), hB⟩
theorem qk_barbad {L U V : Nat → Int} {cs : List (Int × Int)} {j g : Int} (hr : rightB L U = true) (hc : chkV cs = 0) (hV : useK U cs cs.length = V) (h1 : (failsV L V).1 = j) (h2 : (failsV L V).2 = g) (hg : ¬ g = 0) (v : Value) (w : World) (hs : SrcC w v cs) :
    Calls Try.prog 17 #[.agg (bk L U), v] w fun e w' => e = .returned (.tuple #[v8 0 0 0 0 0 0 0 0, .int .i64 j, .int .i64 g]) ∧ Below w.heap.size w w' :=
  (barrier_yes L U v cs w hs (both_of hr hc)).mono fun e w' ⟨he, hB⟩ => ⟨he.trans (by rw [hV, barR, if_neg (by rw [h2]; exact hg), h1, h2]; rfl), hB⟩

set_option maxRecDepth 100000 in
set_option maxHeartbeats 8000000 in
theorem qback_any (haw : AwakeC) (a b : Nat → Int) (ha : ∀ j, j < 4 → 0 ≤ a j ∧ a j ≤ 255) (hb : ∀ j, j < 4 → 0 ≤ b j ∧ b j ≤ 255) (v : Value) (xs : List Int) (w : World) (hs : SrcE e16 w v xs) (hx : ∀ x ∈ xs, 0 ≤ x ∧ x ≤ 65535)
    (L U : Nat → Int) (cs : List (Int × Int)) (hL : mL a = L) (hU : mU a b = U) (hcs : mC xs = cs) (hm : MB L U) (hc : MC cs)
    (K : Nat) (hK : StepAt L (useK U cs) cs.length K) (V S T : Nat → Int) (B : List (Int × Int)) (hV : useK U cs cs.length = V) (hS : useK zf cs cs.length = S) (hB' : backV cs = B) (hBl : B.length = cs.length) (hT : useK zf B cs.length = T) :
    Calls Try.prog 7 #[.agg (a8 a), .agg (a8 b), v] w fun e w' => e = .returned (.bool true) ∧ Below w.heap.size w w' := by
  have H_haw := Hd.mk haw
  have H_hs := Hd.mk hs
  have H_hx := Hd.mk hx
  have H_hL := Hd.mk hL
  have H_hU := Hd.mk hU
  have H_hcs := Hd.mk hcs
  have H_hm := Hd.mk hm
  have H_hc := Hd.mk hc
  have H_hK := Hd.mk hK
  have H_hV := Hd.mk hV
  have H_hS := Hd.mk hS
  have H_hB' := Hd.mk hB'
  have H_hBl := Hd.mk hBl
  have H_hT := Hd.mk hT
  have hlen := hc.len
  clear haw hs hx hL hU hcs hm hc hK hV hS hB' hBl hT
  obtain ⟨p0, p1, p2⟩ := push2 w (.cells (a8 a) 22) (.cells (a8 b) 22)
  have HP1 := Hd.mk p1
  have HP2 := Hd.mk p2
  have HW0 : Hd (Below w.heap.size w ((w.alloc (.cells (a8 a) 22)).alloc (.cells (a8 b) 22))) := ⟨((Below.refl _ _).alloc (Nat.le_refl _) _).alloc (by simp) _⟩
  have HSX := Hd.mk (H_hs.out.below (k0qk w (.cells (a8 a) 22) (.cells (a8 b) 22)))
  have HA := Hd.mk ha
  have HBb := Hd.mk hb
  clear ha hb p0 p1 p2
  obtain ⟨va, vc, rfl⟩ := H_hs.out.shape
  clear H_hs
  go_enter Try.func7, Try.ntmps7
  go_wp2_with fail
  refine (H_haw.out _).mono ?_
  rintro e w1 ⟨rfl, hB1⟩
  have h1 := keep HP1.out hB1
  have h2 := keep HP2.out hB1
  have HB_1 := Hd.mk (HW0.out.trans (hB1.mono (by simp; omega)))
  have HS1 := Hd.mk (HSX.out.below hB1)
  obtain ⟨c0, c1, c2, c3⟩ := a8_cells h1
  obtain ⟨d0, d1, d2, d3⟩ := a8_cells h2
  clear h1 h2 HP1 HP2 HW0 hB1 HSX
  go_wp2_with fail
  refine (made_any a b HA.out HBb.out _ xs _ HS1.out H_hx.out).mono ?_
  rw [H_hL.out, H_hU.out, H_hcs.out]
  rintro e w2 ⟨v', rfl, hv, hB2⟩
  have HSV := Hd.mk hv.src
  have HB2 := Hd.mk (ch4 HB_1.out hB2)
  clear hv c0 c1 c2 c3 d0 d1 d2 d3 HA HBb HB_1 hB2 HS1
  obtain ⟨va', vc', rfl⟩ := HSV.out.shape
  simp only [bk]
  go_upto_region 4 with fail
  obtain ⟨W2, hW⟩ : ∃ W, W = w2.alloc (.cells (bk L U) 27) := ⟨_, rfl⟩
  have hX : Below w2.heap.size w2 W2 := by rw [hW]; exact (Below.refl _ _).alloc (Nat.le_refl _) _
  have hT : W2.heap[w2.heap.size]? = some (.cells (bk L U) 27 (0, 0)) := by rw [hW]; exact World.alloc_heap_new _ _
  simp only [bk] at hW
  rw [← hW]
  have HT7_b2 := Hd.mk hT
  clear hW hT
  have HB_c2 := Hd.mk (ch4 HB2.out hX)
  have SV_c2 := Hd.mk (HSV.out.below hX)
  clear HB2 HSV
  clear hX
  go_wp2_with fail
  refine (qk_back H_hc.out H_hB'.out cs.length H_hBl.out _ _ SV_c2.out).mono ?_
  rintro e w3 ⟨ba, bc, rfl, hSn, hB⟩
  have HB_3 := Hd.mk (ch4 HB_c2.out hB)
  have HT7_3 := Hd.mk (keep HT7_b2.out hB)
  have SV_3 := Hd.mk (SV_c2.out.below hB)
  clear HB_c2 HT7_b2 SV_c2
  have HSB := Hd.mk hSn
  clear hB hSn
  go_wp2_with fail
  have hbb : backV B = cs := by rw [← H_hB'.out]; exact backV_back cs
  have HBB := Hd.mk hbb
  have hmb : MC B := by rw [← H_hB'.out]; exact H_hc.out.back
  have HMB := Hd.mk hmb
  clear hbb hmb
  refine (qk_back HMB.out HBB.out cs.length rfl _ _ HSB.out).mono ?_
  rintro e w4 ⟨aa, ac, rfl, hSn, hB⟩
  have HB_4 := Hd.mk (ch4 HB_3.out hB)
  have HT7_4 := Hd.mk (keep HT7_3.out hB)
  have SV_4 := Hd.mk (SV_3.out.below hB)
  have SSB_4 := Hd.mk (HSB.out.below hB)
  clear HB_3 HT7_3 SV_3 HSB
  have HSA := Hd.mk hSn
  clear hB hSn
  go_wp2_with fail
  refine (qk_sum H_hc.out.chk cs.length rfl H_hS.out _ _ SV_4.out).mono ?_
  rintro e w5 ⟨rfl, hB⟩
  have HB_5 := Hd.mk (ch4 HB_4.out hB)
  have HT7_5 := Hd.mk (keep HT7_4.out hB)
  have SV_5 := Hd.mk (SV_4.out.below hB)
  have SSB_5 := Hd.mk (SSB_4.out.below hB)
  have SSA_5 := Hd.mk (HSA.out.below hB)
  clear HB_4 HT7_4 SV_4 SSB_4 HSA
  clear hB
  simp only [ar]
  go_upto_region 7 with fail
  obtain ⟨W5, hW⟩ : ∃ W, W = w5.alloc (.cells (ar S) 25) := ⟨_, rfl⟩
  have hX : Below w5.heap.size w5 W5 := by rw [hW]; exact (Below.refl _ _).alloc (Nat.le_refl _) _
  have hT : W5.heap[w5.heap.size]? = some (.cells (ar S) 25 (0, 0)) := by rw [hW]; exact World.alloc_heap_new _ _
  simp only [ar] at hW
  rw [← hW]
  have HT13_b5 := Hd.mk hT
  clear hW hT
  have HB_c5 := Hd.mk (ch4 HB_5.out hX)
  have HT7_c5 := Hd.mk (keep HT7_5.out hX)
  have SV_c5 := Hd.mk (SV_5.out.below hX)
  have SSB_c5 := Hd.mk (SSB_5.out.below hX)
  have SSA_c5 := Hd.mk (SSA_5.out.below hX)
  clear HB_5 HT7_5 SV_5 SSB_5 SSA_5
  clear hX
  go_wp2_with fail
  refine (qk_sum HMB.out.chk cs.length H_hBl.out H_hT.out _ _ SSB_c5.out).mono ?_
  rintro e w6 ⟨rfl, hB⟩
  have HB_6 := Hd.mk (ch4 HB_c5.out hB)
  have HT7_6 := Hd.mk (keep HT7_c5.out hB)
  have HT13_6 := Hd.mk (keep HT13_b5.out hB)
  have SV_6 := Hd.mk (SV_c5.out.below hB)
  have SSB_6 := Hd.mk (SSB_c5.out.below hB)
  have SSA_6 := Hd.mk (SSA_c5.out.below hB)
  clear HB_c5 HT7_c5 HT13_b5 SV_c5 SSB_c5 SSA_c5
  clear hB
  simp only [ar]
  go_upto_region 8 with fail
  obtain ⟨W6, hW⟩ : ∃ W, W = w6.alloc (.cells (ar T) 25) := ⟨_, rfl⟩
  have hX : Below w6.heap.size w6 W6 := by rw [hW]; exact (Below.refl _ _).alloc (Nat.le_refl _) _
  have hT : W6.heap[w6.heap.size]? = some (.cells (ar T) 25 (0, 0)) := by rw [hW]; exact World.alloc_heap_new _ _
  simp only [ar] at hW
  rw [← hW]
  have HT15_b6 := Hd.mk hT
  clear hW hT
  have HB_c6 := Hd.mk (ch4 HB_6.out hX)
  have HT7_c6 := Hd.mk (keep HT7_6.out hX)
  have HT13_c6 := Hd.mk (keep HT13_6.out hX)
  have SV_c6 := Hd.mk (SV_6.out.below hX)
  have SSB_c6 := Hd.mk (SSB_6.out.below hX)
  have SSA_c6 := Hd.mk (SSA_6.out.below hX)
  clear HB_6 HT7_6 HT13_6 SV_6 SSB_6 SSA_6
  clear hX
  have hn0 : (0 : Int) ≤ (cs.length : Int) := by omega
  go_wp2_with fail
  go_loopw [84] (fun i W => ∃ k : Nat, k ≤ cs.length ∧ i = .int .i64 k ∧ Below W6.heap.size W6 W) (fun i _ => cs.length - (intOf i).toNat)
  case atStart => exact ⟨0, Nat.zero_le _, rfl, Below.refl _ _⟩
  case round =>
    obtain ⟨k, hk, rfl, hB⟩ := hrel
    have HRB := Hd.mk hB
    have HRV := Hd.mk (SV_c6.out.below hB)
    have HRSB := Hd.mk (SSB_c6.out.below hB)
    have HRSA := Hd.mk (SSA_c6.out.below hB)
    by_cases hlt : k < cs.length
    · clear hB
      obtain ⟨j, hj⟩ : ∃ j, j = cs.length - 1 - k := ⟨_, rfl⟩
      have hjl : j < cs.length := by omega
      have HAT := Hd.mk (use_at H_hB'.out H_hBl.out k j hlt hj)
      obtain ⟨b1, o1, e1, hb1, p1, p2⟩ := HRV.out.at k hlt
      obtain ⟨b2, o2, e2, hb2, q1, q2⟩ := HRV.out.at j hjl
      obtain ⟨b3, o3, rfl, hb3, r1, r2⟩ := HRSB.out.at k (by rw [H_hBl.out]; exact hlt)
      obtain ⟨b4, o4, rfl, hb4, s1, s2⟩ := HRSA.out.at k hlt
      obtain rfl := e1
      simp only [Option.some.injEq, Addr.mk.injEq] at e2
      obtain ⟨rfl, rfl, -⟩ := e2
      rw [HAT.out] at r1 r2
      have ham := H_hc.out.amount _ (List.getElem_mem hjl)
      obtain ⟨x, hx⟩ : ∃ x, cs[k].1 = x := ⟨_, rfl⟩
      obtain ⟨y, hy⟩ : ∃ y, cs[k].2 = y := ⟨_, rfl⟩
      obtain ⟨p, hp⟩ : ∃ p, cs[j].1 = p := ⟨_, rfl⟩
      obtain ⟨q, hq⟩ : ∃ q, cs[j].2 = q := ⟨_, rfl⟩
      rw [hx] at p1 s1
      rw [hy] at p2 s2
      simp only [hp] at q1 r1
      simp only [hq] at q2 r2 ham
      obtain ⟨ha1, ha2⟩ := ham
      have hlt' : (k : Int) < (cs.length : Int) := by omega
      have k0 : (0 : Int) ≤ (k : Int) := by omega
      have hjl' : (j : Int) < (cs.length : Int) := by omega
      have j0 : (0 : Int) ≤ (j : Int) := by omega
      have hlen := H_hc.out.len
      have hw1 : IntKind.i64.wrap ((cs.length : Int) - 1) = (cs.length : Int) - 1 := IntWalk.i64_in _ ⟨by omega, by omega⟩
      have hw2 : IntKind.i64.wrap ((cs.length : Int) - 1 - (k : Int)) = (j : Int) := by rw [IntWalk.i64_in _ ⟨by omega, by omega⟩]; omega
      have hw3 : IntKind.i64.wrap (-q) = -q := IntWalk.i64_in _ ⟨by omega, by omega⟩
      have hne : ∀ W : World, (binOp .neq 32 (.agg #[.int .i64 x, .int .i64 y]) (.agg #[.int .i64 x, .int .i64 y])).run Try.prog W = .ok (.bool false) W := fun W => by have := nev_ch x y x y W; simpa using this
      have hne2 : ∀ W : World, (binOp .neq 32 (.agg #[.int .i64 p, .int .i64 (-q)]) (.agg #[.int .i64 p, .int .i64 (-q)])).run Try.prog W = .ok (.bool false) W := fun W => by have := nev_ch p (-q) p (-q) W; simpa using this
      have gd32 := guard32
      clear HAT hj hx hy hp hq
      go_wp2_with fail
      go_quiet (fail)
      go_wp2_with fail
      go_roundw
      case rel => exact ⟨k + 1, by omega, by go_num, below_drewN HRB.out _⟩
      case measure => simp [intOf] <;> omega
    · obtain rfl : k = cs.length := by omega
      clear hlt hk
      have HB_r := Hd.mk (ch4 HB_c6.out hB)
      have HT7_r := Hd.mk (keep HT7_c6.out hB)
      have HT13_r := Hd.mk (keep HT13_c6.out hB)
      have HT15_r := Hd.mk (keep HT15_b6.out hB)
      clear hB HRB HRSA
      go_wp2_with fail
      go_loopw [124] (fun i W => ∃ k : Nat, k ≤ 4 ∧ i = .int .i64 k ∧ Below wr.heap.size wr W) (fun i _ => 4 - (intOf i).toNat)
      case atStart => exact ⟨0, Nat.zero_le _, rfl, Below.refl _ _⟩
      case round =>
        obtain ⟨k, hk, rfl, hB⟩ := hrel
        have HRB2 := Hd.mk hB
        by_cases hlt : k < 4
        · have HA := keep HT13_r.out hB
          have HC := keep HT15_r.out hB
          have hs13 := (cells_cell HA k).trans (ar_get S k hlt)
          have ht15 := (cells_cell HC k).trans (ar_get T k hlt)
          clear HA HC hB
          have k0 : (0 : Int) ≤ (k : Int) := by omega
          have k1 : (k : Int) < 4 := by omega
          have hst := sum_back H_hS.out H_hB'.out H_hT.out k
          have hbd := useK_small H_hc.out (U := zf) (fun j hj => ⟨by simp [zf], by simp [zf]⟩) cs.length k (Nat.le_refl _) hlt
          have hlen := H_hc.out.len
          rw [H_hS.out] at hbd
          have hw : IntKind.i64.wrap (-T k) = S k := by rw [hst]; exact IntWalk.i64_in _ ⟨by omega, by omega⟩
          obtain ⟨x, hx⟩ : ∃ x, S k = x := ⟨_, rfl⟩
          obtain ⟨y, hy⟩ : ∃ y, T k = y := ⟨_, rfl⟩
          rw [hx] at hs13 hw
          rw [hy] at ht15 hw
          clear hst hbd hx hy
          go_wp2_with fail
          go_quiet (fail)
          go_wp2_with fail
          go_roundw
          case rel => exact ⟨k + 1, by omega, by go_num, below_drewN HRB2.out _⟩
          case measure => simp [intOf] <;> omega
        · obtain rfl : k = 4 := by omega
          clear hlt hk HRB2
          have HB_s := Hd.mk (ch4 HB_r.out hB)
          have HT7_s := Hd.mk (keep HT7_r.out hB)
          have SV_s := Hd.mk (HRV.out.below hB)
          have SSB_s := Hd.mk (HRSB.out.below hB)
          clear HB_r HT7_r HRV HRSB
          clear hB
          have HRT := Hd.mk H_hm.out.right
          by_cases hKn : K = cs.length
          · obtain rfl := hKn
            have HF := Hd.mk ((congrArg (fun f => (failsV L f).2) H_hV.out).symm.trans (steps_all HRT.out cs H_hK.out))
            obtain ⟨c0, c1, c2, c3, c4, c5, c6, c7⟩ := lit8 HT7_s.out
            go_wp2_with fail
            refine (qk_all cs.length rfl HRT.out H_hc.out.chk H_hK.out H_hV.out _ _ SV_s.out).mono ?_
            rintro e w5 ⟨rfl, hB⟩
            have HB_5 := Hd.mk (ch4 HB_s.out hB)
            have HT7_5 := Hd.mk (keep HT7_s.out hB)
            have SV_5 := Hd.mk (SV_s.out.below hB)
            have SSB_5 := Hd.mk (SSB_s.out.below hB)
            clear HB_s HT7_s SV_s SSB_s
            clear hB
            clear c0 c1 c2 c3 c4 c5 c6 c7
            simp only [bk]
            go_upto_region 23 with fail
            obtain ⟨W5, hW⟩ : ∃ W, W = w5.alloc (.cells (bk L V) 27) := ⟨_, rfl⟩
            have hX : Below w5.heap.size w5 W5 := by rw [hW]; exact (Below.refl _ _).alloc (Nat.le_refl _) _
            have hT : W5.heap[w5.heap.size]? = some (.cells (bk L V) 27 (0, 0)) := by rw [hW]; exact World.alloc_heap_new _ _
            simp only [bk] at hW
            rw [← hW]
            have HT19_b5 := Hd.mk hT
            clear hW hT
            have HB_c5 := Hd.mk (ch4 HB_5.out hX)
            have HT7_c5 := Hd.mk (keep HT7_5.out hX)
            have SV_c5 := Hd.mk (SV_5.out.below hX)
            have SSB_c5 := Hd.mk (SSB_5.out.below hX)
            clear HB_5 HT7_5 SV_5 SSB_5
            clear hX
            obtain ⟨c0, c1, c2, c3, c4, c5, c6, c7⟩ := lit8 HT19_b5.out
            go_wp2_with fail
            refine (qk_all cs.length H_hBl.out (barr_right H_hm.out HF.out) HMB.out.chk (stepAt_back H_hm.out H_hB'.out H_hV.out H_hK.out) (useK_backall H_hV.out H_hB'.out) _ _ SSB_c5.out).mono ?_
            rintro e w6 ⟨rfl, hB⟩
            have HB_6 := Hd.mk (ch4 HB_c5.out hB)
            have HT7_6 := Hd.mk (keep HT7_c5.out hB)
            have HT19_6 := Hd.mk (keep HT19_b5.out hB)
            have SV_6 := Hd.mk (SV_c5.out.below hB)
            have SSB_6 := Hd.mk (SSB_c5.out.below hB)
            clear HB_c5 HT7_c5 HT19_b5 SV_c5 SSB_c5
            clear hB
            clear c0 c1 c2 c3 c4 c5 c6 c7
            simp only [bk]
            go_upto_region 25 with fail
            obtain ⟨W6, hW⟩ : ∃ W, W = w6.alloc (.cells (bk L U) 27) := ⟨_, rfl⟩
            have hX : Below w6.heap.size w6 W6 := by rw [hW]; exact (Below.refl _ _).alloc (Nat.le_refl _) _
            have hT : W6.heap[w6.heap.size]? = some (.cells (bk L U) 27 (0, 0)) := by rw [hW]; exact World.alloc_heap_new _ _
            simp only [bk] at hW
            rw [← hW]
            have HT22_b6 := Hd.mk hT
            clear hW hT
            have HB_c6 := Hd.mk (ch4 HB_6.out hX)
            have HT7_c6 := Hd.mk (keep HT7_6.out hX)
            have HT19_c6 := Hd.mk (keep HT19_6.out hX)
            have SV_c6 := Hd.mk (SV_6.out.below hX)
            have SSB_c6 := Hd.mk (SSB_6.out.below hX)
            clear HB_6 HT7_6 HT19_6 SV_6 SSB_6
            clear hX
            obtain ⟨c0, c1, c2, c3, c4, c5, c6, c7⟩ := lit8 HT22_b6.out
            obtain ⟨d0, d1, d2, d3, d4, d5, d6, d7⟩ := lit8 HT7_c6.out
            have hne : ∀ W : World, (binOp .neq 27 (v8 (L 0) (L 1) (L 2) (L 3) (U 0) (U 1) (U 2) (U 3)) (v8 (L 0) (L 1) (L 2) (L 3) (U 0) (U 1) (U 2) (U 3))).run Try.prog W = .ok (.bool false) W := fun W => by have := nev_bk L U L U W; rwa [eq4_self, eq4_self] at this
            have gd27 := guard27
            go_upto_region 27 with fail
            clear c0 c1 c2 c3 c4 c5 c6 c7 d0 d1 d2 d3 d4 d5 d6 d7 hne gd27
            obtain ⟨c0, c1, c2, c3, c4, c5, c6, c7⟩ := lit8 HT7_c6.out
            go_wp2_with fail
            refine (qk_bar cs.length rfl HRT.out H_hc.out.chk H_hV.out HF.out _ _ SV_c6.out).mono ?_
            rintro e w7 ⟨rfl, hB⟩
            have HB_7 := Hd.mk (ch4 HB_c6.out hB)
            have HT7_7 := Hd.mk (keep HT7_c6.out hB)
            have HT19_7 := Hd.mk (keep HT19_c6.out hB)
            have HT22_7 := Hd.mk (keep HT22_b6.out hB)
            have SV_7 := Hd.mk (SV_c6.out.below hB)
            have SSB_7 := Hd.mk (SSB_c6.out.below hB)
            clear HB_c6 HT7_c6 HT19_c6 HT22_b6 SV_c6 SSB_c6
            clear hB
            clear c0 c1 c2 c3 c4 c5 c6 c7
            simp only [bk]
            go_upto_region 28 with fail
            obtain ⟨W7, hW⟩ : ∃ W, W = w7.alloc (.cells (bk L V) 27) := ⟨_, rfl⟩
            have hX : Below w7.heap.size w7 W7 := by rw [hW]; exact (Below.refl _ _).alloc (Nat.le_refl _) _
            have hT : W7.heap[w7.heap.size]? = some (.cells (bk L V) 27 (0, 0)) := by rw [hW]; exact World.alloc_heap_new _ _
            simp only [bk] at hW
            rw [← hW]
            have HT25_b7 := Hd.mk hT
            clear hW hT
            have HB_c7 := Hd.mk (ch4 HB_7.out hX)
            have HT7_c7 := Hd.mk (keep HT7_7.out hX)
            have HT19_c7 := Hd.mk (keep HT19_7.out hX)
            have HT22_c7 := Hd.mk (keep HT22_7.out hX)
            have SV_c7 := Hd.mk (SV_7.out.below hX)
            have SSB_c7 := Hd.mk (SSB_7.out.below hX)
            clear HB_7 HT7_7 HT19_7 HT22_7 SV_7 SSB_7
            clear hX
            obtain ⟨c0, c1, c2, c3, c4, c5, c6, c7⟩ := lit8 HT25_b7.out
            go_wp2_with fail
            refine (qk_bar cs.length H_hBl.out (barr_right H_hm.out HF.out) HMB.out.chk (useK_backall H_hV.out H_hB'.out) (fails_none H_hm.out) _ _ SSB_c7.out).mono ?_
            rintro e w8 ⟨rfl, hB⟩
            have HB_8 := Hd.mk (ch4 HB_c7.out hB)
            have HT7_8 := Hd.mk (keep HT7_c7.out hB)
            have HT19_8 := Hd.mk (keep HT19_c7.out hB)
            have HT22_8 := Hd.mk (keep HT22_c7.out hB)
            have HT25_8 := Hd.mk (keep HT25_b7.out hB)
            have SV_8 := Hd.mk (SV_c7.out.below hB)
            have SSB_8 := Hd.mk (SSB_c7.out.below hB)
            clear HB_c7 HT7_c7 HT19_c7 HT22_c7 HT25_b7 SV_c7 SSB_c7
            clear hB
            clear c0 c1 c2 c3 c4 c5 c6 c7
            simp only [bk]
            go_upto_region 30 with fail
            obtain ⟨W8, hW⟩ : ∃ W, W = w8.alloc (.cells (bk L U) 27) := ⟨_, rfl⟩
            have hX : Below w8.heap.size w8 W8 := by rw [hW]; exact (Below.refl _ _).alloc (Nat.le_refl _) _
            have hT : W8.heap[w8.heap.size]? = some (.cells (bk L U) 27 (0, 0)) := by rw [hW]; exact World.alloc_heap_new _ _
            simp only [bk] at hW
            rw [← hW]
            have HT28_b8 := Hd.mk hT
            clear hW hT
            have HB_c8 := Hd.mk (ch4 HB_8.out hX)
            have HT7_c8 := Hd.mk (keep HT7_8.out hX)
            have HT19_c8 := Hd.mk (keep HT19_8.out hX)
            have HT22_c8 := Hd.mk (keep HT22_8.out hX)
            have HT25_c8 := Hd.mk (keep HT25_8.out hX)
            have SV_c8 := Hd.mk (SV_8.out.below hX)
            have SSB_c8 := Hd.mk (SSB_8.out.below hX)
            clear HB_8 HT7_8 HT19_8 HT22_8 HT25_8 SV_8 SSB_8
            clear hX
            obtain ⟨c0, c1, c2, c3, c4, c5, c6, c7⟩ := lit8 HT28_b8.out
            obtain ⟨d0, d1, d2, d3, d4, d5, d6, d7⟩ := lit8 HT7_c8.out
            have hne : ∀ W : World, (binOp .neq 27 (v8 (L 0) (L 1) (L 2) (L 3) (U 0) (U 1) (U 2) (U 3)) (v8 (L 0) (L 1) (L 2) (L 3) (U 0) (U 1) (U 2) (U 3))).run Try.prog W = .ok (.bool false) W := fun W => by have := nev_bk L U L U W; rwa [eq4_self, eq4_self] at this
            have gd27 := guard27
            go_wp2_with fail
            go_ret
            exact ⟨rfl, HB_c8.out⟩
          · have hKl : K < cs.length := by have := H_hK.out.le; omega
            obtain ⟨f, hf⟩ : ∃ f, (failsV L (useK U cs (K + 1))).2 = f := ⟨_, rfl⟩
            have hf0 : ¬ f = 0 := by rw [← hf]; exact H_hK.out.bad hKl
            have HFF := Hd.mk hf
            have HKL := Hd.mk hKl
            clear hf hKl hKn
            have df1 : decide (f = 0) = false := decide_eq_false hf0
            have df2 : (f == 0) = false := by simpa using hf0
            obtain ⟨c0, c1, c2, c3, c4, c5, c6, c7⟩ := lit8 HT7_s.out
            go_wp2_with fail
            refine (qk_bad H_hm.out H_hc.out H_hK.out HKL.out HFF.out _ _ SV_s.out).mono ?_
            rintro e w5 ⟨rfl, hB⟩
            have HB_5 := Hd.mk (ch4 HB_s.out hB)
            have HT7_5 := Hd.mk (keep HT7_s.out hB)
            have SV_5 := Hd.mk (SV_s.out.below hB)
            have SSB_5 := Hd.mk (SSB_s.out.below hB)
            clear HB_s HT7_s SV_s SSB_s
            clear hB
            clear c0 c1 c2 c3 c4 c5 c6 c7
            go_upto_region 23 with fail
            obtain ⟨W5, hW⟩ : ∃ W, W = w5.alloc (.cells #[.int .i64 0, .int .i64 0, .int .i64 0, .int .i64 0, .int .i64 0, .int .i64 0, .int .i64 0, .int .i64 0] 27) := ⟨_, rfl⟩
            have hX : Below w5.heap.size w5 W5 := by rw [hW]; exact (Below.refl _ _).alloc (Nat.le_refl _) _
            rw [← hW]
            clear hW
            have HB_c5 := Hd.mk (ch4 HB_5.out hX)
            have HT7_c5 := Hd.mk (keep HT7_5.out hX)
            have SV_c5 := Hd.mk (SV_5.out.below hX)
            have SSB_c5 := Hd.mk (SSB_5.out.below hX)
            clear HB_5 HT7_5 SV_5 SSB_5
            clear hX
            go_upto_region 27 with fail
            by_cases hfv : (failsV L V).2 = 0
            · have HF := Hd.mk hfv
              clear hfv
              obtain ⟨c0, c1, c2, c3, c4, c5, c6, c7⟩ := lit8 HT7_c5.out
              go_wp2_with fail
              refine (qk_bar cs.length rfl HRT.out H_hc.out.chk H_hV.out HF.out _ _ SV_c5.out).mono ?_
              rintro e w7 ⟨rfl, hB⟩
              have HB_7 := Hd.mk (ch4 HB_c5.out hB)
              have HT7_7 := Hd.mk (keep HT7_c5.out hB)
              have SV_7 := Hd.mk (SV_c5.out.below hB)
              have SSB_7 := Hd.mk (SSB_c5.out.below hB)
              clear HB_c5 HT7_c5 SV_c5 SSB_c5
              clear hB
              clear c0 c1 c2 c3 c4 c5 c6 c7
              simp only [bk]
              go_upto_region 28 with fail
              obtain ⟨W7, hW⟩ : ∃ W, W = w7.alloc (.cells (bk L V) 27) := ⟨_, rfl⟩
              have hX : Below w7.heap.size w7 W7 := by rw [hW]; exact (Below.refl _ _).alloc (Nat.le_refl _) _
              have hT : W7.heap[w7.heap.size]? = some (.cells (bk L V) 27 (0, 0)) := by rw [hW]; exact World.alloc_heap_new _ _
              simp only [bk] at hW
              rw [← hW]
              have HT25_b7 := Hd.mk hT
              clear hW hT
              have HB_c7 := Hd.mk (ch4 HB_7.out hX)
              have HT7_c7 := Hd.mk (keep HT7_7.out hX)
              have SV_c7 := Hd.mk (SV_7.out.below hX)
              have SSB_c7 := Hd.mk (SSB_7.out.below hX)
              clear HB_7 HT7_7 SV_7 SSB_7
              clear hX
              obtain ⟨c0, c1, c2, c3, c4, c5, c6, c7⟩ := lit8 HT25_b7.out
              go_wp2_with fail
              refine (qk_bar cs.length H_hBl.out (barr_right H_hm.out HF.out) HMB.out.chk (useK_backall H_hV.out H_hB'.out) (fails_none H_hm.out) _ _ SSB_c7.out).mono ?_
              rintro e w8 ⟨rfl, hB⟩
              have HB_8 := Hd.mk (ch4 HB_c7.out hB)
              have HT7_8 := Hd.mk (keep HT7_c7.out hB)
              have HT25_8 := Hd.mk (keep HT25_b7.out hB)
              have SV_8 := Hd.mk (SV_c7.out.below hB)
              have SSB_8 := Hd.mk (SSB_c7.out.below hB)
              clear HB_c7 HT7_c7 HT25_b7 SV_c7 SSB_c7
              clear hB
              clear c0 c1 c2 c3 c4 c5 c6 c7
              simp only [bk]
              go_upto_region 30 with fail
              obtain ⟨W8, hW⟩ : ∃ W, W = w8.alloc (.cells (bk L U) 27) := ⟨_, rfl⟩
              have hX : Below w8.heap.size w8 W8 := by rw [hW]; exact (Below.refl _ _).alloc (Nat.le_refl _) _
              have hT : W8.heap[w8.heap.size]? = some (.cells (bk L U) 27 (0, 0)) := by rw [hW]; exact World.alloc_heap_new _ _
              simp only [bk] at hW
              rw [← hW]
              have HT28_b8 := Hd.mk hT
              clear hW hT
              have HB_c8 := Hd.mk (ch4 HB_8.out hX)
              have HT7_c8 := Hd.mk (keep HT7_8.out hX)
              have HT25_c8 := Hd.mk (keep HT25_8.out hX)
              have SV_c8 := Hd.mk (SV_8.out.below hX)
              have SSB_c8 := Hd.mk (SSB_8.out.below hX)
              clear HB_8 HT7_8 HT25_8 SV_8 SSB_8
              clear hX
              obtain ⟨c0, c1, c2, c3, c4, c5, c6, c7⟩ := lit8 HT28_b8.out
              obtain ⟨d0, d1, d2, d3, d4, d5, d6, d7⟩ := lit8 HT7_c8.out
              have hne : ∀ W : World, (binOp .neq 27 (v8 (L 0) (L 1) (L 2) (L 3) (U 0) (U 1) (U 2) (U 3)) (v8 (L 0) (L 1) (L 2) (L 3) (U 0) (U 1) (U 2) (U 3))).run Try.prog W = .ok (.bool false) W := fun W => by have := nev_bk L U L U W; rwa [eq4_self, eq4_self] at this
              have gd27 := guard27
              go_wp2_with fail
              go_ret
              exact ⟨rfl, HB_c8.out⟩
            · obtain ⟨g, hg⟩ : ∃ g, (failsV L V).2 = g := ⟨_, rfl⟩
              obtain ⟨j, hj⟩ : ∃ j, (failsV L V).1 = j := ⟨_, rfl⟩
              rw [hg] at hfv
              have hg0 := hfv
              have HG := Hd.mk hg
              have HG1 := Hd.mk hj
              clear hg hj hfv
              obtain ⟨c0, c1, c2, c3, c4, c5, c6, c7⟩ := lit8 HT7_c5.out
              have dg1 : decide (g = 0) = false := decide_eq_false hg0
              have dg2 : (g == 0) = false := by simpa using hg0
              go_wp2_with fail
              refine (qk_barbad HRT.out H_hc.out.chk H_hV.out HG1.out HG.out hg0 _ _ SV_c5.out).mono ?_
              rintro e w7 ⟨rfl, hB⟩
              have HB_7 := Hd.mk (ch4 HB_c5.out hB)
              have HT7_7 := Hd.mk (keep HT7_c5.out hB)
              have SV_7 := Hd.mk (SV_c5.out.below hB)
              have SSB_7 := Hd.mk (SSB_c5.out.below hB)
              clear HB_c5 HT7_c5 SV_c5 SSB_c5
              clear hB
              clear c0 c1 c2 c3 c4 c5 c6 c7
              go_upto_region 28 with fail
              obtain ⟨W7, hW⟩ : ∃ W, W = w7.alloc (.cells #[.int .i64 0, .int .i64 0, .int .i64 0, .int .i64 0, .int .i64 0, .int .i64 0, .int .i64 0, .int .i64 0] 27) := ⟨_, rfl⟩
              have hX : Below w7.heap.size w7 W7 := by rw [hW]; exact (Below.refl _ _).alloc (Nat.le_refl _) _
              rw [← hW]
              clear hW
              have HB_c7 := Hd.mk (ch4 HB_7.out hX)
              have HT7_c7 := Hd.mk (keep HT7_7.out hX)
              have SV_c7 := Hd.mk (SV_7.out.below hX)
              have SSB_c7 := Hd.mk (SSB_7.out.below hX)
              clear HB_7 HT7_7 SV_7 SSB_7
              clear hX
              go_wp2_with fail
              go_ret
              exact ⟨rfl, HB_c7.out⟩

theorem qback (haw : AwakeC) (a b : Nat → Int) (ha : ∀ j, j < 4 → 0 ≤ a j ∧ a j ≤ 255) (hb : ∀ j, j < 4 → 0 ≤ b j ∧ b j ≤ 255) (v : Value) (xs : List Int) (w : World) (hs : SrcE e16 w v xs) (hx : ∀ x ∈ xs, 0 ≤ x ∧ x ≤ 65535) :
    Calls Try.prog 7 #[.agg (a8 a), .agg (a8 b), v] w fun e w' => e = .returned (.bool true) ∧ Below w.heap.size w w' := by
  obtain ⟨K, hK⟩ := stepAt_ex (mL a) (useK (mU a b) (mC xs)) (mC xs).length
  exact qback_any haw a b ha hb v xs w hs hx _ _ _ rfl rfl rfl (mb a b ha hb) (mc xs hx) K hK _ _ _ _ rfl rfl rfl (backV_len _) rfl
end Go.Proofs.Ytppfhcocmpmadaa
