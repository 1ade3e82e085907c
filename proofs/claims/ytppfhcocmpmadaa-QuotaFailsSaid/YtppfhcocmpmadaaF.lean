/- The law QuotaFails: its walk. -/
import Derived.Test.YtppfhcocmpmadaaC0
import Derived.Test.YtppfhcocmpmadaaPF
import Derived.Test.YtppfhcocmpmadaaB8
namespace Go.Proofs.Ytppfhcocmpmadaa
open Go.RowKit
set_option linter.unusedVariables false

theorem qf8_keep {B W W' : World} {g : Nat} {L U : Nat → Int} (h : W.cell? ⟨g, 0, none⟩ = some (.int .i64 (L 0)) ∧ W.cell? ⟨g, 1, none⟩ = some (.int .i64 (L 1)) ∧ W.cell? ⟨g, 2, none⟩ = some (.int .i64 (L 2)) ∧ W.cell? ⟨g, 3, none⟩ = some (.int .i64 (L 3)) ∧ W.cell? ⟨g, 4, none⟩ = some (.int .i64 (U 0)) ∧ W.cell? ⟨g, 5, none⟩ = some (.int .i64 (U 1)) ∧ W.cell? ⟨g, 6, none⟩ = some (.int .i64 (U 2)) ∧ W.cell? ⟨g, 7, none⟩ = some (.int .i64 (U 3)) ∧ Below B.heap.size B W) (hB : Below W.heap.size W W') :
    W'.cell? ⟨g, 0, none⟩ = some (.int .i64 (L 0)) ∧ W'.cell? ⟨g, 1, none⟩ = some (.int .i64 (L 1)) ∧ W'.cell? ⟨g, 2, none⟩ = some (.int .i64 (L 2)) ∧ W'.cell? ⟨g, 3, none⟩ = some (.int .i64 (L 3)) ∧ W'.cell? ⟨g, 4, none⟩ = some (.int .i64 (U 0)) ∧ W'.cell? ⟨g, 5, none⟩ = some (.int .i64 (U 1)) ∧ W'.cell? ⟨g, 6, none⟩ = some (.int .i64 (U 2)) ∧ W'.cell? ⟨g, 7, none⟩ = some (.int .i64 (U 3)) ∧ Below B.heap.size B W' := by
  obtain ⟨h0, h1, h2, h3, h4, h5, h6, h7, h8⟩ := h
  exact ⟨(hB.cell (p := ⟨g, 0, none⟩) (World.block_lt_of_cell? _ _ h0)).trans h0, (hB.cell (p := ⟨g, 1, none⟩) (World.block_lt_of_cell? _ _ h1)).trans h1, (hB.cell (p := ⟨g, 2, none⟩) (World.block_lt_of_cell? _ _ h2)).trans h2, (hB.cell (p := ⟨g, 3, none⟩) (World.block_lt_of_cell? _ _ h3)).trans h3, (hB.cell (p := ⟨g, 4, none⟩) (World.block_lt_of_cell? _ _ h4)).trans h4, (hB.cell (p := ⟨g, 5, none⟩) (World.block_lt_of_cell? _ _ h5)).trans h5, (hB.cell (p := ⟨g, 6, none⟩) (World.block_lt_of_cell? _ _ h6)).trans h6, (hB.cell (p := ⟨g, 7, none⟩) (World.block_lt_of_cell? _ _ h7)).trans h7, ch4 h8 hB⟩
theorem qf8_below {B W : World} {g : Nat} {L U : Nat → Int} (h : W.cell? ⟨g, 0, none⟩ = some (.int .i64 (L 0)) ∧ W.cell? ⟨g, 1, none⟩ = some (.int .i64 (L 1)) ∧ W.cell? ⟨g, 2, none⟩ = some (.int .i64 (L 2)) ∧ W.cell? ⟨g, 3, none⟩ = some (.int .i64 (L 3)) ∧ W.cell? ⟨g, 4, none⟩ = some (.int .i64 (U 0)) ∧ W.cell? ⟨g, 5, none⟩ = some (.int .i64 (U 1)) ∧ W.cell? ⟨g, 6, none⟩ = some (.int .i64 (U 2)) ∧ W.cell? ⟨g, 7, none⟩ = some (.int .i64 (U 3)) ∧ Below B.heap.size B W) : Below B.heap.size B W := by
  obtain ⟨h0, h1, h2, h3, h4, h5, h6, h7, h8⟩ := h
  exact h8
theorem qf8_of {B : World} {g : Nat} {L U : Nat → Int} (h : B.heap[g]? = some (.cells (bk L U) 27 (0, 0))) :
    B.cell? ⟨g, 0, none⟩ = some (.int .i64 (L 0)) ∧ B.cell? ⟨g, 1, none⟩ = some (.int .i64 (L 1)) ∧ B.cell? ⟨g, 2, none⟩ = some (.int .i64 (L 2)) ∧ B.cell? ⟨g, 3, none⟩ = some (.int .i64 (L 3)) ∧ B.cell? ⟨g, 4, none⟩ = some (.int .i64 (U 0)) ∧ B.cell? ⟨g, 5, none⟩ = some (.int .i64 (U 1)) ∧ B.cell? ⟨g, 6, none⟩ = some (.int .i64 (U 2)) ∧ B.cell? ⟨g, 7, none⟩ = some (.int .i64 (U 3)) ∧ Below B.heap.size B B := by
  obtain ⟨⟨c0, c1, c2, c3, c4, c5, c6, c7⟩, -⟩ := bk_cells h
  exact ⟨c0, c1, c2, c3, c4, c5, c6, c7, Below.refl _ _⟩
theorem k0qf (w : World) (o1 o2 : Obj) : Below w.heap.size w ((w.alloc o1).alloc o2) := ((Below.refl _ _).alloc (Nat.le_refl _) _).alloc (by simp) _

theorem lit2qf {W : World} {g : Nat} {t : TypeId} {a0 a1 : Int} (h : W.heap[g]? = some (.cells #[.int .i64 a0, .int .i64 a1] t (0, 0))) :
    W.cell? ⟨g, 0, none⟩ = some (.int .i64 a0) ∧ W.cell? ⟨g, 1, none⟩ = some (.int .i64 a1) := ⟨cells_cell h 0, cells_cell h 1⟩
/-- One charge that can be done. -/
theorem qf_one {L U N M : Nat → Int} {cs : List (Int × Int)} {K k j : Nat} {m : Int} (hm : MB L U) (hc : MC cs) (hK : StepAt L (useK U cs) cs.length K) (hk : k < K) (hn : k < cs.length) (hj : j < 4) (h1 : cs[k].1 = (j : Int)) (h2 : cs[k].2 = m)
    (hN : useK U cs k = N) (hM : useK U cs (k + 1) = M) (v : Value) (w : World) (hs : SrcC w v [((j : Int), m)]) :
    Calls Try.prog 13 #[.agg (bk L N), v] w fun e w' => e = .returned (.tuple #[.agg (bk L M), .int .i64 (-1), .int .i64 0]) ∧ Below w.heap.size w w' := by
  subst hN hM h2
  obtain ⟨g1, g2, g3⟩ := use_ok hK k j hk hn hj h1
  have := hc.amount _ (List.getElem_mem hn)
  have := step_ok L (useK U cs k) (use_right hm hK k (by omega)) j hj cs[k].2 (by omega) ⟨g1, g2⟩ v w hs
  rwa [g3] at this
/-- One charge that cannot be done. -/
theorem qf_bad {L U N : Nat → Int} {cs : List (Int × Int)} {K j : Nat} {m f : Int} (hm : MB L U) (hc : MC cs) (hK : StepAt L (useK U cs) cs.length K) (hn : K < cs.length) (hj : j < 4) (h1 : cs[K].1 = (j : Int)) (h2 : cs[K].2 = m)
    (hN : useK U cs K = N) (hf : failAt (L j) (N j + m) = f) (v : Value) (w : World) (hs : SrcC w v [((j : Int), m)]) :
    Calls Try.prog 13 #[.agg (bk L N), v] w fun e w' => e = .returned (.tuple #[v8 0 0 0 0 0 0 0 0, .int .i64 0, .int .i64 f]) ∧ Below w.heap.size w w' := by
  subst hN h2
  have h := use_bad hm hK j hn hj h1
  rw [hf] at h
  have := hc.amount _ (List.getElem_mem hn)
  exact step_bad L (useK U cs K) (use_right hm hK K (Nat.le_refl _)) j hj cs[K].2 (by omega) f hf h.1 v w hs
/-- The charges up to one that can be done. -/
theorem qf_upto {L U M : Nat → Int} {cs : List (Int × Int)} {K k n c : Nat} {a : Option Addr} (hm : MB L U) (hc : MC cs) (hK : StepAt L (useK U cs) cs.length K) (hk : k < K) (hn : k < cs.length)
    (hM : useK U cs (k + 1) = M) (w : World) (hs : SrcC w (.slice a n c) cs) :
    Calls Try.prog 13 #[.agg (bk L U), .slice a (k + 1) c] w fun e w' => e = .returned (.tuple #[v8 (L 0) (L 1) (L 2) (L 3) (M 0) (M 1) (M 2) (M 3), .int .i64 (-1), .int .i64 0]) ∧ Below w.heap.size w w' := by
  have hl : (cs.take (k + 1)).length = k + 1 := by simp; omega
  refine (steps_yes L U _ (cs.take (k + 1)) (k + 1) (by rw [hl]; exact stepAt_take hK (k + 1) hk) w (hs.take (k + 1) hn) (both_of hm.right (hc.take _).chk)).mono fun e w' ⟨he, hB⟩ => ⟨he.trans ?_, hB⟩
  rw [stepR, hl, if_neg (by omega), useK_take U cs (k + 1) (k + 1) (Nat.le_refl _), hM]
  rfl
/-- The charges up to the one that cannot be done. -/
theorem qf_uptobad {L U : Nat → Int} {cs : List (Int × Int)} {K n c : Nat} {f : Int} {a : Option Addr} (hm : MB L U) (hc : MC cs) (hK : StepAt L (useK U cs) cs.length K) (hn : K < cs.length)
    (hf : (failsV L (useK U cs (K + 1))).2 = f) (w : World) (hs : SrcC w (.slice a n c) cs) :
    Calls Try.prog 13 #[.agg (bk L U), .slice a (K + 1) c] w fun e w' => e = .returned (.tuple #[v8 0 0 0 0 0 0 0 0, .int .i64 (K : Int), .int .i64 f]) ∧ Below w.heap.size w w' := by
  have hl : (cs.take (K + 1)).length = K + 1 := by simp; omega
  refine (steps_yes L U _ (cs.take (K + 1)) K (by rw [hl]; exact stepAt_cut hK hn) w (hs.take (K + 1) hn) (both_of hm.right (hc.take _).chk)).mono fun e w' ⟨he, hB⟩ => ⟨he.trans ?_, hB⟩
  rw [stepR, hl, if_pos (by omega), useK_take U cs (K + 1) (K + 1) (Nat.le_refl _), hf]
  rfl
/-- All charges, where one cannot be done. -/
theorem qf_allbad {L U : Nat → Int} {cs : List (Int × Int)} {K : Nat} {f : Int} (hm : MB L U) (hc : MC cs) (hK : StepAt L (useK U cs) cs.length K) (hn : K < cs.length)
    (hf : (failsV L (useK U cs (K + 1))).2 = f) (v : Value) (w : World) (hs : SrcC w v cs) :
    Calls Try.prog 13 #[.agg (bk L U), v] w fun e w' => e = .returned (.tuple #[v8 0 0 0 0 0 0 0 0, .int .i64 (K : Int), .int .i64 f]) ∧ Below w.heap.size w w' :=
  (steps_yes L U v cs K hK w hs (both_of hm.right hc.chk)).mono fun e w' ⟨he, hB⟩ => ⟨he.trans (by rw [stepR, if_pos hn, hf]; rfl), hB⟩
/-- All charges, where all can be done. -/
theorem qf_all {L U V : Nat → Int} {cs : List (Int × Int)} (hm : MB L U) (hc : MC cs) (hK : StepAt L (useK U cs) cs.length cs.length)
    (hV : useK U cs cs.length = V) (v : Value) (w : World) (hs : SrcC w v cs) :
    Calls Try.prog 13 #[.agg (bk L U), v] w fun e w' => e = .returned (.tuple #[.agg (bk L V), .int .i64 (-1), .int .i64 0]) ∧ Below w.heap.size w w' :=
  (steps_yes L U v cs cs.length hK w hs (both_of hm.right hc.chk)).mono fun e w' ⟨he, hB⟩ => ⟨he.trans (by rw [stepR, if_neg (by omega), hV]), hB⟩

set_option maxRecDepth 100000 in
set_option maxHeartbeats 8000000 in
theorem qfails_any (haw : AwakeC) (a b : Nat → Int) (ha : ∀ j, j < 4 → 0 ≤ a j ∧ a j ≤ 255) (hb : ∀ j, j < 4 → 0 ≤ b j ∧ b j ≤ 255) (v : Value) (xs : List Int) (w : World) (hs : SrcE e16 w v xs) (hx : ∀ x ∈ xs, 0 ≤ x ∧ x ≤ 65535)
    (L U : Nat → Int) (cs : List (Int × Int)) (hL : mL a = L) (hU : mU a b = U) (hcs : mC xs = cs) (hm : MB L U) (hc : MC cs)
    (K : Nat) (hK : StepAt L (useK U cs) cs.length K) :
    Calls Try.prog 3 #[.agg (a8 a), .agg (a8 b), v] w fun e w' => e = .returned (.bool true) ∧ Below w.heap.size w w' := by
  have H_haw := Hd.mk haw
  have H_hs := Hd.mk hs
  have H_hx := Hd.mk hx
  have H_hL := Hd.mk hL
  have H_hU := Hd.mk hU
  have H_hcs := Hd.mk hcs
  have H_hm := Hd.mk hm
  have H_hc := Hd.mk hc
  have H_hK := Hd.mk hK
  have hlen := hc.len
  clear haw hs hx hL hU hcs hm hc hK
  obtain ⟨p0, p1, p2⟩ := push2 w (.cells (a8 a) 22) (.cells (a8 b) 22)
  have HP1 := Hd.mk p1
  have HP2 := Hd.mk p2
  have HW0 : Hd (Below w.heap.size w ((w.alloc (.cells (a8 a) 22)).alloc (.cells (a8 b) 22))) := ⟨((Below.refl _ _).alloc (Nat.le_refl _) _).alloc (by simp) _⟩
  have HSX := Hd.mk (H_hs.out.below (k0qf w (.cells (a8 a) 22) (.cells (a8 b) 22)))
  have HA := Hd.mk ha
  have HBb := Hd.mk hb
  clear ha hb p0 p1 p2
  obtain ⟨va, vc, rfl⟩ := H_hs.out.shape
  clear H_hs
  go_enter Try.func3, Try.ntmps3
  go_wp2_with fail
  refine (H_haw.out _).mono ?_
  rintro e w1 ⟨rfl, hB1⟩
  have h1 := keep HP1.out hB1
  have h2 := keep HP2.out hB1
  have HB_1 := Hd.mk (HW0.out.trans (hB1.mono (by simp; omega)))
  have HS1 := Hd.mk (HSX.out.below hB1)
  obtain ⟨c0, c1, c2, c3⟩ := a8_cells h1
  obtain ⟨d0, d1, d2, d3⟩ := a8_cells h2
  clear h1 h2 HP1 HP2 HW0 hB1 HSX
  go_wp2_with fail
  refine (made_any a b HA.out HBb.out _ xs _ HS1.out H_hx.out).mono ?_
  rw [H_hL.out, H_hU.out, H_hcs.out]
  rintro e w2 ⟨v', rfl, hv, hB2⟩
  have HSV := Hd.mk hv.src
  have HB2 := Hd.mk (ch4 HB_1.out hB2)
  clear hv c0 c1 c2 c3 d0 d1 d2 d3 HA HBb HB_1 hB2 HS1
  obtain ⟨va', vc', rfl⟩ := HSV.out.shape
  simp only [bk]
  go_upto_region 4 with fail
  obtain ⟨W2, hW⟩ : ∃ W, W = w2.alloc (.cells (bk L U) 27) := ⟨_, rfl⟩
  have hX : Below w2.heap.size w2 W2 := by rw [hW]; exact (Below.refl _ _).alloc (Nat.le_refl _) _
  have hT : W2.heap[w2.heap.size]? = some (.cells (bk L U) 27 (0, 0)) := by rw [hW]; exact World.alloc_heap_new _ _
  simp only [bk] at hW
  rw [← hW]
  have HT7_b2 := Hd.mk hT
  clear hW hT
  have HB_c2 := Hd.mk (ch4 HB2.out hX)
  have SV_c2 := Hd.mk (HSV.out.below hX)
  clear HB2 HSV
  clear hX
  obtain ⟨c0, c1, c2, c3, c4, c5, c6, c7⟩ := lit8 HT7_b2.out
  go_upto_region 5 with fail
  clear c0 c1 c2 c3 c4 c5 c6 c7
  obtain ⟨W3, hW⟩ : ∃ W, W = W2.alloc (.cells (bk L U) 27) := ⟨_, rfl⟩
  have hX : Below W2.heap.size W2 W3 := by rw [hW]; exact (Below.refl _ _).alloc (Nat.le_refl _) _
  have hT : W3.heap[W2.heap.size]? = some (.cells (bk L U) 27 (0, 0)) := by rw [hW]; exact World.alloc_heap_new _ _
  simp only [bk] at hW
  rw [← hW]
  have HT9 := Hd.mk hT
  clear hW hT
  have HX3 := Hd.mk hX
  clear hX
  have hn0 : (0 : Int) ≤ (cs.length : Int) := by omega
  go_wp2_with fail
  go_loopw [37] (fun i W => ∃ k : Nat, k ≤ K ∧ i = .int .i64 k ∧ W.heap[W2.heap.size]? = some (.cells (bk L (useK U cs k)) 27 (0, 0)) ∧ Below W2.heap.size W2 W) (fun i _ => cs.length - (intOf i).toNat)
  case atStart => exact ⟨0, Nat.zero_le _, rfl, by rw [useK_zero]; exact HT9.out, HX3.out⟩
  case round =>
    obtain ⟨k, hk, rfl, hT, hB⟩ := hrel
    have hkK := hk
    have hKn := H_hK.out.le
    have HR7 := Hd.mk (keep HT7_b2.out hB)
    have HRS := Hd.mk (SV_c2.out.below hB)
    have HRB := Hd.mk hB
    clear HT9 HX3 HT7_b2 SV_c2 hB
    by_cases hlt : k < cs.length
    · obtain ⟨b, off, rfl, hb, hc1, hc2⟩ := HRS.out.at k hlt
      have hkd := H_hc.out.kind _ (List.getElem_mem hlt)
      have ham := H_hc.out.amount _ (List.getElem_mem hlt)
      obtain ⟨j, hj⟩ : ∃ j : Nat, cs[k].1 = (j : Int) := ⟨cs[k].1.toNat, by omega⟩
      obtain ⟨m, hm⟩ : ∃ m, cs[k].2 = m := ⟨_, rfl⟩
      obtain ⟨N, hN⟩ : ∃ N, useK U cs k = N := ⟨_, rfl⟩
      obtain ⟨M, hM⟩ : ∃ M, useK U cs (k + 1) = M := ⟨_, rfl⟩
      rw [hj] at hc1 hkd
      rw [hm] at hc2 ham
      rw [hN] at hT
      have HJE := Hd.mk hj
      have HME := Hd.mk hm
      have HN := Hd.mk hN
      have HM := Hd.mk hM
      have HR9 := Hd.mk hT
      have hj4 : j < 4 := by omega
      have j0 : (0 : Int) ≤ (j : Int) := by omega
      have j1 : (j : Int) < 4 := by omega
      have HJ := Hd.mk hj4
      obtain ⟨ha1, ha2⟩ := ham
      have hlt' : (k : Int) < (cs.length : Int) := by omega
      have k0 : (0 : Int) ≤ (k : Int) := by omega
      have hlen := H_hc.out.len
      have hul := useK_small H_hc.out (fun j hj => ⟨(H_hm.out.use j hj).1, by have := H_hm.out.use j hj; have := H_hm.out.lim j hj; omega⟩) k j (by omega) hj4
      rw [hN] at hul
      obtain ⟨hu1, hu2⟩ := hul
      have HLT := Hd.mk hlt
      clear hkd hj hm hN hM hT hj4
      go_upto_region 8 with fail
      clear hc1 hc2
      obtain ⟨Wc, hW⟩ : ∃ W, W = wr.alloc (.cells #[.int .i64 (j : Int), .int .i64 m] 32) := ⟨_, rfl⟩
      have hX : Below wr.heap.size wr Wc := by rw [hW]; exact (Below.refl _ _).alloc (Nat.le_refl _) _
      have hT : Wc.heap[wr.heap.size]? = some (.cells #[.int .i64 (j : Int), .int .i64 m] 32 (0, 0)) := by rw [hW]; exact World.alloc_heap_new _ _
      rw [← hW]
      have HT11 := Hd.mk hT
      clear hW hT
      have HB_c := Hd.mk (ch4 HRB.out hX)
      have HT7_c := Hd.mk (keep HR7.out hX)
      have HT9_c := Hd.mk (keep HR9.out hX)
      have SV_c := Hd.mk (HRS.out.below hX)
      clear HRB HR7 HR9 HRS
      clear hX
      obtain ⟨c0, c1, c2, c3, c4, c5, c6, c7⟩ := lit8 HT9_c.out
      obtain ⟨e0, e1⟩ := lit2qf HT11.out
      go_wp2_with fail
      clear c0 c1 c2 c3 c4 c5 c6 c7 e0 e1
      rcases Nat.lt_or_ge k K with hkK | hkK
      · obtain ⟨q1, q2, q3⟩ := use_ok H_hK.out k j hkK HLT.out HJ.out HJE.out
        rw [HN.out, HME.out] at q1 q2
        rw [HN.out, HME.out, HM.out] at q3
        have hMj : M j = N j + m := by rw [← q3]; simp [upd]
        clear q3
        have HKK := Hd.mk hkK
        have HMJ := Hd.mk hMj
        clear hkK hMj
        refine (qf_one H_hm.out H_hc.out H_hK.out HKK.out HLT.out HJ.out HJE.out HME.out HN.out HM.out _ _ (srcLit Wc [((j : Int), m)] (by simp))).mono ?_
        rintro e w4 ⟨rfl, hB⟩
        have hX := ((Below.refl Wc.heap.size Wc).alloc (Nat.le_refl _) (.cells #[.int .i64 (j : Int), .int .i64 m] 32)).trans (hB.mono (by simp))
        have HB_4 := Hd.mk (ch4 HB_c.out hX)
        have HT7_4 := Hd.mk (keep HT7_c.out hX)
        have HT9_4 := Hd.mk (keep HT9_c.out hX)
        have HT11_4 := Hd.mk (keep HT11.out hX)
        have SV_4 := Hd.mk (SV_c.out.below hX)
        clear HB_c HT7_c HT9_c HT11 SV_c
        clear hB hX
        simp only [bk]
        go_upto_region 9 with fail
        obtain ⟨W4, hW⟩ : ∃ W, W = w4.alloc (.cells (bk L M) 27) := ⟨_, rfl⟩
        have hX : Below w4.heap.size w4 W4 := by rw [hW]; exact (Below.refl _ _).alloc (Nat.le_refl _) _
        have hT : W4.heap[w4.heap.size]? = some (.cells (bk L M) 27 (0, 0)) := by rw [hW]; exact World.alloc_heap_new _ _
        simp only [bk] at hW
        rw [← hW]
        have HT12_b4 := Hd.mk hT
        clear hW hT
        have HB_c4 := Hd.mk (ch4 HB_4.out hX)
        have HT7_c4 := Hd.mk (keep HT7_4.out hX)
        have HT9_c4 := Hd.mk (keep HT9_4.out hX)
        have HT11_c4 := Hd.mk (keep HT11_4.out hX)
        have SV_c4 := Hd.mk (SV_4.out.below hX)
        clear HB_4 HT7_4 HT9_4 HT11_4 SV_4
        clear hX
        have hcap : cs.length ≤ vc' := by
          rcases SV_c4.out with ⟨e, -⟩ | ⟨b', off', c', hv, h1, -⟩
          · rw [e]; exact Nat.zero_le _
          · simp only [Value.slice.injEq] at hv; omega
        have hk1 : (0 : Int) ≤ (k : Int) + 1 := by omega
        have hk2 : (k : Int) + 1 ≤ (vc' : Int) := by omega
        have hk3 : IntKind.i64.wrap ((k : Int) + 1) = (k : Int) + 1 := IntWalk.i64_in _ ⟨by omega, by omega⟩
        go_cut [15, 16, 17] (fun v15 v16 v17 wx => ∃ g, v15 = .pointer (some ⟨g, 0, none⟩) ∧ wx.heap[g]? = some (.cells (bk L M) 27 (0, 0)) ∧ v16 = .int .i64 (-1) ∧ v17 = .int .i64 0 ∧ Below W4.heap.size W4 wx)
        case first =>
          have hS0 := qf8_of HT7_c4.out
          go_region_held3 (fun W => W.cell? ⟨w2.heap.size, 0, none⟩ = some (.int .i64 (L 0)) ∧ W.cell? ⟨w2.heap.size, 1, none⟩ = some (.int .i64 (L 1)) ∧ W.cell? ⟨w2.heap.size, 2, none⟩ = some (.int .i64 (L 2)) ∧ W.cell? ⟨w2.heap.size, 3, none⟩ = some (.int .i64 (L 3)) ∧ W.cell? ⟨w2.heap.size, 4, none⟩ = some (.int .i64 (U 0)) ∧ W.cell? ⟨w2.heap.size, 5, none⟩ = some (.int .i64 (U 1)) ∧ W.cell? ⟨w2.heap.size, 6, none⟩ = some (.int .i64 (U 2)) ∧ W.cell? ⟨w2.heap.size, 7, none⟩ = some (.int .i64 (U 3)) ∧ Below W4.heap.size W4 W)
            (first | with_reducible assumption | exact qf8_keep hS0 (by repeat (with_reducible first | exact Below.refl _ _ | apply bl_alloc | apply bl_drew | (refine bl_set ?_ (by simp) _) | (apply bl_call; assumption))))
            (first
            | (go_at_call 13; refine (qf_upto H_hm.out H_hc.out H_hK.out HKK.out HLT.out HM.out _ (SV_c4.out.below (qf8_below (by assumption)))).mono ?_; rintro e wk ⟨rfl, hBk⟩; (first | (have hz := hBk.block (W4.heap.size) (by (try rw [drew_heap]); simp only [World.size_alloc]; omega); (try rw [drew_heap] at hz); rw [two_old] at hz; obtain ⟨⟨e0, e1, e2, e3, e4, e5, e6, e7⟩, ⟨f0, f1, f2, f3, f4, f5, f6, f7⟩⟩ := z_cells hz) | (have hz := hBk.block (W4.heap.size + 1) (by (try rw [drew_heap]); simp only [World.size_alloc]; omega); (try rw [drew_heap] at hz); rw [two_new] at hz; obtain ⟨⟨e0, e1, e2, e3, e4, e5, e6, e7⟩, ⟨f0, f1, f2, f3, f4, f5, f6, f7⟩⟩ := z_cells hz) | (have hz := hBk.block (W4.heap.size) (by (try rw [drew_heap]); simp only [World.size_alloc]; omega); (try rw [drew_heap] at hz); rw [World.alloc_heap_new] at hz; obtain ⟨⟨e0, e1, e2, e3, e4, e5, e6, e7⟩, ⟨f0, f1, f2, f3, f4, f5, f6, f7⟩⟩ := z_cells hz) | skip))
            )
          all_goals
            have HF := Hd.mk (qf8_below (by assumption))
            try have HZ := Hd.mk (set_bk L M hz)
            go_wp2_with fail
            go_meet
            first | exact ⟨_, rfl, HZ.out, rfl, rfl, HF.out⟩ | exact ⟨_, rfl, World.alloc_heap_new _ _, rfl, rfl, HF.out⟩
        case rest =>
        obtain ⟨g, rfl, hG, rfl, rfl, hBx⟩ := hcut
        have HB_5 := Hd.mk (ch4 HB_c4.out hBx)
        have HT7_5 := Hd.mk (keep HT7_c4.out hBx)
        have HT9_5 := Hd.mk (keep HT9_c4.out hBx)
        have HT11_5 := Hd.mk (keep HT11_c4.out hBx)
        have HT12_5 := Hd.mk (keep HT12_b4.out hBx)
        have SV_5 := Hd.mk (SV_c4.out.below hBx)
        clear HB_c4 HT7_c4 HT9_c4 HT11_c4 HT12_b4 SV_c4
        clear hBx hcap hk1 hk2 hk3
        have HT15 := Hd.mk hG
        clear hG
        obtain ⟨c0, c1, c2, c3, c4, c5, c6, c7⟩ := lit8 HT12_5.out
        obtain ⟨d0, d1, d2, d3, d4, d5, d6, d7⟩ := lit8 HT15.out
        obtain ⟨e0, e1⟩ := lit2qf HT11_5.out
        have hu12 := (cells_cell HT12_5.out (4 + j)).trans (bk_use L M j HJ.out)
        have hu9 := (cells_cell HT9_5.out (4 + j)).trans (bk_use L N j HJ.out)
        rw [HMJ.out] at hu12
        have hw : IntKind.i64.wrap (N j + m) = N j + m := IntWalk.i64_in _ ⟨by omega, by omega⟩
        have hne : ∀ W : World, (binOp .neq 27 (v8 (L 0) (L 1) (L 2) (L 3) (M 0) (M 1) (M 2) (M 3)) (v8 (L 0) (L 1) (L 2) (L 3) (M 0) (M 1) (M 2) (M 3))).run Try.prog W = .ok (.bool false) W := fun W => by have := nev_bk L M L M W; rwa [eq4_self, eq4_self] at this
        have gd27 := guard27
        obtain ⟨y, hy⟩ : ∃ y, N j = y := ⟨_, rfl⟩
        rw [hy] at hu12 hu9 hw q1 q2 hu1 hu2
        clear hy
        go_wp2_with fail
        go_quiet (fail)
        go_upto_region 16 with fail
        clear d0 d1 d2 d3 d4 d5 d6 d7 e0 e1 hu12 hu9 hw hne
        have HS9 := Hd.mk (bk_setall L M HT9_5.out)
        have HSB := Hd.mk (set8_below (below_drewN HB_5.out nq) L M (Nat.le_refl _))
        obtain ⟨⟨g0, g1, g2, g3, g4, g5, g6, g7⟩, ⟨f0, f1, f2, f3, f4, f5, f6, f7⟩⟩ := bk_cells HT9_5.out
        go_wp2_with fail
        go_roundw
        case rel => exact ⟨k + 1, HKK.out, by go_num, by rw [HM.out]; exact HS9.out, HSB.out⟩
        case measure => simp [intOf] <;> omega
      · obtain rfl : k = K := by omega
        obtain ⟨f, hf⟩ : ∃ f, failAt (L j) (N j + m) = f := ⟨_, rfl⟩
        have hub := use_bad H_hm.out H_hK.out j HLT.out HJ.out HJE.out
        rw [HN.out, HME.out, hf] at hub
        obtain ⟨hf0, hf1⟩ := hub
        have HF0 := Hd.mk hf
        have HF1 := Hd.mk hf1
        have d1 : decide (f = 0) = false := decide_eq_false hf0
        have d4 : (f == 0) = false := by simpa using hf0
        have hcase : (L j < N j + m ∧ f = 252) ∨ (¬ L j < N j + m ∧ decide (L j < N j + m) = false ∧ (f == 252) = false) := by
          unfold failAt at hf
          by_cases h : L j < N j + m
          · rw [if_pos h] at hf; exact .inl ⟨h, hf.symm⟩
          · rw [if_neg h] at hf
            refine .inr ⟨h, decide_eq_false h, ?_⟩
            rw [← hf]
            split <;> rfl
        clear hf hf1 hkK
        refine (qf_bad H_hm.out H_hc.out H_hK.out HLT.out HJ.out HJE.out HME.out HN.out HF0.out _ _ (srcLit Wc [((j : Int), m)] (by simp))).mono ?_
        rintro e w4 ⟨rfl, hB⟩
        have hX := ((Below.refl Wc.heap.size Wc).alloc (Nat.le_refl _) (.cells #[.int .i64 (j : Int), .int .i64 m] 32)).trans (hB.mono (by simp))
        have HB_4 := Hd.mk (ch4 HB_c.out hX)
        have HT7_4 := Hd.mk (keep HT7_c.out hX)
        have HT9_4 := Hd.mk (keep HT9_c.out hX)
        have HT11_4 := Hd.mk (keep HT11.out hX)
        have SV_4 := Hd.mk (SV_c.out.below hX)
        clear HB_c HT7_c HT9_c HT11 SV_c
        clear hB hX
        go_upto_region 9 with fail
        obtain ⟨W4, hW⟩ : ∃ W, W = w4.alloc (.cells #[.int .i64 0, .int .i64 0, .int .i64 0, .int .i64 0, .int .i64 0, .int .i64 0, .int .i64 0, .int .i64 0] 27) := ⟨_, rfl⟩
        have hX : Below w4.heap.size w4 W4 := by rw [hW]; exact (Below.refl _ _).alloc (Nat.le_refl _) _
        have hT : W4.heap[w4.heap.size]? = some (.cells #[.int .i64 0, .int .i64 0, .int .i64 0, .int .i64 0, .int .i64 0, .int .i64 0, .int .i64 0, .int .i64 0] 27 (0, 0)) := by rw [hW]; exact World.alloc_heap_new _ _
        rw [← hW]
        have HT12 := Hd.mk hT
        clear hW hT
        have HB_c4 := Hd.mk (ch4 HB_4.out hX)
        have HT7_c4 := Hd.mk (keep HT7_4.out hX)
        have HT9_c4 := Hd.mk (keep HT9_4.out hX)
        have HT11_c4 := Hd.mk (keep HT11_4.out hX)
        have SV_c4 := Hd.mk (SV_4.out.below hX)
        clear HB_4 HT7_4 HT9_4 HT11_4 SV_4
        clear hX
        have hcap : cs.length ≤ vc' := by
          rcases SV_c4.out with ⟨e, -⟩ | ⟨b', off', c', hv, h1, -⟩
          · rw [e]; exact Nat.zero_le _
          · simp only [Value.slice.injEq] at hv; omega
        have hk1 : (0 : Int) ≤ (k : Int) + 1 := by omega
        have hk2 : (k : Int) + 1 ≤ (vc' : Int) := by omega
        have hk3 : IntKind.i64.wrap ((k : Int) + 1) = (k : Int) + 1 := IntWalk.i64_in _ ⟨by omega, by omega⟩
        go_cut [15, 16, 17] (fun v15 v16 v17 wx => ∃ g, v15 = .pointer (some ⟨g, 0, none⟩) ∧ wx.heap[g]? = some (.cells #[.int .i64 0, .int .i64 0, .int .i64 0, .int .i64 0, .int .i64 0, .int .i64 0, .int .i64 0, .int .i64 0] 27 (0, 0)) ∧ v16 = .int .i64 (k : Int) ∧ v17 = .int .i64 f ∧ Below W4.heap.size W4 wx)
        case first =>
          have hS0 := qf8_of HT7_c4.out
          go_region_held3 (fun W => W.cell? ⟨w2.heap.size, 0, none⟩ = some (.int .i64 (L 0)) ∧ W.cell? ⟨w2.heap.size, 1, none⟩ = some (.int .i64 (L 1)) ∧ W.cell? ⟨w2.heap.size, 2, none⟩ = some (.int .i64 (L 2)) ∧ W.cell? ⟨w2.heap.size, 3, none⟩ = some (.int .i64 (L 3)) ∧ W.cell? ⟨w2.heap.size, 4, none⟩ = some (.int .i64 (U 0)) ∧ W.cell? ⟨w2.heap.size, 5, none⟩ = some (.int .i64 (U 1)) ∧ W.cell? ⟨w2.heap.size, 6, none⟩ = some (.int .i64 (U 2)) ∧ W.cell? ⟨w2.heap.size, 7, none⟩ = some (.int .i64 (U 3)) ∧ Below W4.heap.size W4 W)
            (first | with_reducible assumption | exact qf8_keep hS0 (by repeat (with_reducible first | exact Below.refl _ _ | apply bl_alloc | apply bl_drew | (refine bl_set ?_ (by simp) _) | (apply bl_call; assumption))))
            (first
            | (go_at_call 13; refine (qf_uptobad H_hm.out H_hc.out H_hK.out HLT.out HF1.out _ (SV_c4.out.below (qf8_below (by assumption)))).mono ?_; rintro e wk ⟨rfl, hBk⟩; (first | (have hz := hBk.block (W4.heap.size) (by (try rw [drew_heap]); simp only [World.size_alloc]; omega); (try rw [drew_heap] at hz); rw [two_old] at hz; obtain ⟨⟨e0, e1, e2, e3, e4, e5, e6, e7⟩, ⟨f0, f1, f2, f3, f4, f5, f6, f7⟩⟩ := z_cells hz) | (have hz := hBk.block (W4.heap.size + 1) (by (try rw [drew_heap]); simp only [World.size_alloc]; omega); (try rw [drew_heap] at hz); rw [two_new] at hz; obtain ⟨⟨e0, e1, e2, e3, e4, e5, e6, e7⟩, ⟨f0, f1, f2, f3, f4, f5, f6, f7⟩⟩ := z_cells hz) | (have hz := hBk.block (W4.heap.size) (by (try rw [drew_heap]); simp only [World.size_alloc]; omega); (try rw [drew_heap] at hz); rw [World.alloc_heap_new] at hz; obtain ⟨⟨e0, e1, e2, e3, e4, e5, e6, e7⟩, ⟨f0, f1, f2, f3, f4, f5, f6, f7⟩⟩ := z_cells hz) | skip))
            )
          all_goals
            have HF := Hd.mk (qf8_below (by assumption))
            try have HZ := Hd.mk (set_bk zf zf hz)
            go_wp2_with fail
            go_meet
            first | exact ⟨_, rfl, HZ.out, rfl, rfl, HF.out⟩ | exact ⟨_, rfl, World.alloc_heap_new _ _, rfl, rfl, HF.out⟩
        case rest =>
        obtain ⟨g, rfl, hG, rfl, rfl, hBx⟩ := hcut
        have HB_5 := Hd.mk (ch4 HB_c4.out hBx)
        have HT7_5 := Hd.mk (keep HT7_c4.out hBx)
        have HT9_5 := Hd.mk (keep HT9_c4.out hBx)
        have HT11_5 := Hd.mk (keep HT11_c4.out hBx)
        have HT12_5 := Hd.mk (keep HT12.out hBx)
        have SV_5 := Hd.mk (SV_c4.out.below hBx)
        clear HB_c4 HT7_c4 HT9_c4 HT11_c4 HT12 SV_c4
        clear hBx hcap hk1 hk2 hk3
        have HT15 := Hd.mk hG
        clear hG
        obtain ⟨e0, e1⟩ := lit2qf HT11_5.out
        have hu9 := (cells_cell HT9_5.out (4 + j)).trans (bk_use L N j HJ.out)
        have hl9 := (cells_cell HT9_5.out j).trans (bk_lim L N j HJ.out)
        have hw : IntKind.i64.wrap (N j + m) = N j + m := IntWalk.i64_in _ ⟨by omega, by omega⟩
        obtain ⟨y, hy⟩ : ∃ y, N j = y := ⟨_, rfl⟩
        obtain ⟨l, hl⟩ : ∃ l, L j = l := ⟨_, rfl⟩
        rw [hy] at hu9 hw hcase
        rw [hl] at hl9 hcase
        clear hy hl
        obtain ⟨ov, hov⟩ : ∃ ov : Bool, decide (l < y + m) = ov := ⟨_, rfl⟩
        have hov2 : (f == 252) = ov := by
          rcases hcase with ⟨q1, rfl⟩ | ⟨q1, q2, q3⟩
          · rw [← hov, decide_eq_true q1]; rfl
          · rw [q3, ← hov, q2]
        clear hcase
        go_wp2_with fail
        go_quiet (fail)
        go_upto_region 12 with fail
        obtain ⟨W5, hW5⟩ : ∃ W, W = wc.drewN nq := ⟨_, rfl⟩
        have hX : Below wc.heap.size wc W5 := by rw [hW5]; exact below_drewN (Below.refl _ _) _
        rw [← hW5]
        clear hW5 e0 e1 hu9 hl9 hw
        have HB_6 := Hd.mk (ch4 HB_5.out hX)
        have HT7_6 := Hd.mk (keep HT7_5.out hX)
        have HT9_6 := Hd.mk (keep HT9_5.out hX)
        have HT11_6 := Hd.mk (keep HT11_5.out hX)
        have HT12_6 := Hd.mk (keep HT12_5.out hX)
        have HT15_6 := Hd.mk (keep HT15.out hX)
        have SV_6 := Hd.mk (SV_5.out.below hX)
        clear HB_5 HT7_5 HT9_5 HT11_5 HT12_5 HT15 SV_5
        clear hX
        obtain ⟨c0, c1, c2, c3, c4, c5, c6, c7⟩ := lit8 HT7_6.out
        go_wp2_with fail
        refine (qf_allbad H_hm.out H_hc.out H_hK.out HLT.out HF1.out _ _ SV_6.out).mono ?_
        rintro e w7 ⟨rfl, hB⟩
        have HB_7 := Hd.mk (ch4 HB_6.out hB)
        have HT7_7 := Hd.mk (keep HT7_6.out hB)
        have HT9_7 := Hd.mk (keep HT9_6.out hB)
        have HT11_7 := Hd.mk (keep HT11_6.out hB)
        have HT12_7 := Hd.mk (keep HT12_6.out hB)
        have HT15_7 := Hd.mk (keep HT15_6.out hB)
        have SV_7 := Hd.mk (SV_6.out.below hB)
        clear HB_6 HT7_6 HT9_6 HT11_6 HT12_6 HT15_6 SV_6
        clear hB
        clear c0 c1 c2 c3 c4 c5 c6 c7
        go_upto_region 13 with fail
        obtain ⟨W7, hW⟩ : ∃ W, W = w7.alloc (.cells #[.int .i64 0, .int .i64 0, .int .i64 0, .int .i64 0, .int .i64 0, .int .i64 0, .int .i64 0, .int .i64 0] 27) := ⟨_, rfl⟩
        have hX : Below w7.heap.size w7 W7 := by rw [hW]; exact (Below.refl _ _).alloc (Nat.le_refl _) _
        rw [← hW]
        clear hW
        have HB_c7 := Hd.mk (ch4 HB_7.out hX)
        have HT7_c7 := Hd.mk (keep HT7_7.out hX)
        have HT9_c7 := Hd.mk (keep HT9_7.out hX)
        have HT11_c7 := Hd.mk (keep HT11_7.out hX)
        have HT12_c7 := Hd.mk (keep HT12_7.out hX)
        have HT15_c7 := Hd.mk (keep HT15_7.out hX)
        have SV_c7 := Hd.mk (SV_7.out.below hX)
        clear HB_7 HT7_7 HT9_7 HT11_7 HT12_7 HT15_7 SV_7
        clear hX
        obtain ⟨c0, c1, c2, c3, c4, c5, c6, c7⟩ := lit8 HT12_c7.out
        obtain ⟨p0, p1, p2, p3, p4, p5, p6, p7⟩ := lit8 HT15_c7.out
        have heq : ∀ W : World, (binOp .eql 27 (v8 0 0 0 0 0 0 0 0) (v8 0 0 0 0 0 0 0 0)).run Try.prog W = .ok (.bool true) W := fun W => by have := eqv_bk zf zf zf zf W; rwa [eq4_self] at this
        have gd27 := guard27
        skip
        go_wp2_with fail
        go_ret
        exact ⟨rfl, ch4 HB_c2.out HB_c7.out⟩
    · obtain rfl : k = cs.length := by omega
      obtain rfl : K = cs.length := by omega
      obtain ⟨V, hV⟩ : ∃ V, useK U cs cs.length = V := ⟨_, rfl⟩
      rw [hV] at hT
      have HR9 := Hd.mk hT
      have HV := Hd.mk hV
      clear hT hV hk hkK hKn
      obtain ⟨c0, c1, c2, c3, c4, c5, c6, c7⟩ := lit8 HR7.out
      go_wp2_with fail
      refine (qf_all H_hm.out H_hc.out H_hK.out HV.out _ _ HRS.out).mono ?_
      rintro e w4 ⟨rfl, hB⟩
      have HB_4 := Hd.mk (ch4 HRB.out hB)
      have HT7_4 := Hd.mk (keep HR7.out hB)
      have HT9_4 := Hd.mk (keep HR9.out hB)
      have SV_4 := Hd.mk (HRS.out.below hB)
      clear HRB HR7 HR9 HRS
      clear hB
      clear c0 c1 c2 c3 c4 c5 c6 c7
      simp only [bk]
      go_upto_region 19 with fail
      obtain ⟨W4, hW⟩ : ∃ W, W = w4.alloc (.cells (bk L V) 27) := ⟨_, rfl⟩
      have hX : Below w4.heap.size w4 W4 := by rw [hW]; exact (Below.refl _ _).alloc (Nat.le_refl _) _
      have hT : W4.heap[w4.heap.size]? = some (.cells (bk L V) 27 (0, 0)) := by rw [hW]; exact World.alloc_heap_new _ _
      simp only [bk] at hW
      rw [← hW]
      have HT22_b4 := Hd.mk hT
      clear hW hT
      have HB_c4 := Hd.mk (ch4 HB_4.out hX)
      have HT7_c4 := Hd.mk (keep HT7_4.out hX)
      have HT9_c4 := Hd.mk (keep HT9_4.out hX)
      have SV_c4 := Hd.mk (SV_4.out.below hX)
      clear HB_4 HT7_4 HT9_4 SV_4
      clear hX
      obtain ⟨c0, c1, c2, c3, c4, c5, c6, c7⟩ := lit8 HT22_b4.out
      obtain ⟨d0, d1, d2, d3, d4, d5, d6, d7⟩ := lit8 HT9_c4.out
      have heq : ∀ W : World, (binOp .eql 27 (v8 (L 0) (L 1) (L 2) (L 3) (V 0) (V 1) (V 2) (V 3)) (v8 (L 0) (L 1) (L 2) (L 3) (V 0) (V 1) (V 2) (V 3))).run Try.prog W = .ok (.bool true) W := fun W => by have := eqv_bk L V L V W; rwa [eq4_self, eq4_self] at this
      have gd27 := guard27
      go_wp2_with fail
      go_ret
      exact ⟨rfl, ch4 HB_c2.out HB_c4.out⟩

theorem qfails (haw : AwakeC) (a b : Nat → Int) (ha : ∀ j, j < 4 → 0 ≤ a j ∧ a j ≤ 255) (hb : ∀ j, j < 4 → 0 ≤ b j ∧ b j ≤ 255) (v : Value) (xs : List Int) (w : World) (hs : SrcE e16 w v xs) (hx : ∀ x ∈ xs, 0 ≤ x ∧ x ≤ 65535) :
    Calls Try.prog 3 #[.agg (a8 a), .agg (a8 b), v] w fun e w' => e = .returned (.bool true) ∧ Below w.heap.size w w' := by
  obtain ⟨K, hK⟩ := stepAt_ex (mL a) (useK (mU a b) (mC xs)) (mC xs).length
  exact qfails_any haw a b ha hb v xs w hs hx _ _ _ rfl rfl rfl (mb a b ha hb) (mc xs hx) K hK
end Go.Proofs.Ytppfhcocmpmadaa
