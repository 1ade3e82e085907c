/- The law QuotaPeaks: its walk. -/
import Derived.Test.YtppfhcocmpmadaaC0
import Derived.Test.YtppfhcocmpmadaaPP
import Derived.Test.YtppfhcocmpmadaaB8
namespace Go.Proofs.Ytppfhcocmpmadaa
open Go.RowKit
set_option linter.unusedVariables false

theorem qp9_keep {B W W' : World} {g g2 i : Nat} {L U : Nat → Int} {x : Int} (h : W.cell? ⟨g, 0, none⟩ = some (.int .i64 (L 0)) ∧ W.cell? ⟨g, 1, none⟩ = some (.int .i64 (L 1)) ∧ W.cell? ⟨g, 2, none⟩ = some (.int .i64 (L 2)) ∧ W.cell? ⟨g, 3, none⟩ = some (.int .i64 (L 3)) ∧ W.cell? ⟨g, 4, none⟩ = some (.int .i64 (U 0)) ∧ W.cell? ⟨g, 5, none⟩ = some (.int .i64 (U 1)) ∧ W.cell? ⟨g, 6, none⟩ = some (.int .i64 (U 2)) ∧ W.cell? ⟨g, 7, none⟩ = some (.int .i64 (U 3)) ∧ W.cell? ⟨g2, i, none⟩ = some (.int .i64 x) ∧ Below B.heap.size B W) (hB : Below W.heap.size W W') :
    W'.cell? ⟨g, 0, none⟩ = some (.int .i64 (L 0)) ∧ W'.cell? ⟨g, 1, none⟩ = some (.int .i64 (L 1)) ∧ W'.cell? ⟨g, 2, none⟩ = some (.int .i64 (L 2)) ∧ W'.cell? ⟨g, 3, none⟩ = some (.int .i64 (L 3)) ∧ W'.cell? ⟨g, 4, none⟩ = some (.int .i64 (U 0)) ∧ W'.cell? ⟨g, 5, none⟩ = some (.int .i64 (U 1)) ∧ W'.cell? ⟨g, 6, none⟩ = some (.int .i64 (U 2)) ∧ W'.cell? ⟨g, 7, none⟩ = some (.int .i64 (U 3)) ∧ W'.cell? ⟨g2, i, none⟩ = some (.int .i64 x) ∧ Below B.heap.size B W' := by
  obtain ⟨h0, h1, h2, h3, h4, h5, h6, h7, h8, h9⟩ := h
  exact ⟨(hB.cell (p := ⟨g, 0, none⟩) (World.block_lt_of_cell? _ _ h0)).trans h0, (hB.cell (p := ⟨g, 1, none⟩) (World.block_lt_of_cell? _ _ h1)).trans h1, (hB.cell (p := ⟨g, 2, none⟩) (World.block_lt_of_cell? _ _ h2)).trans h2, (hB.cell (p := ⟨g, 3, none⟩) (World.block_lt_of_cell? _ _ h3)).trans h3, (hB.cell (p := ⟨g, 4, none⟩) (World.block_lt_of_cell? _ _ h4)).trans h4, (hB.cell (p := ⟨g, 5, none⟩) (World.block_lt_of_cell? _ _ h5)).trans h5, (hB.cell (p := ⟨g, 6, none⟩) (World.block_lt_of_cell? _ _ h6)).trans h6, (hB.cell (p := ⟨g, 7, none⟩) (World.block_lt_of_cell? _ _ h7)).trans h7, (hB.cell (p := ⟨g2, i, none⟩) (World.block_lt_of_cell? _ _ h8)).trans h8, ch4 h9 hB⟩
theorem qp9_below {B W : World} {g g2 i : Nat} {L U : Nat → Int} {x : Int} (h : W.cell? ⟨g, 0, none⟩ = some (.int .i64 (L 0)) ∧ W.cell? ⟨g, 1, none⟩ = some (.int .i64 (L 1)) ∧ W.cell? ⟨g, 2, none⟩ = some (.int .i64 (L 2)) ∧ W.cell? ⟨g, 3, none⟩ = some (.int .i64 (L 3)) ∧ W.cell? ⟨g, 4, none⟩ = some (.int .i64 (U 0)) ∧ W.cell? ⟨g, 5, none⟩ = some (.int .i64 (U 1)) ∧ W.cell? ⟨g, 6, none⟩ = some (.int .i64 (U 2)) ∧ W.cell? ⟨g, 7, none⟩ = some (.int .i64 (U 3)) ∧ W.cell? ⟨g2, i, none⟩ = some (.int .i64 x) ∧ Below B.heap.size B W) : Below B.heap.size B W := by
  obtain ⟨h0, h1, h2, h3, h4, h5, h6, h7, h8, h9⟩ := h
  exact h9
theorem qp9_of {B : World} {g g2 i : Nat} {L U : Nat → Int} {x : Int} (h : B.heap[g]? = some (.cells (bk L U) 27 (0, 0))) (h' : B.cell? ⟨g2, i, none⟩ = some (.int .i64 x)) :
    B.cell? ⟨g, 0, none⟩ = some (.int .i64 (L 0)) ∧ B.cell? ⟨g, 1, none⟩ = some (.int .i64 (L 1)) ∧ B.cell? ⟨g, 2, none⟩ = some (.int .i64 (L 2)) ∧ B.cell? ⟨g, 3, none⟩ = some (.int .i64 (L 3)) ∧ B.cell? ⟨g, 4, none⟩ = some (.int .i64 (U 0)) ∧ B.cell? ⟨g, 5, none⟩ = some (.int .i64 (U 1)) ∧ B.cell? ⟨g, 6, none⟩ = some (.int .i64 (U 2)) ∧ B.cell? ⟨g, 7, none⟩ = some (.int .i64 (U 3)) ∧ B.cell? ⟨g2, i, none⟩ = some (.int .i64 x) ∧ Below B.heap.size B B := by
  obtain ⟨⟨c0, c1, c2, c3, c4, c5, c6, c7⟩, -⟩ := bk_cells h
  exact ⟨c0, c1, c2, c3, c4, c5, c6, c7, h', Below.refl _ _⟩
theorem k0qp (w : World) (o1 o2 : Obj) : Below w.heap.size w ((w.alloc o1).alloc o2) := ((Below.refl _ _).alloc (Nat.le_refl _) _).alloc (by simp) _
theorem qp_peak {L U P : Nat → Int} {cs : List (Int × Int)} (h : PK L U P cs) (v : Value) (w : World) (hs : SrcC w v cs) :
    Calls Try.prog 14 #[.agg (bk L U), v] w fun e w' => e = .returned (.tuple #[.agg (ar P), .int .i64 0]) ∧ Below w.heap.size w w' :=
  (peak_yes L U v cs w hs (both_of h.m.right h.c.chk)).mono fun e w' ⟨he, hB⟩ => ⟨he.trans (by rw [h.p]), hB⟩
/-- One more limit is set to its peak. -/
theorem qp_lim {L U P M N : Nat → Int} {cs : List (Int × Int)} (h : PK L U P cs) (k : Nat) (hk : k < 4) (hM : wd P L k = M) (hN : wd P L (k + 1) = N) (p : Int) (hp : P k = p) (w : World) :
    Calls Try.prog 15 #[.agg (bk M U), .int .i64 (k : Int), .int .i64 p] w fun e w' => e = .returned (.tuple #[v8 (N 0) (N 1) (N 2) (N 3) (U 0) (U 1) (U 2) (U 3), .int .i64 0]) ∧ Below w.heap.size w w' := by
  refine (limit_any M U k p w).mono fun e w' ⟨he, hB⟩ => ⟨he.trans ?_, hB⟩
  have e1 : upd M k p = N := by rw [← hM, ← hp, ← hN]; exact wd_step P L k
  have hr : rightB M U = true := by rw [← hM]; exact h.right k
  have hr2 : rightB N U = true := by rw [← hN]; exact h.right (k + 1)
  have := h.ge k
  rw [limR, if_neg (by rw [hr]; decide), if_neg (by rw [(isB_iff _).2 ⟨by omega, by omega⟩]; decide), Int.toNat_natCast, if_neg (by omega), e1, if_pos hr2]
  rfl
/-- A limit below what is used. -/
theorem qp_low {L U P : Nat → Int} {cs : List (Int × Int)} (h : PK L U P cs) (j : Nat) (hj : j < 4) (u : Int) (hu : U j = u) (hp : P j = u) (h0 : 0 < u) (w : World) :
    Calls Try.prog 15 #[.agg (bk P U), .int .i64 (j : Int), .int .i64 (u - 1)] w fun e w' => e = .returned (.tuple #[v8 0 0 0 0 0 0 0 0, .int .i64 252]) ∧ Below w.heap.size w w' := by
  refine (limit_any P U j (u - 1) w).mono fun e w' ⟨he, hB⟩ => ⟨he.trans ?_, hB⟩
  rw [limR, if_neg (by rw [h.rightP]; decide), if_neg (by rw [(isB_iff _).2 ⟨by omega, by omega⟩]; decide), Int.toNat_natCast, if_pos (by omega)]
  rfl
/-- A limit 1 below the peak. -/
theorem qp_tight {L U P Q : Nat → Int} {cs : List (Int × Int)} (h : PK L U P cs) (j : Nat) (hj : j < 4) (p : Int) (hp : P j = p) (hlt : U j < p) (hQ : upd P j (p - 1) = Q) (w : World) :
    Calls Try.prog 15 #[.agg (bk P U), .int .i64 (j : Int), .int .i64 (p - 1)] w fun e w' => e = .returned (.tuple #[v8 (Q 0) (Q 1) (Q 2) (Q 3) (U 0) (U 1) (U 2) (U 3), .int .i64 0]) ∧ Below w.heap.size w w' := by
  refine (limit_any P U j (p - 1) w).mono fun e w' ⟨he, hB⟩ => ⟨he.trans ?_, hB⟩
  have hr := h.tightRight j hj (by omega)
  have := (h.m.use j hj).1
  rw [limR, if_neg (by rw [h.rightP]; decide), if_neg (by rw [(isB_iff _).2 ⟨by omega, by omega⟩]; decide), Int.toNat_natCast, if_neg (by omega), ← hp, if_pos hr, hp, hQ]
  rfl
theorem qp_all {L U V P : Nat → Int} {cs : List (Int × Int)} (h : PK L U P cs) (hK : StepAt P (useK U cs) cs.length cs.length) (hV : useK U cs cs.length = V) (v : Value) (w : World) (hs : SrcC w v cs) :
    Calls Try.prog 13 #[.agg (bk P U), v] w fun e w' => e = .returned (.tuple #[.agg (bk P V), .int .i64 (-1), .int .i64 0]) ∧ Below w.heap.size w w' :=
  (steps_yes P U v cs cs.length hK w hs (both_of h.rightP h.c.chk)).mono fun e w' ⟨he, hB⟩ => ⟨he.trans (by rw [stepR, if_neg (by omega), hV]), hB⟩
theorem qp_bad {U Q : Nat → Int} {cs : List (Int × Int)} (hr : rightB Q U = true) (hc : MC cs) {K : Nat} (hK : StepAt Q (useK U cs) cs.length K) (hn : K < cs.length) {f : Int}
    (hf : (failsV Q (useK U cs (K + 1))).2 = f) (v : Value) (w : World) (hs : SrcC w v cs) :
    Calls Try.prog 13 #[.agg (bk Q U), v] w fun e w' => e = .returned (.tuple #[v8 0 0 0 0 0 0 0 0, .int .i64 (K : Int), .int .i64 f]) ∧ Below w.heap.size w w' :=
  (steps_yes Q U v cs K hK w hs (both_of hr hc.chk)).mono fun e w' ⟨he, hB⟩ => ⟨he.trans (by rw [stepR, if_pos hn, hf]; rfl), hB⟩

set_option maxRecDepth 100000 in
set_option maxHeartbeats 8000000 in
theorem qpeaks_any (haw : AwakeC) (a b : Nat → Int) (ha : ∀ j, j < 4 → 0 ≤ a j ∧ a j ≤ 255) (hb : ∀ j, j < 4 → 0 ≤ b j ∧ b j ≤ 255) (v : Value) (xs : List Int) (w : World) (hs : SrcE e16 w v xs) (hx : ∀ x ∈ xs, 0 ≤ x ∧ x ≤ 65535) (q : Int)
    (L U : Nat → Int) (cs : List (Int × Int)) (hL : mL a = L) (hU : mU a b = U) (hcs : mC xs = cs) (hm : MB L U) (hc : MC cs)
    (q0 : 0 ≤ q) (q1 : q ≤ 255) (P : Nat → Int) (hP : PK L U P cs) (K : Nat) (hK : StepAt P (useK U cs) cs.length K) :
    Calls Try.prog 4 #[.agg (a8 a), .agg (a8 b), v, .int .u8 q] w fun e w' => e = .returned (.bool true) ∧ Below w.heap.size w w' := by
  have H_haw := Hd.mk haw
  have H_hs := Hd.mk hs
  have H_hx := Hd.mk hx
  have H_hL := Hd.mk hL
  have H_hU := Hd.mk hU
  have H_hcs := Hd.mk hcs
  have H_hm := Hd.mk hm
  have H_hc := Hd.mk hc
  have H_hP := Hd.mk hP
  have H_hK := Hd.mk hK
  have hlen := hc.len
  clear haw hs hx hL hU hcs hm hc hP hK
  obtain ⟨p0, p1, p2⟩ := push2 w (.cells (a8 a) 22) (.cells (a8 b) 22)
  have HP1 := Hd.mk p1
  have HP2 := Hd.mk p2
  have HW0 : Hd (Below w.heap.size w ((w.alloc (.cells (a8 a) 22)).alloc (.cells (a8 b) 22))) := ⟨((Below.refl _ _).alloc (Nat.le_refl _) _).alloc (by simp) _⟩
  have HSX := Hd.mk (H_hs.out.below (k0qp w (.cells (a8 a) 22) (.cells (a8 b) 22)))
  have HA := Hd.mk ha
  have HBb := Hd.mk hb
  clear ha hb p0 p1 p2
  obtain ⟨va, vc, rfl⟩ := H_hs.out.shape
  clear H_hs
  go_enter Try.func4, Try.ntmps4
  go_wp2_with fail
  refine (H_haw.out _).mono ?_
  rintro e w1 ⟨rfl, hB1⟩
  have h1 := keep HP1.out hB1
  have h2 := keep HP2.out hB1
  have HB_1 := Hd.mk (HW0.out.trans (hB1.mono (by simp; omega)))
  have HS1 := Hd.mk (HSX.out.below hB1)
  obtain ⟨c0, c1, c2, c3⟩ := a8_cells h1
  obtain ⟨d0, d1, d2, d3⟩ := a8_cells h2
  clear h1 h2 HP1 HP2 HW0 hB1 HSX
  go_wp2_with fail
  refine (made_any a b HA.out HBb.out _ xs _ HS1.out H_hx.out).mono ?_
  rw [H_hL.out, H_hU.out, H_hcs.out]
  rintro e w2 ⟨v', rfl, hv, hB2⟩
  have HSV := Hd.mk hv.src
  have HB2 := Hd.mk (ch4 HB_1.out hB2)
  clear hv c0 c1 c2 c3 d0 d1 d2 d3 HA HBb HB_1 hB2 HS1
  obtain ⟨va', vc', rfl⟩ := HSV.out.shape
  simp only [bk]
  go_upto_region 4 with fail
  obtain ⟨W2, hW⟩ : ∃ W, W = w2.alloc (.cells (bk L U) 27) := ⟨_, rfl⟩
  have hX : Below w2.heap.size w2 W2 := by rw [hW]; exact (Below.refl _ _).alloc (Nat.le_refl _) _
  have hT : W2.heap[w2.heap.size]? = some (.cells (bk L U) 27 (0, 0)) := by rw [hW]; exact World.alloc_heap_new _ _
  simp only [bk] at hW
  rw [← hW]
  have HT9_b2 := Hd.mk hT
  clear hW hT
  have HB_c2 := Hd.mk (ch4 HB2.out hX)
  have SV_c2 := Hd.mk (HSV.out.below hX)
  clear HB2 HSV
  clear hX
  obtain ⟨c0, c1, c2, c3, c4, c5, c6, c7⟩ := lit8 HT9_b2.out
  go_wp2_with fail
  refine (qp_peak H_hP.out _ _ SV_c2.out).mono ?_
  rintro e w3 ⟨rfl, hB⟩
  have HB_3 := Hd.mk (ch4 HB_c2.out hB)
  have HT9_3 := Hd.mk (keep HT9_b2.out hB)
  have SV_3 := Hd.mk (SV_c2.out.below hB)
  clear HB_c2 HT9_b2 SV_c2
  clear hB
  clear c0 c1 c2 c3 c4 c5 c6 c7
  simp only [ar]
  go_upto_region 5 with fail
  obtain ⟨W3, hW⟩ : ∃ W, W = w3.alloc (.cells (ar P) 25) := ⟨_, rfl⟩
  have hX : Below w3.heap.size w3 W3 := by rw [hW]; exact (Below.refl _ _).alloc (Nat.le_refl _) _
  have hT : W3.heap[w3.heap.size]? = some (.cells (ar P) 25 (0, 0)) := by rw [hW]; exact World.alloc_heap_new _ _
  simp only [ar] at hW
  rw [← hW]
  have HT11_b3 := Hd.mk hT
  clear hW hT
  have HB_c3 := Hd.mk (ch4 HB_3.out hX)
  have HT9_c3 := Hd.mk (keep HT9_3.out hX)
  have SV_c3 := Hd.mk (SV_3.out.below hX)
  clear HB_3 HT9_3 SV_3
  clear hX
  obtain ⟨c0, c1, c2, c3, c4, c5, c6, c7⟩ := lit8 HT9_c3.out
  go_upto_region 8 with fail
  clear c0 c1 c2 c3 c4 c5 c6 c7
  skip
  obtain ⟨W4, hW⟩ : ∃ W, W = W3.alloc (.cells (bk L U) 27) := ⟨_, rfl⟩
  have hX : Below W3.heap.size W3 W4 := by rw [hW]; exact (Below.refl _ _).alloc (Nat.le_refl _) _
  have hT : W4.heap[W3.heap.size]? = some (.cells (bk L U) 27 (0, 0)) := by rw [hW]; exact World.alloc_heap_new _ _
  simp only [bk] at hW
  rw [← hW]
  have HT13 := Hd.mk hT
  have HX4 := Hd.mk hX
  clear hW hT hX
  go_wp2_with fail
  go_loopw [43] (fun i W => ∃ k : Nat, k ≤ 4 ∧ i = .int .i64 k ∧ W.heap[W3.heap.size]? = some (.cells (bk (wd P L k) U) 27 (0, 0)) ∧ Below W3.heap.size W3 W) (fun i _ => 4 - (intOf i).toNat)
  case atStart => exact ⟨0, Nat.zero_le _, rfl, by rw [wd_zero]; exact HT13.out, HX4.out⟩
  case round =>
    obtain ⟨k, hk, rfl, hT, hB⟩ := hrel
    have HRB := Hd.mk hB
    have HR9 := Hd.mk (keep HT9_c3.out hB)
    have HR11 := Hd.mk (keep HT11_b3.out hB)
    have HRV := Hd.mk (SV_c3.out.below hB)
    have HR13 := Hd.mk hT
    clear hT HT13 HX4 HT9_c3 HT11_b3 SV_c3
    by_cases hlt : k < 4
    · clear hB
      have HLT := Hd.mk hlt
      have hp11 := (cells_cell HR11.out k).trans (ar_get P k hlt)
      have hu9 := (cells_cell HR9.out (4 + k)).trans (bk_use L U k hlt)
      have hge := H_hP.out.ge k
      have k0 : (0 : Int) ≤ (k : Int) := by omega
      have k1 : (k : Int) < 4 := by omega
      obtain ⟨p, hp⟩ : ∃ p, P k = p := ⟨_, rfl⟩
      obtain ⟨u, hu⟩ : ∃ u, U k = u := ⟨_, rfl⟩
      rw [hp] at hp11 hge
      rw [hu] at hu9 hge
      have HPE := Hd.mk hp
      have hpu : decide (p < u) = false := decide_eq_false (by omega)
      clear hp hu hlt
      go_wp2_with fail
      go_quiet (fail)
      go_upto_region 13 with fail
      obtain ⟨M, hM⟩ : ∃ M, wd P L k = M := ⟨_, rfl⟩
      obtain ⟨N, hN⟩ : ∃ N, wd P L (k + 1) = N := ⟨_, rfl⟩
      have hT := HR13.out
      rw [hM] at hT
      have HM := Hd.mk hM
      have HN := Hd.mk hN
      have HT := Hd.mk hT
      clear hM hN hT HR13 hu9 hpu
      obtain ⟨Wq, hWq⟩ : ∃ W, W = wr.drewN nq := ⟨_, rfl⟩
      have hTq : Wq.heap[W3.heap.size]? = some (.cells (bk M U) 27 (0, 0)) := by rw [hWq]; exact HT.out
      have hp11 : Wq.cell? ⟨w3.heap.size, k, none⟩ = some (.int .i64 p) := by rw [hWq]; exact hp11
      have hBq : Below W3.heap.size W3 Wq := by rw [hWq]; exact below_drewN HRB.out nq
      have HTq := Hd.mk hTq
      rw [← hWq]
      clear hWq HT
      obtain ⟨c0, c1, c2, c3, c4, c5, c6, c7⟩ := lit8 hTq
      clear hTq
      go_cut [12] (fun v12 wx => v12 = .int .i64 0 ∧ wx.heap[W3.heap.size]? = some (.cells (bk N U) 27 (0, 0)) ∧ Below W3.heap.size W3 wx)
      case first =>
        go_region_with (first
          | (go_at_call 15; refine (qp_lim H_hP.out k HLT.out HM.out HN.out p HPE.out _).mono ?_; rintro e wk ⟨rfl, hBk⟩; (have hz := hBk.block W3.heap.size (by (try rw [drew_heap]); exact lt_of_heap HTq.out); (try rw [drew_heap] at hz); rw [HTq.out] at hz; have HZ := Hd.mk hz; obtain ⟨⟨e0, e1, e2, e3, e4, e5, e6, e7⟩, ⟨f0, f1, f2, f3, f4, f5, f6, f7⟩⟩ := bk_cells hz; clear hz)))
        all_goals
          have HY := Hd.mk (bk_setall N U HZ.out)
          have HF := Hd.mk (set8_below (ch4 hBq.drew hBk) N U (Nat.le_refl _))
          go_wp2_with fail
          go_meet
          exact ⟨rfl, HY.out, HF.out⟩
      case rest =>
      obtain ⟨rfl, hTn, hBn⟩ := hcut
      have HTn := Hd.mk hTn
      have HBn := Hd.mk hBn
      clear hTn hBn c0 c1 c2 c3 c4 c5 c6 c7 hp11
      go_wp2_with fail
      go_roundw
      case rel => exact ⟨k + 1, HLT.out, by go_num, by rw [HN.out]; exact HTn.out, HBn.out⟩
      case measure => simp [intOf] <;> omega
    · obtain rfl : k = 4 := by omega
      clear hlt hk
      have hT := HR13.out
      rw [wd_four] at hT
      have HT13 := Hd.mk hT
      have HB_r := Hd.mk (ch4 HB_c3.out hB)
      clear hT hB HRB HR13
      obtain ⟨c0, c1, c2, c3, c4, c5, c6, c7⟩ := lit8 HT13.out
      go_wp2_with fail
      by_cases hKn : K = cs.length
      · subst hKn
        obtain ⟨V, hV⟩ : ∃ V, useK U cs cs.length = V := ⟨_, rfl⟩
        have HV := Hd.mk hV
        clear hV
        refine (qp_all H_hP.out H_hK.out HV.out _ _ HRV.out).mono ?_
        rintro e w4 ⟨rfl, hB⟩
        have HB_4 := Hd.mk (ch4 HB_r.out hB)
        have HT9_4 := Hd.mk (keep HR9.out hB)
        have HT11_4 := Hd.mk (keep HR11.out hB)
        have HT13_4 := Hd.mk (keep HT13.out hB)
        have SV_4 := Hd.mk (HRV.out.below hB)
        clear HB_r HR9 HR11 HT13 HRV
        clear hB
        clear c0 c1 c2 c3 c4 c5 c6 c7
        simp only [bk]
        go_upto_region 18 with fail
        obtain ⟨W4, hW⟩ : ∃ W, W = w4.alloc (.cells (bk P V) 27) := ⟨_, rfl⟩
        have hX : Below w4.heap.size w4 W4 := by rw [hW]; exact (Below.refl _ _).alloc (Nat.le_refl _) _
        have hT : W4.heap[w4.heap.size]? = some (.cells (bk P V) 27 (0, 0)) := by rw [hW]; exact World.alloc_heap_new _ _
        simp only [bk] at hW
        rw [← hW]
        have HT15_b4 := Hd.mk hT
        clear hW hT
        have HB_c4 := Hd.mk (ch4 HB_4.out hX)
        have HT9_c4 := Hd.mk (keep HT9_4.out hX)
        have HT11_c4 := Hd.mk (keep HT11_4.out hX)
        have HT13_c4 := Hd.mk (keep HT13_4.out hX)
        have SV_c4 := Hd.mk (SV_4.out.below hX)
        clear HB_4 HT9_4 HT11_4 HT13_4 SV_4
        clear hX
        obtain ⟨j, hj⟩ : ∃ j : Nat, q % 4 = (j : Int) := ⟨(q % 4).toNat, by omega⟩
        have hj4 : j < 4 := by omega
        have j0 : (0 : Int) ≤ (j : Int) := by omega
        have j1 : (j : Int) < 4 := by omega
        have HJ := Hd.mk hj4
        have hj' := hj
        clear hj
        go_upto_region 21 with fail
        simp only [hj']
        clear hj' hj4
        have hp11 := (cells_cell HT11_c4.out j).trans (ar_get P j HJ.out)
        have hu9 := (cells_cell HT9_c4.out (4 + j)).trans (bk_use L U j HJ.out)
        have hge := H_hP.out.ge j
        have hle := H_hP.out.le j HJ.out
        have hu0 := (H_hm.out.use j HJ.out).1
        obtain ⟨p, hp⟩ : ∃ p, P j = p := ⟨_, rfl⟩
        obtain ⟨u, hu⟩ : ∃ u, U j = u := ⟨_, rfl⟩
        rw [hp] at hp11 hge hle
        rw [hu] at hu9 hge hu0
        have HPE := Hd.mk hp
        have HUE := Hd.mk hu
        clear hp hu
        by_cases hpu : p = u
        · subst hpu
          by_cases hp0 : p = 0
          · subst hp0
            go_wp2_with fail
            go_quiet (fail)
            go_wp2_with fail
            go_ret
            exact ⟨rfl, below_drewN HB_c4.out _⟩
          · have d1 : decide (p = 0) = false := decide_eq_false hp0
            have d2 : (p == 0) = false := by simpa using hp0
            have hpos : 0 < p := by omega
            have hw : IntKind.i64.wrap (p - 1) = p - 1 := IntWalk.i64_in _ ⟨by omega, by omega⟩
            go_wp2_with fail
            go_quiet (fail)
            go_upto_region 24 with fail
            obtain ⟨W5, hW5⟩ : ∃ W, W = W4.drewN nq := ⟨_, rfl⟩
            have hX : Below W4.heap.size W4 W5 := by rw [hW5]; exact below_drewN (Below.refl _ _) _
            rw [← hW5]
            clear hW5
            have HB_d5 := Hd.mk (ch4 HB_c4.out hX)
            have HT9_d5 := Hd.mk (keep HT9_c4.out hX)
            have HT11_d5 := Hd.mk (keep HT11_c4.out hX)
            have HT13_d5 := Hd.mk (keep HT13_c4.out hX)
            have HT15_d5 := Hd.mk (keep HT15_b4.out hX)
            have SV_d5 := Hd.mk (SV_c4.out.below hX)
            clear HB_c4 HT9_c4 HT11_c4 HT13_c4 HT15_b4 SV_c4
            clear hX
            have hp11' : W5.cell? ⟨w3.heap.size, j, none⟩ = some (.int .i64 p) := (cells_cell HT11_d5.out j).trans ((ar_get P j HJ.out).trans (by rw [HPE.out]))
            clear hp11 hu9
            go_cut [18, 19] (fun v18 v19 wx => v19 = .int .i64 252 ∧ Below W5.heap.size W5 wx)
            case first =>
              have hS0 := qp9_of HT13_d5.out hp11'
              clear hp11'
              go_region_held3 (fun W => W.cell? ⟨W3.heap.size, 0, none⟩ = some (.int .i64 (P 0)) ∧ W.cell? ⟨W3.heap.size, 1, none⟩ = some (.int .i64 (P 1)) ∧ W.cell? ⟨W3.heap.size, 2, none⟩ = some (.int .i64 (P 2)) ∧ W.cell? ⟨W3.heap.size, 3, none⟩ = some (.int .i64 (P 3)) ∧ W.cell? ⟨W3.heap.size, 4, none⟩ = some (.int .i64 (U 0)) ∧ W.cell? ⟨W3.heap.size, 5, none⟩ = some (.int .i64 (U 1)) ∧ W.cell? ⟨W3.heap.size, 6, none⟩ = some (.int .i64 (U 2)) ∧ W.cell? ⟨W3.heap.size, 7, none⟩ = some (.int .i64 (U 3)) ∧ W.cell? ⟨w3.heap.size, j, none⟩ = some (.int .i64 p) ∧ Below W5.heap.size W5 W)
                (first | with_reducible assumption | exact qp9_keep hS0 (by repeat (with_reducible first | exact Below.refl _ _ | apply bl_alloc | apply bl_drew | (refine bl_set ?_ (by simp) _) | (apply bl_call; assumption))))
                (first
                | (go_at_call 15; refine (qp_low H_hP.out j HJ.out p HUE.out HPE.out (by omega) _).mono ?_; rintro e wk ⟨rfl, hBk⟩; (first | (have hz := hBk.block (W5.heap.size) (by (try rw [drew_heap]); simp only [World.size_alloc]; omega); (try rw [drew_heap] at hz); rw [two_old] at hz; obtain ⟨⟨e0, e1, e2, e3, e4, e5, e6, e7⟩, ⟨f0, f1, f2, f3, f4, f5, f6, f7⟩⟩ := z_cells hz) | (have hz := hBk.block (W5.heap.size + 1) (by (try rw [drew_heap]); simp only [World.size_alloc]; omega); (try rw [drew_heap] at hz); rw [two_new] at hz; obtain ⟨⟨e0, e1, e2, e3, e4, e5, e6, e7⟩, ⟨f0, f1, f2, f3, f4, f5, f6, f7⟩⟩ := z_cells hz) | (have hz := hBk.block (W5.heap.size) (by (try rw [drew_heap]); simp only [World.size_alloc]; omega); (try rw [drew_heap] at hz); rw [World.alloc_heap_new] at hz; obtain ⟨⟨e0, e1, e2, e3, e4, e5, e6, e7⟩, ⟨f0, f1, f2, f3, f4, f5, f6, f7⟩⟩ := z_cells hz) | skip))
                )
              all_goals
                have HF := Hd.mk (qp9_below (by assumption))
                clear hw
                go_wp2_with fail
                go_meet
                exact ⟨rfl, HF.out⟩
            case rest =>
            obtain ⟨rfl, hBx⟩ := hcut
            have HB_6 := Hd.mk (ch4 HB_d5.out hBx)
            have HT9_6 := Hd.mk (keep HT9_d5.out hBx)
            have HT11_6 := Hd.mk (keep HT11_d5.out hBx)
            have HT13_6 := Hd.mk (keep HT13_d5.out hBx)
            have HT15_6 := Hd.mk (keep HT15_d5.out hBx)
            have SV_6 := Hd.mk (SV_d5.out.below hBx)
            clear HB_d5 HT9_d5 HT11_d5 HT13_d5 HT15_d5 SV_d5
            clear hBx hw
            go_wp2_with fail
            go_ret
            exact ⟨rfl, HB_6.out⟩
        · have hlt : u < p := by omega
          have d1 : decide (p = u) = false := decide_eq_false hpu
          have d2 : (p == u) = false := by simpa using hpu
          have hw : IntKind.i64.wrap (p - 1) = p - 1 := IntWalk.i64_in _ ⟨by omega, by omega⟩
          obtain ⟨Q, hQ⟩ : ∃ Q, upd P j (p - 1) = Q := ⟨_, rfl⟩
          have HQ := Hd.mk hQ
          clear hQ
          have HQR : Hd (rightB Q U = true) := ⟨by rw [← HQ.out, ← HPE.out]; exact H_hP.out.tightRight j HJ.out (by rw [HUE.out, HPE.out]; exact hlt)⟩
          obtain ⟨K', hK'⟩ := stepAt_ex Q (useK U cs) cs.length
          have HK' := Hd.mk hK'
          clear hK'
          go_wp2_with fail
          go_quiet (fail)
          go_upto_region 26 with fail
          obtain ⟨W5, hW5⟩ : ∃ W, W = W4.drewN nq := ⟨_, rfl⟩
          have hX : Below W4.heap.size W4 W5 := by rw [hW5]; exact below_drewN (Below.refl _ _) _
          rw [← hW5]
          clear hW5
          have HB_d5 := Hd.mk (ch4 HB_c4.out hX)
          have HT9_d5 := Hd.mk (keep HT9_c4.out hX)
          have HT11_d5 := Hd.mk (keep HT11_c4.out hX)
          have HT13_d5 := Hd.mk (keep HT13_c4.out hX)
          have HT15_d5 := Hd.mk (keep HT15_b4.out hX)
          have SV_d5 := Hd.mk (SV_c4.out.below hX)
          clear HB_c4 HT9_c4 HT11_c4 HT13_c4 HT15_b4 SV_c4
          clear hX
          have hp11' : W5.cell? ⟨w3.heap.size, j, none⟩ = some (.int .i64 p) := (cells_cell HT11_d5.out j).trans ((ar_get P j HJ.out).trans (by rw [HPE.out]))
          clear hp11 hu9
          go_cut [20, 21] (fun v20 v21 wx => ∃ g, v20 = .pointer (some ⟨g, 0, none⟩) ∧ wx.heap[g]? = some (.cells (bk Q U) 27 (0, 0)) ∧ v21 = .int .i64 0 ∧ Below W5.heap.size W5 wx)
          case first =>
            have hS0 := qp9_of HT13_d5.out hp11'
            clear hp11'
            go_region_held3 (fun W => W.cell? ⟨W3.heap.size, 0, none⟩ = some (.int .i64 (P 0)) ∧ W.cell? ⟨W3.heap.size, 1, none⟩ = some (.int .i64 (P 1)) ∧ W.cell? ⟨W3.heap.size, 2, none⟩ = some (.int .i64 (P 2)) ∧ W.cell? ⟨W3.heap.size, 3, none⟩ = some (.int .i64 (P 3)) ∧ W.cell? ⟨W3.heap.size, 4, none⟩ = some (.int .i64 (U 0)) ∧ W.cell? ⟨W3.heap.size, 5, none⟩ = some (.int .i64 (U 1)) ∧ W.cell? ⟨W3.heap.size, 6, none⟩ = some (.int .i64 (U 2)) ∧ W.cell? ⟨W3.heap.size, 7, none⟩ = some (.int .i64 (U 3)) ∧ W.cell? ⟨w3.heap.size, j, none⟩ = some (.int .i64 p) ∧ Below W5.heap.size W5 W)
              (first | with_reducible assumption | exact qp9_keep hS0 (by repeat (with_reducible first | exact Below.refl _ _ | apply bl_alloc | apply bl_drew | (refine bl_set ?_ (by simp) _) | (apply bl_call; assumption))))
              (first
              | (go_at_call 15; refine (qp_tight H_hP.out j HJ.out p HPE.out (by rw [HUE.out]; exact hlt) HQ.out _).mono ?_; rintro e wk ⟨rfl, hBk⟩; (first | (have hz := hBk.block (W5.heap.size) (by (try rw [drew_heap]); simp only [World.size_alloc]; omega); (try rw [drew_heap] at hz); rw [two_old] at hz; obtain ⟨⟨e0, e1, e2, e3, e4, e5, e6, e7⟩, ⟨f0, f1, f2, f3, f4, f5, f6, f7⟩⟩ := z_cells hz) | (have hz := hBk.block (W5.heap.size + 1) (by (try rw [drew_heap]); simp only [World.size_alloc]; omega); (try rw [drew_heap] at hz); rw [two_new] at hz; obtain ⟨⟨e0, e1, e2, e3, e4, e5, e6, e7⟩, ⟨f0, f1, f2, f3, f4, f5, f6, f7⟩⟩ := z_cells hz) | (have hz := hBk.block (W5.heap.size) (by (try rw [drew_heap]); simp only [World.size_alloc]; omega); (try rw [drew_heap] at hz); rw [World.alloc_heap_new] at hz; obtain ⟨⟨e0, e1, e2, e3, e4, e5, e6, e7⟩, ⟨f0, f1, f2, f3, f4, f5, f6, f7⟩⟩ := z_cells hz) | skip))
              )
            all_goals
              have HF := Hd.mk (qp9_below (by assumption))
              try have HZ := Hd.mk (set_bk Q U hz)
              clear hw
              go_wp2_with fail
              go_meet
              first | exact ⟨_, rfl, HZ.out, rfl, HF.out⟩ | exact ⟨_, rfl, World.alloc_heap_new _ _, rfl, HF.out⟩
          case rest =>
          obtain ⟨g, rfl, hG, rfl, hBx⟩ := hcut
          have HB_6 := Hd.mk (ch4 HB_d5.out hBx)
          have HT9_6 := Hd.mk (keep HT9_d5.out hBx)
          have HT11_6 := Hd.mk (keep HT11_d5.out hBx)
          have HT13_6 := Hd.mk (keep HT13_d5.out hBx)
          have HT15_6 := Hd.mk (keep HT15_d5.out hBx)
          have SV_6 := Hd.mk (SV_d5.out.below hBx)
          clear HB_d5 HT9_d5 HT11_d5 HT13_d5 HT15_d5 SV_d5
          clear hBx hp11'
          have HT20 := Hd.mk hG
          clear hG
          obtain ⟨hn', hf'⟩ := H_hP.out.over H_hK.out j HJ.out (by rw [HUE.out, HPE.out]; exact hlt) (by rw [HPE.out, HQ.out]; exact HK'.out)
          rw [HPE.out, HQ.out] at hf'
          have HN' := Hd.mk hn'
          have HF' := Hd.mk hf'
          clear hn' hf'
          obtain ⟨c0, c1, c2, c3, c4, c5, c6, c7⟩ := lit8 HT20.out
          go_wp2_with fail
          refine (qp_bad HQR.out H_hc.out HK'.out HN'.out HF'.out _ _ SV_6.out).mono ?_
          rintro e w7 ⟨rfl, hB⟩
          have HB_7 := Hd.mk (ch4 HB_6.out hB)
          have HT9_7 := Hd.mk (keep HT9_6.out hB)
          have HT11_7 := Hd.mk (keep HT11_6.out hB)
          have HT13_7 := Hd.mk (keep HT13_6.out hB)
          have HT15_7 := Hd.mk (keep HT15_6.out hB)
          have HT20_7 := Hd.mk (keep HT20.out hB)
          have SV_7 := Hd.mk (SV_6.out.below hB)
          clear HB_6 HT9_6 HT11_6 HT13_6 HT15_6 HT20 SV_6
          clear hB
          clear c0 c1 c2 c3 c4 c5 c6 c7
          go_upto_region 28 with fail
          obtain ⟨W7, hW⟩ : ∃ W, W = w7.alloc (.cells #[.int .i64 0, .int .i64 0, .int .i64 0, .int .i64 0, .int .i64 0, .int .i64 0, .int .i64 0, .int .i64 0] 27) := ⟨_, rfl⟩
          have hX : Below w7.heap.size w7 W7 := by rw [hW]; exact (Below.refl _ _).alloc (Nat.le_refl _) _
          rw [← hW]
          clear hW
          have HB_c7 := Hd.mk (ch4 HB_7.out hX)
          have HT9_c7 := Hd.mk (keep HT9_7.out hX)
          have HT11_c7 := Hd.mk (keep HT11_7.out hX)
          have HT13_c7 := Hd.mk (keep HT13_7.out hX)
          have HT15_c7 := Hd.mk (keep HT15_7.out hX)
          have HT20_c7 := Hd.mk (keep HT20_7.out hX)
          have SV_c7 := Hd.mk (SV_7.out.below hX)
          clear HB_7 HT9_7 HT11_7 HT13_7 HT15_7 HT20_7 SV_7
          clear hX
          obtain ⟨c0, c1, c2, c3, c4, c5, c6, c7⟩ := lit8 HT15_c7.out
          obtain ⟨d0, d1, d2, d3, d4, d5, d6, d7⟩ := lit8 HT13_c7.out
          have heq : ∀ W : World, (binOp .eql 25 (v4 (P 0) (P 1) (P 2) (P 3)) (v4 (P 0) (P 1) (P 2) (P 3))).run Try.prog W = .ok (.bool true) W := fun W => by have := eqv_ar P P W; rwa [eq4_self] at this
          have gd25 := guard25
          go_wp2_with fail
          go_ret
          exact ⟨rfl, HB_c7.out⟩
      · have hKl : K < cs.length := by have := H_hK.out.le; omega
        have HKL := Hd.mk hKl
        have HFF := Hd.mk (H_hP.out.under H_hK.out hKl).1
        clear hKl hKn
        refine (qp_bad H_hP.out.rightP H_hc.out H_hK.out HKL.out HFF.out _ _ HRV.out).mono ?_
        rintro e w4 ⟨rfl, hB⟩
        have HB_4 := Hd.mk (ch4 HB_r.out hB)
        have HT9_4 := Hd.mk (keep HR9.out hB)
        have HT11_4 := Hd.mk (keep HR11.out hB)
        have HT13_4 := Hd.mk (keep HT13.out hB)
        have SV_4 := Hd.mk (HRV.out.below hB)
        clear HB_r HR9 HR11 HT13 HRV
        clear hB
        clear c0 c1 c2 c3 c4 c5 c6 c7
        go_upto_region 18 with fail
        obtain ⟨W4, hW⟩ : ∃ W, W = w4.alloc (.cells #[.int .i64 0, .int .i64 0, .int .i64 0, .int .i64 0, .int .i64 0, .int .i64 0, .int .i64 0, .int .i64 0] 27) := ⟨_, rfl⟩
        have hX : Below w4.heap.size w4 W4 := by rw [hW]; exact (Below.refl _ _).alloc (Nat.le_refl _) _
        rw [← hW]
        clear hW
        have HB_c4 := Hd.mk (ch4 HB_4.out hX)
        have HT9_c4 := Hd.mk (keep HT9_4.out hX)
        have HT11_c4 := Hd.mk (keep HT11_4.out hX)
        have HT13_c4 := Hd.mk (keep HT13_4.out hX)
        have SV_c4 := Hd.mk (SV_4.out.below hX)
        clear HB_4 HT9_4 HT11_4 HT13_4 SV_4
        clear hX
        obtain ⟨j, hj⟩ : ∃ j : Nat, q % 4 = (j : Int) := ⟨(q % 4).toNat, by omega⟩
        have hj4 : j < 4 := by omega
        have j0 : (0 : Int) ≤ (j : Int) := by omega
        have j1 : (j : Int) < 4 := by omega
        have HJ := Hd.mk hj4
        have hj' := hj
        clear hj
        go_upto_region 21 with fail
        simp only [hj']
        clear hj' hj4
        have hp11 := (cells_cell HT11_c4.out j).trans (ar_get P j HJ.out)
        have hu9 := (cells_cell HT9_c4.out (4 + j)).trans (bk_use L U j HJ.out)
        have hge := H_hP.out.ge j
        have hle := H_hP.out.le j HJ.out
        have hu0 := (H_hm.out.use j HJ.out).1
        obtain ⟨p, hp⟩ : ∃ p, P j = p := ⟨_, rfl⟩
        obtain ⟨u, hu⟩ : ∃ u, U j = u := ⟨_, rfl⟩
        rw [hp] at hp11 hge hle
        rw [hu] at hu9 hge hu0
        have HPE := Hd.mk hp
        have HUE := Hd.mk hu
        clear hp hu
        by_cases hpu : p = u
        · subst hpu
          by_cases hp0 : p = 0
          · subst hp0
            go_wp2_with fail
            go_quiet (fail)
            go_wp2_with fail
            go_ret
            exact ⟨rfl, below_drewN HB_c4.out _⟩
          · have d1 : decide (p = 0) = false := decide_eq_false hp0
            have d2 : (p == 0) = false := by simpa using hp0
            have hpos : 0 < p := by omega
            have hw : IntKind.i64.wrap (p - 1) = p - 1 := IntWalk.i64_in _ ⟨by omega, by omega⟩
            go_wp2_with fail
            go_quiet (fail)
            go_upto_region 24 with fail
            obtain ⟨W5, hW5⟩ : ∃ W, W = W4.drewN nq := ⟨_, rfl⟩
            have hX : Below W4.heap.size W4 W5 := by rw [hW5]; exact below_drewN (Below.refl _ _) _
            rw [← hW5]
            clear hW5
            have HB_d5 := Hd.mk (ch4 HB_c4.out hX)
            have HT9_d5 := Hd.mk (keep HT9_c4.out hX)
            have HT11_d5 := Hd.mk (keep HT11_c4.out hX)
            have HT13_d5 := Hd.mk (keep HT13_c4.out hX)
            have SV_d5 := Hd.mk (SV_c4.out.below hX)
            clear HB_c4 HT9_c4 HT11_c4 HT13_c4 SV_c4
            clear hX
            have hp11' : W5.cell? ⟨w3.heap.size, j, none⟩ = some (.int .i64 p) := (cells_cell HT11_d5.out j).trans ((ar_get P j HJ.out).trans (by rw [HPE.out]))
            clear hp11 hu9
            go_cut [18, 19] (fun v18 v19 wx => v19 = .int .i64 252 ∧ Below W5.heap.size W5 wx)
            case first =>
              have hS0 := qp9_of HT13_d5.out hp11'
              clear hp11'
              go_region_held3 (fun W => W.cell? ⟨W3.heap.size, 0, none⟩ = some (.int .i64 (P 0)) ∧ W.cell? ⟨W3.heap.size, 1, none⟩ = some (.int .i64 (P 1)) ∧ W.cell? ⟨W3.heap.size, 2, none⟩ = some (.int .i64 (P 2)) ∧ W.cell? ⟨W3.heap.size, 3, none⟩ = some (.int .i64 (P 3)) ∧ W.cell? ⟨W3.heap.size, 4, none⟩ = some (.int .i64 (U 0)) ∧ W.cell? ⟨W3.heap.size, 5, none⟩ = some (.int .i64 (U 1)) ∧ W.cell? ⟨W3.heap.size, 6, none⟩ = some (.int .i64 (U 2)) ∧ W.cell? ⟨W3.heap.size, 7, none⟩ = some (.int .i64 (U 3)) ∧ W.cell? ⟨w3.heap.size, j, none⟩ = some (.int .i64 p) ∧ Below W5.heap.size W5 W)
                (first | with_reducible assumption | exact qp9_keep hS0 (by repeat (with_reducible first | exact Below.refl _ _ | apply bl_alloc | apply bl_drew | (refine bl_set ?_ (by simp) _) | (apply bl_call; assumption))))
                (first
                | (go_at_call 15; refine (qp_low H_hP.out j HJ.out p HUE.out HPE.out (by omega) _).mono ?_; rintro e wk ⟨rfl, hBk⟩; (first | (have hz := hBk.block (W5.heap.size) (by (try rw [drew_heap]); simp only [World.size_alloc]; omega); (try rw [drew_heap] at hz); rw [two_old] at hz; obtain ⟨⟨e0, e1, e2, e3, e4, e5, e6, e7⟩, ⟨f0, f1, f2, f3, f4, f5, f6, f7⟩⟩ := z_cells hz) | (have hz := hBk.block (W5.heap.size + 1) (by (try rw [drew_heap]); simp only [World.size_alloc]; omega); (try rw [drew_heap] at hz); rw [two_new] at hz; obtain ⟨⟨e0, e1, e2, e3, e4, e5, e6, e7⟩, ⟨f0, f1, f2, f3, f4, f5, f6, f7⟩⟩ := z_cells hz) | (have hz := hBk.block (W5.heap.size) (by (try rw [drew_heap]); simp only [World.size_alloc]; omega); (try rw [drew_heap] at hz); rw [World.alloc_heap_new] at hz; obtain ⟨⟨e0, e1, e2, e3, e4, e5, e6, e7⟩, ⟨f0, f1, f2, f3, f4, f5, f6, f7⟩⟩ := z_cells hz) | skip))
                )
              all_goals
                have HF := Hd.mk (qp9_below (by assumption))
                clear hw
                go_wp2_with fail
                go_meet
                exact ⟨rfl, HF.out⟩
            case rest =>
            obtain ⟨rfl, hBx⟩ := hcut
            have HB_6 := Hd.mk (ch4 HB_d5.out hBx)
            have HT9_6 := Hd.mk (keep HT9_d5.out hBx)
            have HT11_6 := Hd.mk (keep HT11_d5.out hBx)
            have HT13_6 := Hd.mk (keep HT13_d5.out hBx)
            have SV_6 := Hd.mk (SV_d5.out.below hBx)
            clear HB_d5 HT9_d5 HT11_d5 HT13_d5 SV_d5
            clear hBx hw
            go_wp2_with fail
            go_ret
            exact ⟨rfl, HB_6.out⟩
        · have hlt : u < p := by omega
          have d1 : decide (p = u) = false := decide_eq_false hpu
          have d2 : (p == u) = false := by simpa using hpu
          have hw : IntKind.i64.wrap (p - 1) = p - 1 := IntWalk.i64_in _ ⟨by omega, by omega⟩
          obtain ⟨Q, hQ⟩ : ∃ Q, upd P j (p - 1) = Q := ⟨_, rfl⟩
          have HQ := Hd.mk hQ
          clear hQ
          have HQR : Hd (rightB Q U = true) := ⟨by rw [← HQ.out, ← HPE.out]; exact H_hP.out.tightRight j HJ.out (by rw [HUE.out, HPE.out]; exact hlt)⟩
          obtain ⟨K', hK'⟩ := stepAt_ex Q (useK U cs) cs.length
          have HK' := Hd.mk hK'
          clear hK'
          go_wp2_with fail
          go_quiet (fail)
          go_upto_region 26 with fail
          obtain ⟨W5, hW5⟩ : ∃ W, W = W4.drewN nq := ⟨_, rfl⟩
          have hX : Below W4.heap.size W4 W5 := by rw [hW5]; exact below_drewN (Below.refl _ _) _
          rw [← hW5]
          clear hW5
          have HB_d5 := Hd.mk (ch4 HB_c4.out hX)
          have HT9_d5 := Hd.mk (keep HT9_c4.out hX)
          have HT11_d5 := Hd.mk (keep HT11_c4.out hX)
          have HT13_d5 := Hd.mk (keep HT13_c4.out hX)
          have SV_d5 := Hd.mk (SV_c4.out.below hX)
          clear HB_c4 HT9_c4 HT11_c4 HT13_c4 SV_c4
          clear hX
          have hp11' : W5.cell? ⟨w3.heap.size, j, none⟩ = some (.int .i64 p) := (cells_cell HT11_d5.out j).trans ((ar_get P j HJ.out).trans (by rw [HPE.out]))
          clear hp11 hu9
          go_cut [20, 21] (fun v20 v21 wx => ∃ g, v20 = .pointer (some ⟨g, 0, none⟩) ∧ wx.heap[g]? = some (.cells (bk Q U) 27 (0, 0)) ∧ v21 = .int .i64 0 ∧ Below W5.heap.size W5 wx)
          case first =>
            have hS0 := qp9_of HT13_d5.out hp11'
            clear hp11'
            go_region_held3 (fun W => W.cell? ⟨W3.heap.size, 0, none⟩ = some (.int .i64 (P 0)) ∧ W.cell? ⟨W3.heap.size, 1, none⟩ = some (.int .i64 (P 1)) ∧ W.cell? ⟨W3.heap.size, 2, none⟩ = some (.int .i64 (P 2)) ∧ W.cell? ⟨W3.heap.size, 3, none⟩ = some (.int .i64 (P 3)) ∧ W.cell? ⟨W3.heap.size, 4, none⟩ = some (.int .i64 (U 0)) ∧ W.cell? ⟨W3.heap.size, 5, none⟩ = some (.int .i64 (U 1)) ∧ W.cell? ⟨W3.heap.size, 6, none⟩ = some (.int .i64 (U 2)) ∧ W.cell? ⟨W3.heap.size, 7, none⟩ = some (.int .i64 (U 3)) ∧ W.cell? ⟨w3.heap.size, j, none⟩ = some (.int .i64 p) ∧ Below W5.heap.size W5 W)
              (first | with_reducible assumption | exact qp9_keep hS0 (by repeat (with_reducible first | exact Below.refl _ _ | apply bl_alloc | apply bl_drew | (refine bl_set ?_ (by simp) _) | (apply bl_call; assumption))))
              (first
              | (go_at_call 15; refine (qp_tight H_hP.out j HJ.out p HPE.out (by rw [HUE.out]; exact hlt) HQ.out _).mono ?_; rintro e wk ⟨rfl, hBk⟩; (first | (have hz := hBk.block (W5.heap.size) (by (try rw [drew_heap]); simp only [World.size_alloc]; omega); (try rw [drew_heap] at hz); rw [two_old] at hz; obtain ⟨⟨e0, e1, e2, e3, e4, e5, e6, e7⟩, ⟨f0, f1, f2, f3, f4, f5, f6, f7⟩⟩ := z_cells hz) | (have hz := hBk.block (W5.heap.size + 1) (by (try rw [drew_heap]); simp only [World.size_alloc]; omega); (try rw [drew_heap] at hz); rw [two_new] at hz; obtain ⟨⟨e0, e1, e2, e3, e4, e5, e6, e7⟩, ⟨f0, f1, f2, f3, f4, f5, f6, f7⟩⟩ := z_cells hz) | (have hz := hBk.block (W5.heap.size) (by (try rw [drew_heap]); simp only [World.size_alloc]; omega); (try rw [drew_heap] at hz); rw [World.alloc_heap_new] at hz; obtain ⟨⟨e0, e1, e2, e3, e4, e5, e6, e7⟩, ⟨f0, f1, f2, f3, f4, f5, f6, f7⟩⟩ := z_cells hz) | skip))
              )
            all_goals
              have HF := Hd.mk (qp9_below (by assumption))
              try have HZ := Hd.mk (set_bk Q U hz)
              clear hw
              go_wp2_with fail
              go_meet
              first | exact ⟨_, rfl, HZ.out, rfl, HF.out⟩ | exact ⟨_, rfl, World.alloc_heap_new _ _, rfl, HF.out⟩
          case rest =>
          obtain ⟨g, rfl, hG, rfl, hBx⟩ := hcut
          have HB_6 := Hd.mk (ch4 HB_d5.out hBx)
          have HT9_6 := Hd.mk (keep HT9_d5.out hBx)
          have HT11_6 := Hd.mk (keep HT11_d5.out hBx)
          have HT13_6 := Hd.mk (keep HT13_d5.out hBx)
          have SV_6 := Hd.mk (SV_d5.out.below hBx)
          clear HB_d5 HT9_d5 HT11_d5 HT13_d5 SV_d5
          clear hBx hp11'
          have HT20 := Hd.mk hG
          clear hG
          obtain ⟨-, i, hi, hneg⟩ := H_hP.out.under H_hK.out HKL.out
          obtain ⟨hn', hf'⟩ := H_hP.out.tight hi HKL.out hneg HK'.out
          have HN' := Hd.mk hn'
          clear hn' hneg hi
          rcases hf' with hf' | hf'
          · have HF' := Hd.mk hf'
            clear hf'
            obtain ⟨c0, c1, c2, c3, c4, c5, c6, c7⟩ := lit8 HT20.out
            go_wp2_with fail
            refine (qp_bad HQR.out H_hc.out HK'.out HN'.out HF'.out _ _ SV_6.out).mono ?_
            rintro e w7 ⟨rfl, hB⟩
            have HB_7 := Hd.mk (ch4 HB_6.out hB)
            have HT9_7 := Hd.mk (keep HT9_6.out hB)
            have HT11_7 := Hd.mk (keep HT11_6.out hB)
            have HT13_7 := Hd.mk (keep HT13_6.out hB)
            have HT20_7 := Hd.mk (keep HT20.out hB)
            have SV_7 := Hd.mk (SV_6.out.below hB)
            clear HB_6 HT9_6 HT11_6 HT13_6 HT20 SV_6
            clear hB
            clear c0 c1 c2 c3 c4 c5 c6 c7
            go_upto_region 28 with fail
            obtain ⟨W7, hW⟩ : ∃ W, W = w7.alloc (.cells #[.int .i64 0, .int .i64 0, .int .i64 0, .int .i64 0, .int .i64 0, .int .i64 0, .int .i64 0, .int .i64 0] 27) := ⟨_, rfl⟩
            have hX : Below w7.heap.size w7 W7 := by rw [hW]; exact (Below.refl _ _).alloc (Nat.le_refl _) _
            rw [← hW]
            clear hW
            have HB_c7 := Hd.mk (ch4 HB_7.out hX)
            have HT9_c7 := Hd.mk (keep HT9_7.out hX)
            have HT11_c7 := Hd.mk (keep HT11_7.out hX)
            have HT13_c7 := Hd.mk (keep HT13_7.out hX)
            have HT20_c7 := Hd.mk (keep HT20_7.out hX)
            have SV_c7 := Hd.mk (SV_7.out.below hX)
            clear HB_7 HT9_7 HT11_7 HT13_7 HT20_7 SV_7
            clear hX
            go_wp2_with fail
            go_ret
            exact ⟨rfl, HB_c7.out⟩
          · have HF' := Hd.mk hf'
            clear hf'
            obtain ⟨c0, c1, c2, c3, c4, c5, c6, c7⟩ := lit8 HT20.out
            go_wp2_with fail
            refine (qp_bad HQR.out H_hc.out HK'.out HN'.out HF'.out _ _ SV_6.out).mono ?_
            rintro e w7 ⟨rfl, hB⟩
            have HB_7 := Hd.mk (ch4 HB_6.out hB)
            have HT9_7 := Hd.mk (keep HT9_6.out hB)
            have HT11_7 := Hd.mk (keep HT11_6.out hB)
            have HT13_7 := Hd.mk (keep HT13_6.out hB)
            have HT20_7 := Hd.mk (keep HT20.out hB)
            have SV_7 := Hd.mk (SV_6.out.below hB)
            clear HB_6 HT9_6 HT11_6 HT13_6 HT20 SV_6
            clear hB
            clear c0 c1 c2 c3 c4 c5 c6 c7
            go_upto_region 28 with fail
            obtain ⟨W7, hW⟩ : ∃ W, W = w7.alloc (.cells #[.int .i64 0, .int .i64 0, .int .i64 0, .int .i64 0, .int .i64 0, .int .i64 0, .int .i64 0, .int .i64 0] 27) := ⟨_, rfl⟩
            have hX : Below w7.heap.size w7 W7 := by rw [hW]; exact (Below.refl _ _).alloc (Nat.le_refl _) _
            rw [← hW]
            clear hW
            have HB_c7 := Hd.mk (ch4 HB_7.out hX)
            have HT9_c7 := Hd.mk (keep HT9_7.out hX)
            have HT11_c7 := Hd.mk (keep HT11_7.out hX)
            have HT13_c7 := Hd.mk (keep HT13_7.out hX)
            have HT20_c7 := Hd.mk (keep HT20_7.out hX)
            have SV_c7 := Hd.mk (SV_7.out.below hX)
            clear HB_7 HT9_7 HT11_7 HT13_7 HT20_7 SV_7
            clear hX
            go_wp2_with fail
            go_ret
            exact ⟨rfl, HB_c7.out⟩

theorem qpeaks (haw : AwakeC) (a b : Nat → Int) (ha : ∀ j, j < 4 → 0 ≤ a j ∧ a j ≤ 255) (hb : ∀ j, j < 4 → 0 ≤ b j ∧ b j ≤ 255) (v : Value) (xs : List Int) (q : Int) (q0 : 0 ≤ q) (q1 : q ≤ 255) (w : World) (hs : SrcE e16 w v xs) (hx : ∀ x ∈ xs, 0 ≤ x ∧ x ≤ 65535) :
    Calls Try.prog 4 #[.agg (a8 a), .agg (a8 b), v, .int .u8 q] w fun e w' => e = .returned (.bool true) ∧ Below w.heap.size w w' := by
  have hP : PK (mL a) (mU a b) (peakK (useK (mU a b) (mC xs)) (mC xs).length) (mC xs) := ⟨mb a b ha hb, mc xs hx, rfl⟩
  obtain ⟨K, hK⟩ := stepAt_ex (peakK (useK (mU a b) (mC xs)) (mC xs).length) (useK (mU a b) (mC xs)) (mC xs).length
  exact qpeaks_any haw a b ha hb v xs w hs hx q _ _ _ rfl rfl rfl (mb a b ha hb) (mc xs hx) q0 q1 _ hP K hK
end Go.Proofs.Ytppfhcocmpmadaa
