/- The reference: Steps. -/
import Derived.Test.YtppfhcocmpmadaaRA
import Derived.Test.YtppfhcocmpmadaaRB
import Derived.Test.YtppfhcocmpmadaaPN
import Derived.Test.YtppfhcocmpmadaaA8
namespace Go.Proofs.Ytppfhcocmpmadaa
open Go.RowKit
set_option linter.unusedVariables false

theorem rc9_keep {B W W' : World} {g g2 i : Nat} {L U : Nat → Int} {x : Int} (h : W.cell? ⟨g, 0, none⟩ = some (.int .i64 (L 0)) ∧ W.cell? ⟨g, 1, none⟩ = some (.int .i64 (L 1)) ∧ W.cell? ⟨g, 2, none⟩ = some (.int .i64 (L 2)) ∧ W.cell? ⟨g, 3, none⟩ = some (.int .i64 (L 3)) ∧ W.cell? ⟨g, 4, none⟩ = some (.int .i64 (U 0)) ∧ W.cell? ⟨g, 5, none⟩ = some (.int .i64 (U 1)) ∧ W.cell? ⟨g, 6, none⟩ = some (.int .i64 (U 2)) ∧ W.cell? ⟨g, 7, none⟩ = some (.int .i64 (U 3)) ∧ W.cell? ⟨g2, i, none⟩ = some (.int .i64 x) ∧ Below B.heap.size B W) (hB : Below W.heap.size W W') :
    W'.cell? ⟨g, 0, none⟩ = some (.int .i64 (L 0)) ∧ W'.cell? ⟨g, 1, none⟩ = some (.int .i64 (L 1)) ∧ W'.cell? ⟨g, 2, none⟩ = some (.int .i64 (L 2)) ∧ W'.cell? ⟨g, 3, none⟩ = some (.int .i64 (L 3)) ∧ W'.cell? ⟨g, 4, none⟩ = some (.int .i64 (U 0)) ∧ W'.cell? ⟨g, 5, none⟩ = some (.int .i64 (U 1)) ∧ W'.cell? ⟨g, 6, none⟩ = some (.int .i64 (U 2)) ∧ W'.cell? ⟨g, 7, none⟩ = some (.int .i64 (U 3)) ∧ W'.cell? ⟨g2, i, none⟩ = some (.int .i64 x) ∧ Below B.heap.size B W' := by
  obtain ⟨h0, h1, h2, h3, h4, h5, h6, h7, h8, h9⟩ := h
  exact ⟨(hB.cell (p := ⟨g, 0, none⟩) (World.block_lt_of_cell? _ _ h0)).trans h0, (hB.cell (p := ⟨g, 1, none⟩) (World.block_lt_of_cell? _ _ h1)).trans h1, (hB.cell (p := ⟨g, 2, none⟩) (World.block_lt_of_cell? _ _ h2)).trans h2, (hB.cell (p := ⟨g, 3, none⟩) (World.block_lt_of_cell? _ _ h3)).trans h3, (hB.cell (p := ⟨g, 4, none⟩) (World.block_lt_of_cell? _ _ h4)).trans h4, (hB.cell (p := ⟨g, 5, none⟩) (World.block_lt_of_cell? _ _ h5)).trans h5, (hB.cell (p := ⟨g, 6, none⟩) (World.block_lt_of_cell? _ _ h6)).trans h6, (hB.cell (p := ⟨g, 7, none⟩) (World.block_lt_of_cell? _ _ h7)).trans h7, (hB.cell (p := ⟨g2, i, none⟩) (World.block_lt_of_cell? _ _ h8)).trans h8, ch4 h9 hB⟩
theorem rc9_below {B W : World} {g g2 i : Nat} {L U : Nat → Int} {x : Int} (h : W.cell? ⟨g, 0, none⟩ = some (.int .i64 (L 0)) ∧ W.cell? ⟨g, 1, none⟩ = some (.int .i64 (L 1)) ∧ W.cell? ⟨g, 2, none⟩ = some (.int .i64 (L 2)) ∧ W.cell? ⟨g, 3, none⟩ = some (.int .i64 (L 3)) ∧ W.cell? ⟨g, 4, none⟩ = some (.int .i64 (U 0)) ∧ W.cell? ⟨g, 5, none⟩ = some (.int .i64 (U 1)) ∧ W.cell? ⟨g, 6, none⟩ = some (.int .i64 (U 2)) ∧ W.cell? ⟨g, 7, none⟩ = some (.int .i64 (U 3)) ∧ W.cell? ⟨g2, i, none⟩ = some (.int .i64 x) ∧ Below B.heap.size B W) : Below B.heap.size B W := by
  obtain ⟨h0, h1, h2, h3, h4, h5, h6, h7, h8, h9⟩ := h
  exact h9
theorem rc9_of {B : World} {g g2 i : Nat} {L U : Nat → Int} {x : Int} {t : TypeId} (h : B.heap[g]? = some (.cells (bk L U) t (0, 0))) (h' : B.cell? ⟨g2, i, none⟩ = some (.int .i64 x)) :
    B.cell? ⟨g, 0, none⟩ = some (.int .i64 (L 0)) ∧ B.cell? ⟨g, 1, none⟩ = some (.int .i64 (L 1)) ∧ B.cell? ⟨g, 2, none⟩ = some (.int .i64 (L 2)) ∧ B.cell? ⟨g, 3, none⟩ = some (.int .i64 (L 3)) ∧ B.cell? ⟨g, 4, none⟩ = some (.int .i64 (U 0)) ∧ B.cell? ⟨g, 5, none⟩ = some (.int .i64 (U 1)) ∧ B.cell? ⟨g, 6, none⟩ = some (.int .i64 (U 2)) ∧ B.cell? ⟨g, 7, none⟩ = some (.int .i64 (U 3)) ∧ B.cell? ⟨g2, i, none⟩ = some (.int .i64 x) ∧ Below B.heap.size B B := by
  obtain ⟨⟨c0, c1, c2, c3, c4, c5, c6, c7⟩, -⟩ := bk_cells h
  exact ⟨c0, c1, c2, c3, c4, c5, c6, c7, h', Below.refl _ _⟩

theorem small_of {L U : Nat → Int} {cs : List (Int × Int)} (hr : rightB L U = true) (hc : chkV cs = 0) : Small U cs :=
  ⟨(chk_ok hc).2, (chk_ok hc).1, fun j hj => by have := right_iff.1 hr j hj; omega⟩
theorem lim_right {L U V : Nat → Int} (hr : rightB L U = true) (h : (failsV L V).2 = 0) : rightB L V = true := right_iff.2 fun j hj => by
  have h1 := right_iff.1 hr j hj
  have h2 := failAt_iff.1 (fails_ok.1 h j hj)
  omega
theorem at_right {L U : Nat → Int} {cs : List (Int × Int)} {K : Nat} (hr : rightB L U = true) (h : StepAt L (useK U cs) cs.length K) : rightB L (useK U cs K) = true := by
  cases K with
  | zero => rw [useK_zero]; exact hr
  | succ K => exact lim_right hr (h.ok K (by omega))
theorem at_bad {L U : Nat → Int} {cs : List (Int × Int)} {K : Nat} (hr : rightB L U = true) (h : StepAt L (useK U cs) cs.length K) (j : Nat) (hn : K < cs.length) (hj : j < 4) (hc : cs[K].1 = j) :
    ¬ failAt (L j) (useK U cs (K + 1) j) = 0 ∧ (failsV L (useK U cs (K + 1))).2 = failAt (L j) (useK U cs (K + 1) j) := by
  have e := useK_step U cs K hn j hj hc
  have ej : useK U cs (K + 1) j = useK U cs K j + cs[K].2 := by rw [← e]; simp [upd]
  have hR := at_right hr h
  have hb := h.bad hn
  by_cases hz : failAt (L j) (useK U cs (K + 1) j) = 0
  · exfalso
    refine hb (fails_ok.2 fun i hi => ?_)
    by_cases hij : i = j
    · rw [hij]; exact hz
    · rw [← e, upd, if_neg hij]; have := right_iff.1 hR i hi; exact failAt_ok (by omega) (by omega)
  · refine ⟨hz, ?_⟩
    rw [ej] at hz ⊢
    rw [← e, fails_one hR j hj _ hz]

set_option maxRecDepth 100000 in
set_option maxHeartbeats 4000000 in
theorem rsteps_no (L U : Nat → Int) (v : Value) (cs : List (Int × Int)) (w : World) (hs : SrcC w v cs) (hc : ¬ bothV L U cs = 0) : Calls Try.prog 34 #[.agg (bk L U), v] w fun e w' => e = .returned (.tuple #[.agg (bk zf zf), .int .i64 (-1), .int .i64 (bothV L U cs)]) ∧ Below w.heap.size w w' := by
  have HS := Hd.mk hs
  obtain ⟨n, hn⟩ : ∃ n, bothV L U cs = n := ⟨_, rfl⟩
  rw [hn] at hc ⊢
  have HN := Hd.mk hn
  have d1 : decide (n = 0) = false := decide_eq_false hc
  have d2 : (n == 0) = false := by simpa using hc
  clear hs hn
  have HW0 : Hd (Below w.heap.size w ((w.alloc (.cells (bk L U) 68)).alloc (.cells (bk zf zf) 68))) := ⟨((Below.refl _ _).alloc (Nat.le_refl _) _).alloc (by simp) _⟩
  go_enter Try.func34, Try.ntmps34
  go_wp2_with (refine wpList_load_row rfl 68 _ rfl _ rfl 68 (bk L U) (0, 0) _ ((Below.heap_alloc _ _ _ (by simp)).trans (World.alloc_heap_new w _)) Try.underlying68 rfl (by kernel_rfl) ?_)
  refine (rboth_any L U v cs _ (HS.out.below HW0.out)).mono ?_
  rintro e w1 ⟨rfl, hB⟩
  have hb1 : w1.heap[w.heap.size + 1]? = some (.cells (bk zf zf) 68 (0, 0)) := (hB.block _ (by simp)).trans (two_new w _ _)
  have HB1 := Hd.mk (HW0.out.trans (hB.mono (by simp; omega)))
  have HR := Hd.mk hb1
  obtain ⟨⟨e0, e1, e2, e3, e4, e5, e6, e7⟩, ⟨f0, f1, f2, f3, f4, f5, f6, f7⟩⟩ := bk_cells hb1
  clear hb1 hB HW0
  rw [HN.out]
  have HF := Hd.mk (bk_setall zf zf HR.out)
  have HFB := Hd.mk (set8_below HB1.out zf zf (by omega : w.heap.size ≤ w.heap.size + 1))
  go_wp2_with fail
  refine bodyPost_ret (results_cell_row3 Try.results34 _ _ _ 68 (bk zf zf) (0, 0) _ rfl HF.out Try.underlying68 rfl (by kernel_rfl)) rfl ⟨rfl, HFB.out⟩

set_option maxRecDepth 100000 in
set_option maxHeartbeats 8000000 in
theorem rsteps_yes (L U : Nat → Int) (v : Value) (cs : List (Int × Int)) (K : Nat) (hK : StepAt L (useK U cs) cs.length K) (w : World) (hs : SrcC w v cs) (hc : bothV L U cs = 0) : Calls Try.prog 34 #[.agg (bk L U), v] w fun e w' =>
    e = stepR L (useK U cs) cs.length K ∧ Below w.heap.size w w' := by
  obtain ⟨hrt, hck⟩ := both_ok hc
  have hlen := (chk_ok hck).1
  obtain ⟨a, c, rfl⟩ := hs.shape
  have HS := Hd.mk hs
  have HC := Hd.mk hc
  have HM := Hd.mk (small_of hrt hck)
  have HRT := Hd.mk hrt
  have H_K := Hd.mk hK
  clear hs hc hrt hck hK
  obtain ⟨W0, hW0⟩ : ∃ x, x = (w.alloc (.cells (bk L U) 68)).alloc (.cells #[.int .i64 0, .int .i64 0, .int .i64 0, .int .i64 0, .int .i64 0, .int .i64 0, .int .i64 0, .int .i64 0] 68) := ⟨_, rfl⟩
  have HB0 : Hd (Below w.heap.size w W0) := ⟨by rw [hW0]; exact ((Below.refl _ _).alloc (Nat.le_refl _) _).alloc (by simp) _⟩
  have HG0 : Hd (W0.heap[w.heap.size]? = some (.cells (bk L U) 68 (0, 0))) := ⟨by rw [hW0]; exact (Below.heap_alloc _ _ _ (by simp)).trans (World.alloc_heap_new w _)⟩
  have HG1 : Hd (W0.heap[w.heap.size + 1]? = some (.cells (bk zf zf) 68 (0, 0))) := ⟨by rw [hW0]; exact two_new w _ _⟩
  have HW0 := Hd.mk hW0
  clear hW0
  go_enter Try.func34, Try.ntmps34
  go_upto_region 1 with fail
  rw [← HW0.out]
  clear HW0
  obtain ⟨c0, c1, c2, c3, c4, c5, c6, c7⟩ := lit8 HG0.out
  go_wp2_with fail
  refine (rboth_any L U _ cs _ (HS.out.below HB0.out)).mono ?_
  rintro e w1 ⟨rfl, hB⟩
  have HB1 := Hd.mk (ch4 HB0.out hB)
  have HT0 := Hd.mk (keep HG0.out hB)
  have HT1 := Hd.mk (keep HG1.out hB)
  clear hB HB0 HG0 HG1 c0 c1 c2 c3 c4 c5 c6 c7
  rw [HC.out]
  go_wp2_with fail
  go_loopw [8] (fun i W => ∃ k : Nat, k ≤ K ∧ i = .int .i64 k ∧ Below w1.heap.size w1 W) (fun i _ => cs.length - (intOf i).toNat)
  case atStart => exact ⟨0, Nat.zero_le _, rfl, Below.refl _ _⟩
  case round =>
    obtain ⟨k, hk, rfl, hB⟩ := hrel
    have hKn := H_K.out.le
    have HB := Hd.mk hB
    have HR0 := Hd.mk (keep HT0.out hB)
    have HR1 := Hd.mk (keep HT1.out hB)
    have HRS := Hd.mk (HS.out.below (ch4 HB1.out hB))
    have HBW := Hd.mk (ch4 HB1.out hB)
    clear hB
    by_cases hlt : k < cs.length
    · obtain ⟨b, off, rfl, hb, hc1, hc2⟩ := HRS.out.at k hlt
      have hx := (okC_iff cs[k]).1 (HM.out.ok _ (List.getElem_mem hlt))
      obtain ⟨j, hj⟩ : ∃ j : Nat, cs[k].1 = (j : Int) := ⟨cs[k].1.toNat, by omega⟩
      rw [hj] at hc1 hx
      have hj4 : j < 4 := by omega
      have j0 : (0 : Int) ≤ (j : Int) := by omega
      have j1 : (j : Int) < 4 := by omega
      have k0 : (0 : Int) ≤ (k : Int) := by omega
      have k1 : (k : Int) < (cs.length : Int) := by omega
      have HJ := Hd.mk hj4
      have HJE := Hd.mk hj
      have HLT := Hd.mk hlt
      have hl := (cells_cell HR0.out j).trans (bk_lim L U j hj4)
      have hw : IntKind.i64.wrap ((k : Int) + 1) = ((k + 1 : Nat) : Int) := by rw [IntWalk.i64_in _ ⟨by omega, by omega⟩]; omega
      obtain ⟨l, hl'⟩ : ∃ l, L j = l := ⟨_, rfl⟩
      rw [hl'] at hl
      have HLE := Hd.mk hl'
      obtain ⟨x, hx'⟩ : ∃ x, useK U cs (k + 1) j = x := ⟨_, rfl⟩
      have HXE := Hd.mk hx'
      obtain ⟨f, hf⟩ : ∃ f, failAt l x = f := ⟨_, rfl⟩
      have HFE := Hd.mk hf
      clear hj hx hj4 hl' hx' hf hc2
      go_upto_region 8 with fail
      go_cut [10] (fun v10 wx => v10 = .int .i64 f ∧ Below wr.heap.size wr wx)
      case first =>
        have hS0 := rc9_of HR0.out hl
        clear hl
        go_region_held3 (fun W => W.cell? ⟨w.heap.size, 0, none⟩ = some (.int .i64 (L 0)) ∧ W.cell? ⟨w.heap.size, 1, none⟩ = some (.int .i64 (L 1)) ∧ W.cell? ⟨w.heap.size, 2, none⟩ = some (.int .i64 (L 2)) ∧ W.cell? ⟨w.heap.size, 3, none⟩ = some (.int .i64 (L 3)) ∧ W.cell? ⟨w.heap.size, 4, none⟩ = some (.int .i64 (U 0)) ∧ W.cell? ⟨w.heap.size, 5, none⟩ = some (.int .i64 (U 1)) ∧ W.cell? ⟨w.heap.size, 6, none⟩ = some (.int .i64 (U 2)) ∧ W.cell? ⟨w.heap.size, 7, none⟩ = some (.int .i64 (U 3)) ∧ W.cell? ⟨w.heap.size, j, none⟩ = some (.int .i64 l) ∧ Below wr.heap.size wr W)
          (first | with_reducible assumption | exact rc9_keep hS0 (by repeat (with_reducible first | exact Below.refl _ _ | apply bl_alloc | apply bl_drew | (refine bl_set ?_ (by simp) _) | (apply bl_call; assumption))))
          (first
          | (go_at_call 47; refine (rused_any L U _ cs j (k + 1) HJ.out HLT.out HM.out _ (HRS.out.below (rc9_below (by assumption)))).mono ?_; rw [HXE.out]; rintro e wk ⟨rfl, hBk⟩)
          | (go_at_call 46; refine (rwrong_any x l _).mono ?_; rw [HFE.out]; rintro e wk ⟨rfl, rfl⟩)
          )
        all_goals
          have HF := Hd.mk (rc9_below (by assumption))
          go_wp2_with fail
          go_meet
          exact ⟨rfl, HF.out⟩
      case rest =>
      obtain ⟨rfl, hBx⟩ := hcut
      have HBX := Hd.mk (ch4 HB.out hBx)
      clear hl hw
      rcases Nat.lt_or_ge k K with hkK | hkK
      · have hf0 : f = 0 := by
          rw [← HFE.out, ← HXE.out, ← HLE.out]
          exact fails_ok.1 (H_K.out.ok k hkK) j HJ.out
        have HKK := Hd.mk hkK
        subst hf0
        clear hkK hBx hc1
        go_wp2_with fail
        go_roundw
        case rel => exact ⟨k + 1, HKK.out, by go_num, HBX.out⟩
        case measure => simp [intOf] <;> have := HLT.out <;> omega
      · obtain rfl : k = K := by omega
        obtain ⟨g1, g2⟩ := at_bad HRT.out H_K.out j HLT.out HJ.out HJE.out
        rw [HLE.out, HXE.out, HFE.out] at g1 g2
        have HE : Hd (stepR L (useK U cs) cs.length k = .returned (.tuple #[.agg (bk zf zf), .int .i64 k, .int .i64 f])) := ⟨by rw [stepR, if_pos HLT.out, g2]⟩
        have d1 : decide (f = 0) = false := decide_eq_false g1
        have d2 : (f == 0) = false := by simpa using g1
        have HRW := Hd.mk (keep HR1.out hBx)
        have HBY := Hd.mk (ch4 HBW.out hBx)
        clear g2 hkK hBx hc1 hk hKn
        obtain ⟨⟨e0, e1, e2, e3, e4, e5, e6, e7⟩, ⟨f0, f1, f2, f3, f4, f5, f6, f7⟩⟩ := bk_cells HRW.out
        have HF := Hd.mk (bk_setall zf zf HRW.out)
        have HFB := Hd.mk (set8_below HBY.out zf zf (by omega : w.heap.size ≤ w.heap.size + 1))
        go_wp2_with fail
        refine bodyPost_ret (results_cell_row3 Try.results34 _ _ _ 68 (bk zf zf) (0, 0) _ rfl HF.out Try.underlying68 rfl (by kernel_rfl)) rfl ⟨HE.out.symm, HFB.out⟩
    · obtain rfl : k = cs.length := by omega
      obtain rfl : K = cs.length := by omega
      have HE : Hd (stepR L (useK U cs) cs.length cs.length = .returned (.tuple #[.agg (bk L (useK U cs cs.length)), .int .i64 (-1), .int .i64 0])) := ⟨by rw [stepR, if_neg (by omega)]⟩
      obtain ⟨V, hV⟩ : ∃ V, useK U cs cs.length = V := ⟨_, rfl⟩
      rw [hV] at HE
      have HV := Hd.mk hV
      clear hV hk hKn hlt
      obtain ⟨c0, c1, c2, c3, c4, c5, c6, c7⟩ := lit8 HR0.out
      go_wp2_with fail
      refine (rafter_any L U V _ cs HV.out HM.out _ HRS.out).mono ?_
      rintro e w3 ⟨rfl, hB3⟩
      have HR3 := Hd.mk (keep HR1.out hB3)
      have HB3 := Hd.mk (ch4 HBW.out hB3)
      clear hB3 c0 c1 c2 c3 c4 c5 c6 c7
      obtain ⟨⟨e0, e1, e2, e3, e4, e5, e6, e7⟩, ⟨f0, f1, f2, f3, f4, f5, f6, f7⟩⟩ := bk_cells HR3.out
      have HF := Hd.mk (bk_setall L V HR3.out)
      have HFB := Hd.mk (set8_below HB3.out L V (by omega : w.heap.size ≤ w.heap.size + 1))
      simp only [bk]
      go_wp2_with fail
      refine bodyPost_ret (results_cell_row3 Try.results34 _ _ _ 68 (bk L V) (0, 0) _ rfl HF.out Try.underlying68 rfl (by kernel_rfl)) rfl ⟨HE.out.symm, HFB.out⟩
end Go.Proofs.Ytppfhcocmpmadaa
