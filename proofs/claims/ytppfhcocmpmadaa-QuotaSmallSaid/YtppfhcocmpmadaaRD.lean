/- The reference: Barrier. -/
import Derived.Test.YtppfhcocmpmadaaRC
namespace Go.Proofs.Ytppfhcocmpmadaa
open Go.RowKit
set_option linter.unusedVariables false

set_option maxRecDepth 100000 in
set_option maxHeartbeats 4000000 in
theorem rbarrier_no (L U : Nat → Int) (v : Value) (cs : List (Int × Int)) (w : World) (hs : SrcC w v cs) (hc : ¬ bothV L U cs = 0) : Calls Try.prog 35 #[.agg (bk L U), v] w fun e w' => e = .returned (.tuple #[.agg (bk zf zf), .int .i64 (-1), .int .i64 (bothV L U cs)]) ∧ Below w.heap.size w w' := by
  have HS := Hd.mk hs
  obtain ⟨n, hn⟩ : ∃ n, bothV L U cs = n := ⟨_, rfl⟩
  rw [hn] at hc ⊢
  have HN := Hd.mk hn
  have d1 : decide (n = 0) = false := decide_eq_false hc
  have d2 : (n == 0) = false := by simpa using hc
  clear hs hn
  have HW0 : Hd (Below w.heap.size w ((w.alloc (.cells (bk L U) 68)).alloc (.cells (bk zf zf) 68))) := ⟨((Below.refl _ _).alloc (Nat.le_refl _) _).alloc (by simp) _⟩
  go_enter Try.func35, Try.ntmps35
  go_wp2_with (refine wpList_load_row rfl 68 _ rfl _ rfl 68 (bk L U) (0, 0) _ ((Below.heap_alloc _ _ _ (by simp)).trans (World.alloc_heap_new w _)) Try.underlying68 rfl (by kernel_rfl) ?_)
  refine (rboth_any L U v cs _ (HS.out.below HW0.out)).mono ?_
  rintro e w1 ⟨rfl, hB⟩
  have hb1 : w1.heap[w.heap.size + 1]? = some (.cells (bk zf zf) 68 (0, 0)) := (hB.block _ (by simp)).trans (two_new w _ _)
  have HB1 := Hd.mk (HW0.out.trans (hB.mono (by simp; omega)))
  have HR := Hd.mk hb1
  obtain ⟨⟨e0, e1, e2, e3, e4, e5, e6, e7⟩, ⟨f0, f1, f2, f3, f4, f5, f6, f7⟩⟩ := bk_cells hb1
  clear hb1 hB HW0
  rw [HN.out]
  have HF := Hd.mk (bk_setall zf zf HR.out)
  have HFB := Hd.mk (set8_below HB1.out zf zf (by omega : w.heap.size ≤ w.heap.size + 1))
  go_wp2_with fail
  refine bodyPost_ret (results_cell_row3 Try.results35 _ _ _ 68 (bk zf zf) (0, 0) _ rfl HF.out Try.underlying68 rfl (by kernel_rfl)) rfl ⟨rfl, HFB.out⟩

set_option maxRecDepth 100000 in
set_option maxHeartbeats 8000000 in
theorem rbarrier_yes (L U : Nat → Int) (v : Value) (cs : List (Int × Int)) (w : World) (hs : SrcC w v cs) (hc : bothV L U cs = 0) : Calls Try.prog 35 #[.agg (bk L U), v] w fun e w' =>
    e = barR L (useK U cs cs.length) ∧ Below w.heap.size w w' := by
  obtain ⟨hrt, hck⟩ := both_ok hc
  have hlen := (chk_ok hck).1
  obtain ⟨V, hV⟩ : ∃ V, useK U cs cs.length = V := ⟨_, rfl⟩
  rw [hV]
  obtain ⟨a, c, rfl⟩ := hs.shape
  have HS := Hd.mk hs
  have HC := Hd.mk hc
  have HV := Hd.mk hV
  have HM := Hd.mk (small_of hrt hck)
  clear hs hc hrt hck hV
  obtain ⟨W0, hW0⟩ : ∃ x, x = (w.alloc (.cells (bk L U) 68)).alloc (.cells #[.int .i64 0, .int .i64 0, .int .i64 0, .int .i64 0, .int .i64 0, .int .i64 0, .int .i64 0, .int .i64 0] 68) := ⟨_, rfl⟩
  have HB0 : Hd (Below w.heap.size w W0) := ⟨by rw [hW0]; exact ((Below.refl _ _).alloc (Nat.le_refl _) _).alloc (by simp) _⟩
  have HG0 : Hd (W0.heap[w.heap.size]? = some (.cells (bk L U) 68 (0, 0))) := ⟨by rw [hW0]; exact (Below.heap_alloc _ _ _ (by simp)).trans (World.alloc_heap_new w _)⟩
  have HG1 : Hd (W0.heap[w.heap.size + 1]? = some (.cells (bk zf zf) 68 (0, 0))) := ⟨by rw [hW0]; exact two_new w _ _⟩
  have HW0 := Hd.mk hW0
  clear hW0
  go_enter Try.func35, Try.ntmps35
  go_upto_region 1 with fail
  rw [← HW0.out]
  clear HW0
  obtain ⟨c0, c1, c2, c3, c4, c5, c6, c7⟩ := lit8 HG0.out
  go_wp2_with fail
  refine (rboth_any L U _ cs _ (HS.out.below HB0.out)).mono ?_
  rintro e w1 ⟨rfl, hB⟩
  have HB1 := Hd.mk (ch4 HB0.out hB)
  have HT0 := Hd.mk (keep HG0.out hB)
  have HT1 := Hd.mk (keep HG1.out hB)
  clear hB HB0 HG0 HG1 c0 c1 c2 c3 c4 c5 c6 c7
  rw [HC.out]
  obtain ⟨c0, c1, c2, c3, c4, c5, c6, c7⟩ := lit8 HT0.out
  go_wp2_with fail
  refine (rafter_any L U V _ cs HV.out HM.out _ (HS.out.below HB1.out)).mono ?_
  rintro e w2 ⟨rfl, hB⟩
  have HB2 := Hd.mk (ch4 HB1.out hB)
  have HU0 := Hd.mk (keep HT0.out hB)
  have HU1 := Hd.mk (keep HT1.out hB)
  clear hB HB1 HT0 HT1 c0 c1 c2 c3 c4 c5 c6 c7
  simp only [bk]
  go_upto_region 5 with fail
  obtain ⟨W3, hW⟩ : ∃ W, W = w2.alloc (.cells (bk L V) 68) := ⟨_, rfl⟩
  have hX : Below w2.heap.size w2 W3 := by rw [hW]; exact (Below.refl _ _).alloc (Nat.le_refl _) _
  have HG8 : Hd (W3.heap[w2.heap.size]? = some (.cells (bk L V) 68 (0, 0))) := ⟨by rw [hW]; exact World.alloc_heap_new _ _⟩
  simp only [bk] at hW
  rw [← hW]
  clear hW
  have HB3 := Hd.mk (ch4 HB2.out hX)
  have HT0 := Hd.mk (keep HU0.out hX)
  have HT1 := Hd.mk (keep HU1.out hX)
  clear hX HB2 HU0 HU1
  go_wp2_with fail
  go_loopw [9] (fun i W => ∃ k : Nat, k ≤ 4 ∧ i = .int .i64 k ∧ Hd (failsV L V = failsF L V (4 - k)) ∧ Below W3.heap.size W3 W) (fun i _ => 4 - (intOf i).toNat)
  case atStart => exact ⟨0, Nat.zero_le _, rfl, ⟨rfl⟩, Below.refl _ _⟩
  case round =>
    obtain ⟨k, hk, rfl, HFK, hB⟩ := hrel
    have HBX := Hd.mk hB
    have HR0 := Hd.mk (keep HT0.out hB)
    have HR1 := Hd.mk (keep HT1.out hB)
    have HR8 := Hd.mk (keep HG8.out hB)
    have HBW := Hd.mk (ch4 HB3.out hB)
    clear hB
    by_cases hlt : k < 4
    · have hl := (cells_cell HR0.out k).trans (bk_lim L U k hlt)
      have hu := (cells_cell HR8.out (4 + k)).trans (bk_use L V k hlt)
      have k0 : (0 : Int) ≤ (k : Int) := by omega
      have k1 : (k : Int) < 4 := by omega
      have HNO : Hd (failAt (L k) (V k) = 0 → failsV L V = failsF L V (4 - (k + 1))) := ⟨fun h => HFK.out.trans (failsF_no hlt h)⟩
      have HYES : Hd (¬ failAt (L k) (V k) = 0 → failsV L V = ((k : Int), failAt (L k) (V k))) := ⟨fun h => HFK.out.trans (failsF_yes hlt h)⟩
      obtain ⟨l, hl'⟩ : ∃ l, L k = l := ⟨_, rfl⟩
      obtain ⟨u, hu'⟩ : ∃ u, V k = u := ⟨_, rfl⟩
      rw [hl'] at hl HNO HYES
      rw [hu'] at hu HNO HYES
      obtain ⟨f, hf⟩ : ∃ f, failAt l u = f := ⟨_, rfl⟩
      rw [hf] at HNO HYES
      have HF := Hd.mk hf
      clear hl' hu' hf HFK
      go_wp2_with fail
      go_quiet ((go_at_call 46; exact Calls.quiet_of_same ((rwrong_any u l _).mono fun _ _ ⟨he, hw⟩ => ⟨he.trans (by rw [HF.out]), hw.symm⟩)))
      by_cases hf0 : f = 0
      · have HN := Hd.mk (HNO.out hf0)
        subst hf0
        clear HNO HYES
        go_wp2_with fail
        go_roundw
        case rel => exact ⟨k + 1, by omega, by go_num, HN, below_drewN HBX.out _⟩
        case measure => simp [intOf] <;> omega
      · have HV2 := Hd.mk (HYES.out hf0)
        have HE : Hd (barR L V = .returned (.tuple #[.agg (bk zf zf), .int .i64 k, .int .i64 f])) := ⟨by rw [barR, HV2.out, if_neg hf0]⟩
        have d1 : decide (f = 0) = false := decide_eq_false hf0
        have d2 : (f == 0) = false := by simpa using hf0
        clear HNO HYES HV2
        obtain ⟨⟨e0, e1, e2, e3, e4, e5, e6, e7⟩, ⟨f0, f1, f2, f3, f4, f5, f6, f7⟩⟩ := bk_cells HR1.out
        have HZ := Hd.mk (bk_setall (W := wr.drewN nq) zf zf HR1.out)
        have HZB := Hd.mk (set8_below (below_drewN HBW.out nq) zf zf (by omega : w.heap.size ≤ w.heap.size + 1))
        go_wp2_with fail
        refine bodyPost_ret (results_cell_row3 Try.results35 _ _ _ 68 (bk zf zf) (0, 0) _ rfl HZ.out Try.underlying68 rfl (by kernel_rfl)) rfl ⟨HE.out.symm, HZB.out⟩
    · obtain rfl : k = 4 := by omega
      have hfv : (failsV L V).2 = 0 := by rw [HFK.out]; rfl
      have HE : Hd (barR L V = .returned (.tuple #[.agg (bk L V), .int .i64 (-1), .int .i64 0])) := ⟨by rw [barR, if_pos hfv]⟩
      clear hfv HFK
      obtain ⟨c0, c1, c2, c3, c4, c5, c6, c7⟩ := lit8 HR8.out
      obtain ⟨⟨e0, e1, e2, e3, e4, e5, e6, e7⟩, ⟨f0, f1, f2, f3, f4, f5, f6, f7⟩⟩ := bk_cells HR1.out
      have HZ := Hd.mk (bk_setall L V HR1.out)
      have HZB := Hd.mk (set8_below HBW.out L V (by omega : w.heap.size ≤ w.heap.size + 1))
      go_wp2_with fail
      refine bodyPost_ret (results_cell_row3 Try.results35 _ _ _ 68 (bk L V) (0, 0) _ rfl HZ.out Try.underlying68 rfl (by kernel_rfl)) rfl ⟨HE.out.symm, HZB.out⟩
end Go.Proofs.Ytppfhcocmpmadaa
