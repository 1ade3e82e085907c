/- The reference: Peak. -/
import Derived.Test.YtppfhcocmpmadaaRC
import Derived.Test.YtppfhcocmpmadaaA9
namespace Go.Proofs.Ytppfhcocmpmadaa
open Go.RowKit
set_option linter.unusedVariables false

/-- The greatest of the first numbers, from 0 on. -/
def inn (X : Nat → Int) : Nat → Int
  | 0 => 0
  | m + 1 => max (inn X m) (X m)
theorem inn_peak (U : Nat → Nat → Int) (j : Nat) (h : 0 ≤ U 0 j) : ∀ m, inn (fun i => U i j) (m + 1) = peakK U m j
  | 0 => by simp only [inn, peakK]; omega
  | m + 1 => by rw [inn, inn_peak U j h m]; rfl
theorem inn_nonneg (X : Nat → Int) : ∀ m, 0 ≤ inn X m
  | 0 => Int.le_refl _
  | m + 1 => by have := inn_nonneg X m; simp only [inn]; omega
theorem inn_up {X : Nat → Int} {m : Nat} (h : inn X m < X m) : inn X (m + 1) = X m := by simp only [inn]; omega
theorem inn_stay {X : Nat → Int} {m : Nat} (h : ¬ inn X m < X m) : inn X (m + 1) = inn X m := by simp only [inn]; omega
/-- Account k's number is m, those before are the peaks, those behind are 0. -/
def pkK (P : Nat → Int) (k : Nat) (m : Int) : Nat → Int := fun j => if j < k then P j else if j = k then m else 0
theorem pkK_set (P : Nat → Int) (k : Nat) (m m' : Int) : upd (pkK P k m) k m' = pkK P k m' := by
  funext j
  unfold upd pkK
  by_cases e : j = k
  · rw [if_pos e, if_neg (by omega), if_pos e]
  · rw [if_neg e, if_neg e, if_neg e]
theorem pkK_next (P : Nat → Int) (k : Nat) : pkK P k (P k) = pkK P (k + 1) 0 := by
  funext j
  unfold pkK
  by_cases h : j < k
  · rw [if_pos h, if_pos (by omega)]
  · rw [if_neg h]
    by_cases e : j = k
    · rw [if_pos e, if_pos (by omega), e]
    · rw [if_neg e, if_neg (by omega)]; split <;> rfl
theorem pkK_zero (P : Nat → Int) : ar (pkK P 0 0) = ar zf := by simp [ar, pkK, zf]
theorem pkK_four (P : Nat → Int) (m : Int) : ar (pkK P 4 m) = ar P := by simp [ar, pkK]
theorem pkK_at (P : Nat → Int) (k : Nat) (m : Int) : pkK P k m k = m := by simp [pkK]
theorem ar_setall' {W : World} {g : Nat} {f : Nat → Int} (f' : Nat → Int) (h : W.heap[g]? = some (.cells (ar f) 25 (0, 0))) :
    (set4 W g f').heap[g]? = some (.cells (ar f') 25 (0, 0)) := ar_setall f' h

set_option maxRecDepth 100000 in
set_option maxHeartbeats 4000000 in
theorem rpeak_no (L U : Nat → Int) (v : Value) (cs : List (Int × Int)) (w : World) (hs : SrcC w v cs) (hc : ¬ bothV L U cs = 0) : Calls Try.prog 38 #[.agg (bk L U), v] w fun e w' => e = .returned (.tuple #[.agg (ar zf), .int .i64 (bothV L U cs)]) ∧ Below w.heap.size w w' := by
  have HS := Hd.mk hs
  obtain ⟨n, hn⟩ : ∃ n, bothV L U cs = n := ⟨_, rfl⟩
  rw [hn] at hc ⊢
  have HN := Hd.mk hn
  have d1 : decide (n = 0) = false := decide_eq_false hc
  have d2 : (n == 0) = false := by simpa using hc
  clear hs hn
  obtain ⟨W0, hW0⟩ : ∃ x, x = ((w.alloc (.cells (bk L U) 68)).alloc (.cells #[.int .i64 0, .int .i64 0, .int .i64 0, .int .i64 0] 25)).alloc (.cells #[.int .i64 0, .int .i64 0, .int .i64 0, .int .i64 0] 25) := ⟨_, rfl⟩
  obtain ⟨p0, p1, p2, p3⟩ := push3 w (.cells (bk L U) 68) (.cells (ar zf) 25) (.cells (ar zf) 25)
  have HB0 : Hd (Below w.heap.size w W0) := ⟨by rw [hW0]; exact (((Below.refl _ _).alloc (Nat.le_refl _) _).alloc (by simp) _).alloc (by simp; omega) _⟩
  have HG0 : Hd (W0.heap[w.heap.size]? = some (.cells (bk L U) 68 (0, 0))) := ⟨by rw [hW0]; exact p1⟩
  have HG1 : Hd (W0.heap[w.heap.size + 1]? = some (.cells (ar zf) 25 (0, 0))) := ⟨by rw [hW0]; exact p2⟩
  have HG2 : Hd (W0.heap[w.heap.size + 2]? = some (.cells (ar zf) 25 (0, 0))) := ⟨by rw [hW0]; exact p3⟩
  have HW0 := Hd.mk hW0
  clear hW0 p0 p1 p2 p3
  go_enter Try.func38, Try.ntmps38
  go_upto_region 2 with fail
  rw [← HW0.out]
  clear HW0
  obtain ⟨c0, c1, c2, c3, c4, c5, c6, c7⟩ := lit8 HG0.out
  go_wp2_with fail
  refine (rboth_any L U v cs _ (HS.out.below HB0.out)).mono ?_
  rintro e w1 ⟨rfl, hB⟩
  have HB1 := Hd.mk (ch4 HB0.out hB)
  have HT1 := Hd.mk (keep HG1.out hB)
  have hT2 := keep HG2.out hB
  clear hB HB0 HG0 HG1 HG2 c0 c1 c2 c3 c4 c5 c6 c7
  rw [HN.out]
  obtain ⟨⟨e0, e1, e2, e3⟩, ⟨f0, f1, f2, f3⟩⟩ := ar_cells HT1.out
  obtain ⟨c0, c1, c2, c3⟩ := lit4 hT2
  clear hT2
  have HF := Hd.mk (ar_setall' zf HT1.out)
  have HFB := Hd.mk (set4_below HB1.out (g := w.heap.size + 1) (.int .i64 (zf 0)) (.int .i64 (zf 1)) (.int .i64 (zf 2)) (.int .i64 (zf 3)) 0 1 2 3 (by omega))
  go_wp2_with fail
  refine bodyPost_ret (results_cell_row2 Try.results38 _ _ _ 25 (ar zf) (0, 0) _ rfl HF.out Try.underlying25 rfl (by kernel_rfl)) rfl ⟨rfl, HFB.out⟩

set_option maxRecDepth 100000 in
set_option maxHeartbeats 8000000 in
theorem rpeak_yes (L U : Nat → Int) (v : Value) (cs : List (Int × Int)) (w : World) (hs : SrcC w v cs) (hc : bothV L U cs = 0) : Calls Try.prog 38 #[.agg (bk L U), v] w fun e w' =>
    e = .returned (.tuple #[.agg (ar (peakK (useK U cs) cs.length)), .int .i64 0]) ∧ Below w.heap.size w w' := by
  obtain ⟨hrt, hck⟩ := both_ok hc
  have hlen := (chk_ok hck).1
  obtain ⟨P, hP⟩ : ∃ P, peakK (useK U cs) cs.length = P := ⟨_, rfl⟩
  rw [hP]
  have HPI : Hd (∀ k, k < 4 → inn (fun i => useK U cs i k) (cs.length + 1) = P k) := ⟨fun k hk => by
    rw [inn_peak (useK U cs) k (by rw [useK_zero]; have := right_iff.1 hrt k hk; omega), hP]⟩
  obtain ⟨a, c, rfl⟩ := hs.shape
  have HS := Hd.mk hs
  have HC := Hd.mk hc
  have HM := Hd.mk (small_of hrt hck)
  clear hs hc hrt hck hP
  obtain ⟨W0, hW0⟩ : ∃ x, x = ((w.alloc (.cells (bk L U) 68)).alloc (.cells #[.int .i64 0, .int .i64 0, .int .i64 0, .int .i64 0] 25)).alloc (.cells #[.int .i64 0, .int .i64 0, .int .i64 0, .int .i64 0] 25) := ⟨_, rfl⟩
  obtain ⟨p0, p1, p2, p3⟩ := push3 w (.cells (bk L U) 68) (.cells (ar zf) 25) (.cells (ar zf) 25)
  have HB0 : Hd (Below w.heap.size w W0) := ⟨by rw [hW0]; exact (((Below.refl _ _).alloc (Nat.le_refl _) _).alloc (by simp) _).alloc (by simp; omega) _⟩
  have HG0 : Hd (W0.heap[w.heap.size]? = some (.cells (bk L U) 68 (0, 0))) := ⟨by rw [hW0]; exact p1⟩
  have HG1 : Hd (W0.heap[w.heap.size + 1]? = some (.cells (ar zf) 25 (0, 0))) := ⟨by rw [hW0]; exact p2⟩
  have HG2 : Hd (W0.heap[w.heap.size + 2]? = some (.cells (ar zf) 25 (0, 0))) := ⟨by rw [hW0]; exact p3⟩
  have HW0 := Hd.mk hW0
  clear hW0 p0 p1 p2 p3
  go_enter Try.func38, Try.ntmps38
  go_upto_region 2 with fail
  rw [← HW0.out]
  clear HW0
  obtain ⟨c0, c1, c2, c3, c4, c5, c6, c7⟩ := lit8 HG0.out
  go_wp2_with fail
  refine (rboth_any L U _ cs _ (HS.out.below HB0.out)).mono ?_
  rintro e w1 ⟨rfl, hB⟩
  have HB1 := Hd.mk (ch4 HB0.out hB)
  have HT0 := Hd.mk (keep HG0.out hB)
  have HT1 := Hd.mk (keep HG1.out hB)
  have HT2 := Hd.mk (keep HG2.out hB)
  clear hB HB0 HG0 HG1 HG2 c0 c1 c2 c3 c4 c5 c6 c7
  rw [HC.out]
  go_wp2_with fail
  go_loopw [8] (fun i W => ∃ k : Nat, k ≤ 4 ∧ i = .int .i64 k ∧ W.heap[w.heap.size]? = some (.cells (bk L U) 68 (0, 0)) ∧ W.heap[w.heap.size + 1]? = some (.cells (ar zf) 25 (0, 0)) ∧ W.heap[w.heap.size + 2]? = some (.cells (ar (pkK P k 0)) 25 (0, 0)) ∧ Below w.heap.size w W) (fun i _ => 4 - (intOf i).toNat)
  case atStart => exact ⟨0, Nat.zero_le _, rfl, HT0.out, HT1.out, by rw [pkK_zero]; exact HT2.out, HB1.out⟩
  case round =>
    obtain ⟨k, hk, rfl, h0, h1, h2, hB⟩ := hrel
    have HR0 := Hd.mk h0
    have HR1 := Hd.mk h1
    have HR2 := Hd.mk h2
    have HBW := Hd.mk hB
    clear h0 h1 h2 hB HT0 HT1 HT2
    by_cases hlt : k < 4
    · have HLT := Hd.mk hlt
      have k0 : (0 : Int) ≤ (k : Int) := by omega
      have k1 : (k : Int) < 4 := by omega
      have dk : decide ((k : Int) < 4) = true := decide_eq_true k1
      have HPK := Hd.mk (HPI.out k hlt)
      obtain ⟨X, hX⟩ : ∃ X : Nat → Int, (fun i => useK U cs i k) = X := ⟨_, rfl⟩
      rw [hX] at HPK
      have HXE : Hd (∀ i, useK U cs i k = X i) := ⟨fun i => by rw [← hX]⟩
      clear hlt hX
      go_wp2_with fail
      go_loopw [9] (fun i W => ∃ m : Nat, m ≤ cs.length + 1 ∧ i = .int .i64 m ∧ W.heap[w.heap.size]? = some (.cells (bk L U) 68 (0, 0)) ∧ W.heap[w.heap.size + 1]? = some (.cells (ar zf) 25 (0, 0)) ∧ W.heap[w.heap.size + 2]? = some (.cells (ar (pkK P k (inn X m))) 25 (0, 0)) ∧ Below w.heap.size w W) (fun i _ => cs.length + 1 - (intOf i).toNat)
      case atStart => exact ⟨0, Nat.zero_le _, rfl, HR0.out, HR1.out, HR2.out, HBW.out⟩
      case round =>
        obtain ⟨m, hm, rfl, h0, h1, h2, hB⟩ := hrel
        have HQ0 := Hd.mk h0
        have HQ1 := Hd.mk h1
        have HQ2 := Hd.mk h2
        have HBQ := Hd.mk hB
        clear h1 h2 hB
        by_cases hml : m < cs.length + 1
        · obtain ⟨c0, c1, c2, c3, c4, c5, c6, c7⟩ := lit8 h0
          have m0 : (0 : Int) ≤ (m : Int) := by omega
          have m1 : (m : Int) ≤ (cs.length : Int) := by omega
          clear h0
          go_wp2_with fail
          refine (rused_any L U _ cs k m HLT.out (by omega) HM.out _ (HS.out.below HBQ.out)).mono ?_
          rw [HXE.out m]
          rintro e w3 ⟨rfl, hB3⟩
          have HZ0 := Hd.mk (keep HQ0.out hB3)
          have HZ1 := Hd.mk (keep HQ1.out hB3)
          have hT2 := keep HQ2.out hB3
          have HBZ := Hd.mk (ch4 HBQ.out hB3)
          have ho := (cells_cell hT2 k).trans (ar_get (pkK P k (inn X m)) k HLT.out)
          rw [pkK_at] at ho
          have hfz := cells_free hT2 k
          have HZ2 := Hd.mk hT2
          obtain ⟨x, hx⟩ : ∃ x, X m = x := ⟨_, rfl⟩
          obtain ⟨y, hy⟩ : ∃ y, inn X m = y := ⟨_, rfl⟩
          rw [hx]
          rw [hy] at ho
          by_cases hxy : y < x
          · have HU := Hd.mk (inn_up (X := X) (m := m) (by rw [hx, hy]; exact hxy))
            rw [hx] at HU
            have HN : Hd ((w3.setCell ⟨w.heap.size + 2, k, none⟩ (.int .i64 x)).heap[w.heap.size + 2]? = some (.cells (ar (pkK P k (inn X (m + 1)))) 25 (0, 0))) := ⟨by
              rw [HU.out, ← pkK_set P k (inn X m) x, ← ar_set _ k HLT.out]; exact cells_set hT2 _⟩
            have HN0 : Hd ((w3.setCell ⟨w.heap.size + 2, k, none⟩ (.int .i64 x)).heap[w.heap.size]? = some (.cells (bk L U) 68 (0, 0))) := ⟨(Below.heap_setCell _ _ _ _ (by simp)).trans HZ0.out⟩
            have HN1 : Hd ((w3.setCell ⟨w.heap.size + 2, k, none⟩ (.int .i64 x)).heap[w.heap.size + 1]? = some (.cells (ar zf) 25 (0, 0))) := ⟨(Below.heap_setCell _ _ _ _ (by simp)).trans HZ1.out⟩
            have HNB : Hd (Below w.heap.size w (w3.setCell ⟨w.heap.size + 2, k, none⟩ (.int .i64 x))) := ⟨HBZ.out.setCell (by simp) _⟩
            clear hT2 hB3 c0 c1 c2 c3 c4 c5 c6 c7 hx hy
            go_wp2_with fail
            go_roundw
            case rel => exact ⟨m + 1, by omega, by go_num, HN0.out, HN1.out, HN.out, HNB.out⟩
            case measure => simp [intOf] <;> omega
          · have HU := Hd.mk (inn_stay (X := X) (m := m) (by rw [hx, hy]; exact hxy))
            clear hT2 hB3 c0 c1 c2 c3 c4 c5 c6 c7 hx hy
            go_wp2_with fail
            go_roundw
            case rel => exact ⟨m + 1, by omega, by go_num, HZ0.out, HZ1.out, by rw [HU.out]; exact HZ2.out, HBZ.out⟩
            case measure => simp [intOf] <;> omega
        · obtain rfl : m = cs.length + 1 := by omega
          have HN2 : Hd (wr.heap[w.heap.size + 2]? = some (.cells (ar (pkK P (k + 1) 0)) 25 (0, 0))) := ⟨by
            rw [← pkK_next, ← HPK.out]; exact HQ2.out⟩
          have hml2 : ¬ ((cs.length : Int) + 1 ≤ (cs.length : Int)) := by omega
          clear h0
          go_wp2_with fail
          go_roundw
          case rel => exact ⟨k + 1, HLT.out, by go_num, HQ0.out, HQ1.out, HN2.out, HBQ.out⟩
          case measure => simp [intOf] <;> omega
    · obtain rfl : k = 4 := by omega
      have h2 := HR2.out
      rw [pkK_four] at h2
      obtain ⟨c0, c1, c2, c3⟩ := lit4 h2
      obtain ⟨⟨e0, e1, e2, e3⟩, ⟨f0, f1, f2, f3⟩⟩ := ar_cells HR1.out
      have HF := Hd.mk (ar_setall' P HR1.out)
      have HFB := Hd.mk (set4_below HBW.out (g := w.heap.size + 1) (.int .i64 (P 0)) (.int .i64 (P 1)) (.int .i64 (P 2)) (.int .i64 (P 3)) 0 1 2 3 (by omega))
      clear h2
      go_wp2_with fail
      refine bodyPost_ret (results_cell_row2 Try.results38 _ _ _ 25 (ar P) (0, 0) _ rfl HF.out Try.underlying25 rfl (by kernel_rfl)) rfl ⟨rfl, HFB.out⟩
end Go.Proofs.Ytppfhcocmpmadaa
