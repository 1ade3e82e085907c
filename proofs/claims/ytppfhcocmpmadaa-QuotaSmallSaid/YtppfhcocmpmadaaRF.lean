/- The reference: Sum, Room, Limit. -/
import Derived.Test.YtppfhcocmpmadaaRC
import Derived.Test.YtppfhcocmpmadaaB5
namespace Go.Proofs.Ytppfhcocmpmadaa
open Go.RowKit
set_option linter.unusedVariables false

theorem rafter_zero {V : Nat → Int} {cs : List (Int × Int)} (hV : useK zf cs cs.length = V) (hc : chkV cs = 0) (v : Value) (w : World) (hs : SrcC w v cs) :
    Calls Try.prog 48 #[v8 0 0 0 0 0 0 0 0, v] w fun e w' => e = .returned (v8 0 0 0 0 (V 0) (V 1) (V 2) (V 3)) ∧ Below w.heap.size w w' :=
  rafter_any zf zf V v cs hV ⟨(chk_ok hc).2, (chk_ok hc).1, fun j hj => by simp [zf]⟩ w hs

set_option maxRecDepth 100000 in
set_option maxHeartbeats 4000000 in
theorem rsum_any (v : Value) (cs : List (Int × Int)) (w : World) (hs : SrcC w v cs) : Calls Try.prog 39 #[v] w fun e w' => e = .returned (.tuple #[.agg (if chkV cs = 0 then ar (useK zf cs cs.length) else ar zf), .int .i64 (chkV cs)]) ∧ Below w.heap.size w w' := by
  have HS := Hd.mk hs
  obtain ⟨n, hn⟩ : ∃ n, chkV cs = n := ⟨_, rfl⟩
  have HN := Hd.mk hn
  rw [hn]
  clear hs hn
  have HB0 : Hd (Below w.heap.size w (w.alloc (.cells (ar zf) 25))) := ⟨(Below.refl _ _).alloc (Nat.le_refl _) _⟩
  have HG0 : Hd ((w.alloc (.cells (ar zf) 25)).heap[w.heap.size]? = some (.cells (ar zf) 25 (0, 0))) := ⟨World.alloc_heap_new w _⟩
  by_cases h0 : n = 0
  · subst h0
    obtain ⟨V, hV⟩ : ∃ V, useK zf cs cs.length = V := ⟨_, rfl⟩
    rw [if_pos rfl, hV]
    have HV := Hd.mk hV
    clear hV
    go_enter Try.func39, Try.ntmps39
    go_wp2_with fail
    refine (rcheck_any v cs _ (HS.out.below HB0.out)).mono ?_
    rintro e w1 ⟨rfl, hB⟩
    have HB1 := Hd.mk (ch4 HB0.out hB)
    have HT0 := Hd.mk (keep HG0.out hB)
    rw [HN.out]
    clear hB HB0 HG0
    go_wp2_with fail
    refine (rafter_zero HV.out HN.out v _ (HS.out.below HB1.out)).mono ?_
    rintro e w2 ⟨rfl, hB⟩
    have HB2 := Hd.mk (ch4 HB1.out hB)
    have HT2 := Hd.mk (keep HT0.out hB)
    clear hB HB1 HT0
    obtain ⟨⟨e0, e1, e2, e3⟩, ⟨f0, f1, f2, f3⟩⟩ := ar_cells HT2.out
    have hfd : ∀ W : World, (Instr.field 68 (v8 0 0 0 0 (V 0) (V 1) (V 2) (V 3)) 1).run Try.prog W = .ok (v4 (V 0) (V 1) (V 2) (V 3)) W := fun W => by kernel_rfl
    have HF := Hd.mk (ar_setall V HT2.out)
    have HFB := Hd.mk (set4_below HB2.out (g := w.heap.size) (.int .i64 (V 0)) (.int .i64 (V 1)) (.int .i64 (V 2)) (.int .i64 (V 3)) 0 1 2 3 (Nat.le_refl _))
    go_wp2_with fail
    refine bodyPost_ret (results_cell_row2 Try.results39 _ _ _ 25 (ar V) (0, 0) _ rfl HF.out Try.underlying25 rfl (by kernel_rfl)) rfl ⟨rfl, HFB.out⟩
  · rw [if_neg h0]
    have d1 : decide (n = 0) = false := decide_eq_false h0
    have d2 : (n == 0) = false := by simpa using h0
    go_enter Try.func39, Try.ntmps39
    go_wp2_with fail
    refine (rcheck_any v cs _ (HS.out.below HB0.out)).mono ?_
    rintro e w1 ⟨rfl, hB⟩
    have HB1 := Hd.mk (ch4 HB0.out hB)
    have HT0 := Hd.mk (keep HG0.out hB)
    rw [HN.out]
    clear hB HB0 HG0
    obtain ⟨⟨e0, e1, e2, e3⟩, ⟨f0, f1, f2, f3⟩⟩ := ar_cells HT0.out
    have HF := Hd.mk (ar_setall zf HT0.out)
    have HFB := Hd.mk (set4_below HB1.out (g := w.heap.size) (.int .i64 (zf 0)) (.int .i64 (zf 1)) (.int .i64 (zf 2)) (.int .i64 (zf 3)) 0 1 2 3 (Nat.le_refl _))
    go_wp2_with fail
    refine bodyPost_ret (results_cell_row2 Try.results39 _ _ _ 25 (ar zf) (0, 0) _ rfl HF.out Try.underlying25 rfl (by kernel_rfl)) rfl ⟨rfl, HFB.out⟩

set_option maxRecDepth 100000 in
set_option maxHeartbeats 1000000 in
theorem rroom_any (L U : Nat → Int) (k : Int) (w : World) : Calls Try.prog 42 #[.agg (bk L U), .int .i64 k] w fun e w' => e = .returned (.tuple #[.int .i64 (roomV L U k).1, .int .i64 (roomV L U k).2]) ∧ Below w.heap.size w w' := by
  have HB0 : Hd (Below w.heap.size w (w.alloc (.cells (bk L U) 68))) := ⟨(Below.refl _ _).alloc (Nat.le_refl _) _⟩
  go_enter Try.func42, Try.ntmps42
  go_wp2_with (refine wpList_load_row rfl 68 _ rfl _ rfl 68 (bk L U) (0, 0) _ (World.alloc_heap_new w _) Try.underlying68 rfl (by kernel_rfl) ?_)
  refine (rright_any L U _).mono ?_
  rintro e w1 ⟨rfl, hB⟩
  have HB := Hd.mk (ch4 HB0.out hB)
  have hb := (hB.block w.heap.size (by simp)).trans (World.alloc_heap_new w (.cells (bk L U) 68))
  have HBK := Hd.mk hb
  clear hB HB0 hb
  cases hr : rightB L U
  · have HE : Hd (roomV L U k = (0, 250)) := ⟨by rw [roomV, hr]; rfl⟩
    clear hr
    go_wp2_with fail
    go_ret2
    exact ⟨by rw [HE.out]; rfl, HB.out⟩
  · have HRT := Hd.mk (right_iff.1 hr)
    by_cases h1 : k < 0
    · have HE : Hd (roomV L U k = (0, 2)) := ⟨by rw [roomV, hr, (isB_no k).2 (.inl h1)]; rfl⟩
      clear hr
      go_wp2_with fail
      go_ret2
      exact ⟨by rw [HE.out]; rfl, HB.out⟩
    by_cases h2 : 3 < k
    · have HE : Hd (roomV L U k = (0, 2)) := ⟨by rw [roomV, hr, (isB_no k).2 (.inr (by omega))]; rfl⟩
      clear hr
      go_wp2_with fail
      go_ret2
      exact ⟨by rw [HE.out]; rfl, HB.out⟩
    · have HE : Hd (roomV L U k = (L k.toNat - U k.toNat, 0)) := ⟨by rw [roomV, hr, (isB_iff k).2 ⟨by omega, by omega⟩]; rfl⟩
      obtain ⟨j, rfl⟩ : ∃ j : Nat, k = j := ⟨k.toNat, by omega⟩
      rw [Int.toNat_natCast] at HE
      have hj : j < 4 := by omega
      have i0 : (0 : Int) ≤ (j : Int) := by omega
      have i1 : (j : Int) < 4 := by omega
      have hl := (cells_cell HBK.out j).trans (bk_lim L U j hj)
      have hu := (cells_cell HBK.out (4 + j)).trans (bk_use L U j hj)
      obtain ⟨b1, b2, b3, b4⟩ := HRT.out j hj
      obtain ⟨l, hl'⟩ : ∃ l, L j = l := ⟨_, rfl⟩
      obtain ⟨v, hv'⟩ : ∃ v, U j = v := ⟨_, rfl⟩
      rw [hl'] at hl b1 b2 b4 HE
      rw [hv'] at hu b3 b4 HE
      have hw : IntKind.i64.wrap (l - v) = l - v := IntWalk.i64_in _ ⟨by omega, by omega⟩
      clear hr hl' hv'
      go_wp2_with fail
      go_quiet (fail)
      go_wp2_with fail
      go_ret2
      exact ⟨by rw [HE.out]; rfl, below_drewN HB.out _⟩

set_option maxRecDepth 100000 in
set_option maxHeartbeats 4000000 in
theorem rlimit_any (L U : Nat → Int) (k n : Int) (w : World) : Calls Try.prog 43 #[.agg (bk L U), .int .i64 k, .int .i64 n] w fun e w' => e = limR L U k n ∧ Below w.heap.size w w' := by
  obtain ⟨W0, hW0⟩ : ∃ x, x = (w.alloc (.cells (bk L U) 68)).alloc (.cells #[.int .i64 0, .int .i64 0, .int .i64 0, .int .i64 0, .int .i64 0, .int .i64 0, .int .i64 0, .int .i64 0] 68) := ⟨_, rfl⟩
  have HB0 : Hd (Below w.heap.size w W0) := ⟨by rw [hW0]; exact ((Below.refl _ _).alloc (Nat.le_refl _) _).alloc (by simp) _⟩
  have HG0 : Hd (W0.heap[w.heap.size]? = some (.cells (bk L U) 68 (0, 0))) := ⟨by rw [hW0]; exact (Below.heap_alloc _ _ _ (by simp)).trans (World.alloc_heap_new w _)⟩
  have HG1 : Hd (W0.heap[w.heap.size + 1]? = some (.cells (bk zf zf) 68 (0, 0))) := ⟨by rw [hW0]; exact two_new w _ _⟩
  have HW0 := Hd.mk hW0
  clear hW0
  go_enter Try.func43, Try.ntmps43
  go_upto_region 1 with fail
  rw [← HW0.out]
  clear HW0
  obtain ⟨c0, c1, c2, c3, c4, c5, c6, c7⟩ := lit8 HG0.out
  go_wp2_with fail
  refine (rright_any L U _).mono ?_
  rintro e w1 ⟨rfl, hB⟩
  have HB1 := Hd.mk (ch4 HB0.out hB)
  have HT0 := Hd.mk (keep HG0.out hB)
  have HT1 := Hd.mk (keep HG1.out hB)
  clear hB HB0 HG0 HG1 c0 c1 c2 c3 c4 c5 c6 c7
  obtain ⟨⟨e0, e1, e2, e3, e4, e5, e6, e7⟩, ⟨f0, f1, f2, f3, f4, f5, f6, f7⟩⟩ := bk_cells HT1.out
  cases hr : rightB L U
  · have HE : Hd (limR L U k n = .returned (.tuple #[.agg (bk zf zf), .int .i64 250])) := ⟨by rw [limR, if_pos hr]⟩
    clear hr
    have HF := Hd.mk (bk_setall zf zf HT1.out)
    have HFB := Hd.mk (set8_below HB1.out zf zf (by omega : w.heap.size ≤ w.heap.size + 1))
    go_wp2_with fail
    refine bodyPost_ret (results_cell_row2 Try.results43 _ _ _ 68 (bk zf zf) (0, 0) _ rfl HF.out Try.underlying68 rfl (by kernel_rfl)) rfl ⟨HE.out.symm, HFB.out⟩
  · have HRT := Hd.mk hr
    clear hr
    by_cases h1 : k < 0
    · have HE : Hd (limR L U k n = .returned (.tuple #[.agg (bk zf zf), .int .i64 2])) := ⟨by rw [limR, if_neg (by rw [HRT.out]; decide), if_pos ((isB_no k).2 (.inl h1))]⟩
      have HF := Hd.mk (bk_setall zf zf HT1.out)
      have HFB := Hd.mk (set8_below HB1.out zf zf (by omega : w.heap.size ≤ w.heap.size + 1))
      go_wp2_with fail
      refine bodyPost_ret (results_cell_row2 Try.results43 _ _ _ 68 (bk zf zf) (0, 0) _ rfl HF.out Try.underlying68 rfl (by kernel_rfl)) rfl ⟨HE.out.symm, HFB.out⟩
    by_cases h2 : 3 < k
    · have HE : Hd (limR L U k n = .returned (.tuple #[.agg (bk zf zf), .int .i64 2])) := ⟨by rw [limR, if_neg (by rw [HRT.out]; decide), if_pos ((isB_no k).2 (.inr (by omega)))]⟩
      have HF := Hd.mk (bk_setall zf zf HT1.out)
      have HFB := Hd.mk (set8_below HB1.out zf zf (by omega : w.heap.size ≤ w.heap.size + 1))
      go_wp2_with fail
      refine bodyPost_ret (results_cell_row2 Try.results43 _ _ _ 68 (bk zf zf) (0, 0) _ rfl HF.out Try.underlying68 rfl (by kernel_rfl)) rfl ⟨HE.out.symm, HFB.out⟩
    obtain ⟨j, rfl⟩ : ∃ j : Nat, k = j := ⟨k.toNat, by omega⟩
    have hj : j < 4 := by omega
    have HJ := Hd.mk hj
    have i0 : (0 : Int) ≤ (j : Int) := by omega
    have i1 : (j : Int) < 4 := by omega
    have hu := (cells_cell HT0.out (4 + j)).trans (bk_use L U j hj)
    have hl := (cells_cell HT0.out j).trans (bk_lim L U j hj)
    have hlf := cells_free HT0.out j
    have HL : Hd (limR L U (j : Int) n = if 0 ≤ n ∧ n < U j then .returned (.tuple #[.agg (bk zf zf), .int .i64 252]) else
        if rightB (upd L j n) U = true then .returned (.tuple #[.agg (bk (upd L j n) U), .int .i64 0]) else .returned (.tuple #[.agg (bk zf zf), .int .i64 250])) := ⟨by
      rw [limR, if_neg (by rw [HRT.out]; decide), if_neg (by rw [(isB_iff _).2 ⟨by omega, by omega⟩]; decide), Int.toNat_natCast]⟩
    have HNO : Hd (n < 0 ∨ 1099511627776 < n → rightB (upd L j n) U = false) := ⟨fun h => by
      cases e : rightB (upd L j n) U
      · rfl
      · have := right_iff.1 e j hj
        simp only [upd, if_pos] at this
        omega⟩
    have HYES : Hd (U j ≤ n ∧ n ≤ 1099511627776 → rightB (upd L j n) U = true) := ⟨fun h => right_iff.2 fun i hi => by
      have := right_iff.1 HRT.out i hi
      unfold upd
      by_cases e : i = j
      · subst e; rw [if_pos rfl]; omega
      · rw [if_neg e]; omega⟩
    obtain ⟨v, hv'⟩ : ∃ v, U j = v := ⟨_, rfl⟩
    rw [hv'] at hu HL HYES
    clear hv' h1 h2 hj
    by_cases hn : 0 ≤ n ∧ n < v
    · have HE := Hd.mk (HL.out.trans (if_pos hn))
      obtain ⟨hn1, hn2⟩ := hn
      clear HL HNO HYES
      have HF := Hd.mk (bk_setall zf zf HT1.out)
      have HFB := Hd.mk (set8_below HB1.out zf zf (by omega : w.heap.size ≤ w.heap.size + 1))
      go_wp2_with fail
      refine bodyPost_ret (results_cell_row2 Try.results43 _ _ _ 68 (bk zf zf) (0, 0) _ rfl HF.out Try.underlying68 rfl (by kernel_rfl)) rfl ⟨HE.out.symm, HFB.out⟩
    · have HE0 := Hd.mk (HL.out.trans (if_neg hn))
      by_cases h3 : n < 0
      · have HE := Hd.mk (HE0.out.trans (if_neg (by rw [HNO.out (.inl h3)]; decide)))
        clear HL HNO HYES HE0 hn
        have HF := Hd.mk (bk_setall zf zf HT1.out)
        have HFB := Hd.mk (set8_below HB1.out zf zf (by omega : w.heap.size ≤ w.heap.size + 1))
        go_wp2_with fail
        refine bodyPost_ret (results_cell_row2 Try.results43 _ _ _ 68 (bk zf zf) (0, 0) _ rfl HF.out Try.underlying68 rfl (by kernel_rfl)) rfl ⟨HE.out.symm, HFB.out⟩
      by_cases h4 : 1099511627776 < n
      · have HE := Hd.mk (HE0.out.trans (if_neg (by rw [HNO.out (.inr h4)]; decide)))
        have hn1 : 0 ≤ n := by omega
        have hn2 : v ≤ n := by omega
        clear HL HNO HYES HE0 hn
        have HF := Hd.mk (bk_setall zf zf HT1.out)
        have HFB := Hd.mk (set8_below HB1.out zf zf (by omega : w.heap.size ≤ w.heap.size + 1))
        go_wp2_with fail
        refine bodyPost_ret (results_cell_row2 Try.results43 _ _ _ 68 (bk zf zf) (0, 0) _ rfl HF.out Try.underlying68 rfl (by kernel_rfl)) rfl ⟨HE.out.symm, HFB.out⟩
      · have hn1 : 0 ≤ n := by omega
        have hn2 : v ≤ n := by omega
        have HE := Hd.mk (HE0.out.trans (if_pos (HYES.out ⟨by omega, by omega⟩)))
        clear HL HNO HYES HE0 hn
        have HST : Hd ((w1.setCell ⟨w.heap.size, j, none⟩ (.int .i64 n)).heap[w.heap.size]? = some (.cells (bk (upd L j n) U) 68 (0, 0))) := ⟨by rw [← bk_set_lim L U j HJ.out]; exact cells_set HT0.out _⟩
        have HRS : Hd ((w1.setCell ⟨w.heap.size, j, none⟩ (.int .i64 n)).heap[w.heap.size + 1]? = some (.cells (bk zf zf) 68 (0, 0))) := ⟨(Below.heap_setCell _ _ _ _ (by simp)).trans HT1.out⟩
        have HBL : Hd (Below w.heap.size w (w1.setCell ⟨w.heap.size, j, none⟩ (.int .i64 n))) := ⟨HB1.out.setCell (by simp) _⟩
        clear e0 e1 e2 e3 e4 e5 e6 e7 f0 f1 f2 f3 f4 f5 f6 f7
        go_upto_region 10 with fail
        obtain ⟨W2, hW2⟩ : ∃ W2, W2 = w1.setCell ⟨w.heap.size, j, none⟩ (.int .i64 n) := ⟨_, rfl⟩
        rw [← hW2] at HST HRS HBL ⊢
        clear hW2 hu hl hlf
        obtain ⟨M, hM⟩ : ∃ M, upd L j n = M := ⟨_, rfl⟩
        rw [hM] at HST HE
        clear hM
        obtain ⟨⟨c0, c1, c2, c3, c4, c5, c6, c7⟩, -⟩ := bk_cells HST.out
        obtain ⟨⟨e0, e1, e2, e3, e4, e5, e6, e7⟩, ⟨f0, f1, f2, f3, f4, f5, f6, f7⟩⟩ := bk_cells HRS.out
        have HF := Hd.mk (bk_setall M U HRS.out)
        have HFB := Hd.mk (set8_below HBL.out M U (by omega : w.heap.size ≤ w.heap.size + 1))
        go_wp2_with fail
        refine bodyPost_ret (results_cell_row2 Try.results43 _ _ _ 68 (bk M U) (0, 0) _ rfl HF.out Try.underlying68 rfl (by kernel_rfl)) rfl ⟨HE.out.symm, HFB.out⟩
end Go.Proofs.Ytppfhcocmpmadaa
