/- Walk of quota.Limit. -/
import Derived.Test.YtppfhcocmpmadaaB4
namespace Go.Proofs.Ytppfhcocmpmadaa
open Go.RowKit
set_option linter.unusedVariables false

def limR (L U : Nat → Int) (k n : Int) : Ending :=
  if rightB L U = false then .returned (.tuple #[.agg (bk zf zf), .int .i64 250]) else
  if isB k = false then .returned (.tuple #[.agg (bk zf zf), .int .i64 2]) else
  if 0 ≤ n ∧ n < U k.toNat then .returned (.tuple #[.agg (bk zf zf), .int .i64 252]) else
  if rightB (upd L k.toNat n) U = true then .returned (.tuple #[.agg (bk (upd L k.toNat n) U), .int .i64 0]) else .returned (.tuple #[.agg (bk zf zf), .int .i64 250])

theorem lim_end {w w1 : World} {A B : Nat → Int} (h : w1.heap[w.heap.size + 1]? = some (.cells (bk A B) 27 (0, 0))) (hB : Below w.heap.size w w1) (C D : Nat → Int) :
    (set8 w1 (w.heap.size + 1) C D).heap[w.heap.size + 1]? = some (.cells (bk C D) 27 (0, 0)) ∧ Below w.heap.size w (set8 w1 (w.heap.size + 1) C D) :=
  ⟨bk_setall C D h, set8_below hB C D (by omega)⟩

set_option maxRecDepth 100000 in
set_option maxHeartbeats 1000000 in
theorem limit_any (L U : Nat → Int) (k n : Int) (w : World) : Calls Try.prog 15 #[.agg (bk L U), .int .i64 k, .int .i64 n] w fun e w' => e = limR L U k n ∧ Below w.heap.size w w' := by
  have HW0 : Hd (Below w.heap.size w ((w.alloc (.cells (bk L U) 27)).alloc (.cells (bk zf zf) 27))) := ⟨((Below.refl _ _).alloc (Nat.le_refl _) _).alloc (by simp) _⟩
  go_enter Try.func15, Try.ntmps15
  go_wp2_with (refine wpList_load_row rfl 27 _ rfl _ rfl 27 (bk L U) (0, 0) _ ((Below.heap_alloc _ _ _ (by simp)).trans (World.alloc_heap_new w _)) Try.underlying27 rfl (by kernel_rfl) ?_)
  refine (right_any L U _).mono ?_
  rintro e w1 ⟨rfl, hB⟩
  have hb0 : w1.heap[w.heap.size]? = some (.cells (bk L U) 27 (0, 0)) := (hB.block _ (by simp; omega)).trans ((Below.heap_alloc _ _ _ (by simp)).trans (World.alloc_heap_new w _))
  have hb1 : w1.heap[w.heap.size + 1]? = some (.cells (bk zf zf) 27 (0, 0)) := (hB.block _ (by simp)).trans (two_new w _ _)
  have HB1 := Hd.mk (HW0.out.trans (hB.mono (by simp; omega)))
  have HBK := Hd.mk hb0
  have HRS := Hd.mk hb1
  clear hB HW0
  obtain ⟨⟨e0, e1, e2, e3, e4, e5, e6, e7⟩, ⟨f0, f1, f2, f3, f4, f5, f6, f7⟩⟩ := bk_cells hb1
  clear hb0 hb1
  cases hr : rightB L U
  · have HE : Hd (limR L U k n = .returned (.tuple #[.agg (bk zf zf), .int .i64 250])) := ⟨by rw [limR, if_pos hr]⟩
    clear hr
    go_wp2_with fail
    have HR := lim_end HRS.out HB1.out zf zf
    refine bodyPost_ret (results_cell_row2 Try.results15 _ _ _ 27 (bk zf zf) (0, 0) _ rfl HR.1 Try.underlying27 rfl (by kernel_rfl)) rfl ⟨HE.out.symm, HR.2⟩
  · have HRT := Hd.mk hr
    clear hr
    go_wp2_with fail
    refine (is_any k _).mono ?_
    rintro e w2 ⟨rfl, rfl⟩
    cases hk : isB k
    · have HE : Hd (limR L U k n = .returned (.tuple #[.agg (bk zf zf), .int .i64 2])) := ⟨by rw [limR, if_neg (by rw [HRT.out]; decide), if_pos hk]⟩
      clear hk
      go_wp2_with fail
      have HR := lim_end HRS.out HB1.out zf zf
      refine bodyPost_ret (results_cell_row2 Try.results15 _ _ _ 27 (bk zf zf) (0, 0) _ rfl HR.1 Try.underlying27 rfl (by kernel_rfl)) rfl ⟨HE.out.symm, HR.2⟩
    · have hk4 := (isB_iff k).1 hk
      obtain ⟨j, rfl⟩ : ∃ j : Nat, k = j := ⟨k.toNat, by omega⟩
      have HKK := Hd.mk hk
      have hj : j < 4 := by omega
      have i0 : (0 : Int) ≤ (j : Int) := by omega
      have i1 : (j : Int) < 4 := by omega
      have hu := (cells_cell HBK.out (4 + j)).trans (bk_use L U j hj)
      have hl := (cells_cell HBK.out j).trans (bk_lim L U j hj)
      have hlf := cells_free HBK.out j
      have HL : Hd (limR L U (j : Int) n = if 0 ≤ n ∧ n < U j then .returned (.tuple #[.agg (bk zf zf), .int .i64 252]) else
          if rightB (upd L j n) U = true then .returned (.tuple #[.agg (bk (upd L j n) U), .int .i64 0]) else .returned (.tuple #[.agg (bk zf zf), .int .i64 250])) := ⟨by
        rw [limR, if_neg (by rw [HRT.out]; decide), if_neg (by rw [HKK.out]; decide), Int.toNat_natCast]⟩
      obtain ⟨v, hv'⟩ : ∃ v, U j = v := ⟨_, rfl⟩
      rw [hv'] at hu HL
      clear hk hk4 hv'
      by_cases hn : 0 ≤ n ∧ n < v
      · have HE := Hd.mk (HL.out.trans (if_pos hn))
        obtain ⟨hn1, hn2⟩ := hn
        clear HL
        go_wp2_with fail
        have HR := lim_end HRS.out HB1.out zf zf
        refine bodyPost_ret (results_cell_row2 Try.results15 _ _ _ 27 (bk zf zf) (0, 0) _ rfl HR.1 Try.underlying27 rfl (by kernel_rfl)) rfl ⟨HE.out.symm, HR.2⟩
      · have HE := Hd.mk (HL.out.trans (if_neg hn))
        clear HL
        have hst : (w1.setCell ⟨w.heap.size, j, none⟩ (.int .i64 n)).heap[w.heap.size]? = some (.cells (bk (upd L j n) U) 27 (0, 0)) := by
          rw [← bk_set_lim L U j hj]; exact cells_set HBK.out _
        have hrs : (w1.setCell ⟨w.heap.size, j, none⟩ (.int .i64 n)).heap[w.heap.size + 1]? = some (.cells (bk zf zf) 27 (0, 0)) := (Below.heap_setCell _ _ _ _ (by simp)).trans HRS.out
        have hbl : Below w.heap.size w (w1.setCell ⟨w.heap.size, j, none⟩ (.int .i64 n)) := HB1.out.setCell (by simp) _
        obtain ⟨W2, hW2⟩ : ∃ W2, W2 = w1.setCell ⟨w.heap.size, j, none⟩ (.int .i64 n) := ⟨_, rfl⟩
        rw [← hW2] at hst hrs hbl
        have HW2 := Hd.mk hW2
        have HST := Hd.mk hst
        have HRS2 := Hd.mk hrs
        have HBL := Hd.mk hbl
        clear hst hrs hbl hW2
        have hn' : n < 0 ∨ (0 ≤ n ∧ v ≤ n) := by omega
        clear hn
        rcases hn' with hn1 | ⟨hn1, hn2⟩
        all_goals
          go_upto_region 8 with fail
          rw [← HW2.out]
          clear HW2 hu hl hlf e0 e1 e2 e3 e4 e5 e6 e7 f0 f1 f2 f3 f4 f5 f6 f7
          go_wp2_with (refine wpList_load_row rfl 27 _ rfl _ rfl 27 (bk (upd L j n) U) (0, 0) _ HST.out Try.underlying27 rfl (by kernel_rfl) ?_)
          refine (right_any (upd L j n) U _).mono ?_
          rintro e w3 ⟨rfl, hB3⟩
          have hb0 := (hB3.block _ (lt_of_heap HST.out)).trans HST.out
          have hb1 := (hB3.block _ (lt_of_heap HRS2.out)).trans HRS2.out
          have HB3 := Hd.mk (ch4 HBL.out hB3)
          have HRS3 := Hd.mk hb1
          obtain ⟨⟨c0, c1, c2, c3, c4, c5, c6, c7⟩, -⟩ := bk_cells hb0
          obtain ⟨⟨e0, e1, e2, e3, e4, e5, e6, e7⟩, ⟨f0, f1, f2, f3, f4, f5, f6, f7⟩⟩ := bk_cells hb1
          clear hb0 hb1 hB3 HBL HST HRS2
          cases hr2 : rightB (upd L j n) U
          · have HE2 := Hd.mk (HE.out.trans (if_neg (by rw [hr2]; decide)))
            clear hr2 HE
            go_wp2_with fail
            have HR := lim_end HRS3.out HB3.out zf zf
            refine bodyPost_ret (results_cell_row2 Try.results15 _ _ _ 27 (bk zf zf) (0, 0) _ rfl HR.1 Try.underlying27 rfl (by kernel_rfl)) rfl ⟨HE2.out.symm, HR.2⟩
          · have HE2 := Hd.mk (HE.out.trans (if_pos hr2))
            clear hr2 HE
            go_wp2_with fail
            have HR := lim_end HRS3.out HB3.out (upd L j n) U
            refine bodyPost_ret (results_cell_row2 Try.results15 _ _ _ 27 (bk (upd L j n) U) (0, 0) _ rfl HR.1 Try.underlying27 rfl (by kernel_rfl)) rfl ⟨HE2.out.symm, HR.2⟩
end Go.Proofs.Ytppfhcocmpmadaa
