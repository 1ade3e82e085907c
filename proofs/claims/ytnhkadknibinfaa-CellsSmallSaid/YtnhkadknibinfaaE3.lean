/- Copy. -/
import Derived.Test.YtnhkadknibinfaaE2
import Derived.Deep.RegionLaw
namespace Go.Proofs.Ytnhkadknibinfaa
open Go.RowKit
set_option linter.unusedVariables false

theorem bl_drew {B : Nat} {w W : World} (h : Below B w W) : Below B w W.drew := ⟨h.os, h.tape, h.output, h.size, h.block⟩

set_option maxRecDepth 100000 in
set_option maxHeartbeats 2000000 in
theorem copy_any {y : Lay} {w : World} {pr : Nat → Prop} {M : Nat} {st : St} (h : MemL y w pr M st) :
    Calls Try.prog 30 #[.pointer (some ⟨M, 0, none⟩)] w fun e w' => ∃ M2, e = .returned (.pointer (some ⟨M2, 0, none⟩)) ∧ MemAt w' (fun k => k < w.heap.size) M2 st ∧ Below w.heap.size w w' := by
  have c0 := h.c0
  have HM := Hd.mk h
  have hbx := heap_alloc_new w (.cells #[.bool true, .slice none 0 0, .slice none 0 0] 63)
  have hB1 := (Below.refl w.heap.size w).alloc (Nat.le_refl _) (.cells #[.bool true, .slice none 0 0, .slice none 0 0] 63)
  have c1 := (Ext.mem hB1 h).c1
  have hst : ∃ y2, NewR y2 w (w.alloc (.cells #[.bool true, .slice none 0 0, .slice none 0 0] 63)) w.heap.size (st.now.take 0) :=
    ⟨⟨none, 0, none, 0, fun _ => none, fun _ => 0, fun _ => 0⟩, rfl, rfl, hbx, Nat.le_refl _, ⟨OwnE.nil _ _ _ _, fun d hd => (by cases hd), fun i hi => (by simp at hi), fun i j d hi => (by simp at hi), fun i hi => (by simp at hi)⟩, hB1⟩
  have HST := Hd.mk hst
  have n16 := h.ok.owners
  have m64 := h.ok.many
  obtain ⟨N, hN⟩ : ∃ n, st.now.length = n := ⟨_, rfl⟩
  have HN := Hd.mk hN
  obtain ⟨nm, hnm⟩ : ∃ n, st.marks.length = n := ⟨_, rfl⟩
  have HNM := Hd.mk hnm
  rw [hN] at n16 c1
  rw [hnm] at m64
  clear h hst hbx hB1 hN hnm
  go_enter Try.func30, Try.ntmps30
  go_wp2_with fail
  refine (is_at c0).mono ?_
  rintro e w1 ⟨rfl, rfl⟩
  clear c0
  go_wp2_with fail
  go_loopw [18] (fun i W => ∃ k : Nat, k ≤ N ∧ i = .int .i64 k ∧ Hd (∃ y2, NewR y2 w W w.heap.size (st.now.take k))) (fun i _ => N - (intOf i).toNat)
  case atStart => exact ⟨0, by omega, rfl, HST⟩
  case round =>
    obtain ⟨k, hk, rfl, HR⟩ := hrel
    by_cases hlt : k < N
    · have hkp : k < st.now.length := by rw [HN.out]; exact hlt
      obtain ⟨y2, hy⟩ := HR.out
      have hm := Ext.mem hy.bel HM.out
      obtain ⟨C, hC, _, cC⟩ := hm.rows.at k hkp
      have hs := hm.rows.src k hkp
      have hl1 := HM.out.ok.cells _ (List.getElem_mem hkp)
      have hz : (st.now.take k).length = k := by simp; omega
      have hzs : st.now.take (k + 1) = st.now.take k ++ [st.now[k]] := List.take_succ_eq_append_getElem hkp
      have b1 := cells_cell hy.bM 1
      simp only [List.getElem?_toArray, List.getElem?_cons_zero, List.getElem?_cons_succ, hz] at b1
      have HY := Hd.mk hy
      have HZ := Hd.mk hz
      obtain ⟨l, hl⟩ : ∃ l, st.now[k] = l := ⟨_, rfl⟩
      rw [hl] at cC hs hl1 hzs
      have HS := Hd.mk hs
      have HZS := Hd.mk hzs
      have lM : w.heap.size < wr.heap.size := World.block_lt_of_cell? wr _ b1
      have HC := Hd.mk (clone_app28 _ l wr.drew hs (by omega))
      have i0 : (0 : Int) ≤ (k : Int) := by omega
      have i1 : (k : Int) < (N : Int) := by omega
      rw [hC]
      clear hy hm hz hzs hs HR hl hC
      go_upto_region 7 with fail
      go_region_law (first
        | (refine step_append_run rfl _ _ _ rfl rfl rfl hr ?_)
        | (go_simp; go_at_call 35; refine HC.out.mono ?_; rintro e w5 ⟨v5, rfl, hO5, hB5'⟩; have hB5 : Below wr.heap.size wr w5 := (bl_drew (Below.refl _ _)).trans hB5'; obtain ⟨ra, c5, rfl⟩ := hO5.src.shape; obtain ⟨_, hrow, hcap⟩ := AppI.row hO5;
           obtain ⟨K5, cap5, W5, hr, cM, fM, hnew⟩ := NewR.row (X := w5.heap.size) (WX := w5.alloc (.cells #[.slice ra l.length c5] 28)) HY.out (by rw [HZ.out]; omega) (hB5.alloc hB5.size _) (heap_alloc_new _ _) (fun h0 => by obtain ⟨g, cur, q1, q2, q3, q4⟩ := hrow h0; exact ⟨g, cur, q1, q2, alloc_keep q3, q4⟩) hcap;
           rw [HZ.out] at hr cM hnew; rw [← HZS.out] at hnew; have HNEW := Hd.mk hnew; have b5 := (hB5.cell (p := ⟨w.heap.size, 1, none⟩) lM).trans b1; have lM5 := World.block_lt_of_cell? w5 _ b5; have b6 : (w5.alloc (.cells #[.slice ra l.length c5] 28)).cell? ⟨w.heap.size, 1, none⟩ = _ := (World.cell?_alloc_lt _ _ _ lM5).trans b5; clear hnew hrow hcap hO5 hB5 hB5'))
      all_goals (go_wp2_with fail)
      all_goals go_roundw
      all_goals first | exact ⟨k + 1, by omega, by go_num, HNEW⟩ | (simp [intOf]; omega)
    · obtain rfl : k = N := by omega
      obtain ⟨y2, hy⟩ := HR.out
      have hz : st.now.take k = st.now := List.take_of_length_le (by rw [HN.out]; exact Nat.le_refl _)
      rw [hz] at hy
      have HY2 : Hd (∃ y2, CopyR y2 w wr w.heap.size st 0) := ⟨⟨y2, hy.copy⟩⟩
      have c2 := (Ext.mem hy.bel HM.out).c2
      rw [HNM.out] at c2
      clear hy HR hz hlt
      go_wp2_with fail
      go_loopw [39] (fun i W => ∃ j : Nat, j ≤ nm ∧ i = .int .i64 j ∧ Hd (∃ y2, CopyR y2 w W w.heap.size st j)) (fun i _ => nm - (intOf i).toNat)
      case atStart => exact ⟨0, by omega, rfl, HY2⟩
      case round =>
        obtain ⟨j, hj, rfl, HR⟩ := hrel
        by_cases hlt : j < nm
        · have hjm : j < st.marks.length := by rw [HNM.out]; exact hlt
          obtain ⟨y2, hy⟩ := HR.out
          have hm := Ext.mem hy.bel HM.out
          obtain ⟨C, hC, _, cC⟩ := hm.marks.at j hjm
          obtain ⟨_, L, hL, hd⟩ := hm.marks.maps j hjm
          have b2 := cells_cell hy.bM 2
          simp only [List.getElem?_toArray, List.getElem?_cons_zero, List.getElem?_cons_succ] at b2
          have lM : w.heap.size < wr.heap.size := World.block_lt_of_cell? wr _ b2
          have HY := Hd.mk hy
          have HL := Hd.mk hL
          have HD := Hd.mk hd
          obtain ⟨es, clk, hb, _⟩ := id hL
          have hbw := lt_of_heap hb
          have hbB : ((wr.alloc (.cells #[.map (some (y.mb j))] 78)).drew).heap[y.mb j]? = some (.map es clk) := (heap_alloc_old _ _ hbw).trans hb
          have HES := Hd.mk hb
          have HCM : Hd (Calls Try.prog 44 #[.map (some (y.mb j))] (wr.alloc (.cells #[.map (some (y.mb j))] 78)).drew fun e w' => e = .returned (.map (some (wr.heap.size + 1))) ∧ Below wr.heap.size wr w' ∧ w'.heap[wr.heap.size + 1]? = some (.map es clk) ∧ w'.heap.size = wr.heap.size + 2) := ⟨(clone_map hbB).mono fun e w' ⟨h1, h2⟩ => by
            have hs : (wr.alloc (.cells #[.map (some (y.mb j))] 78)).drew.heap.size = wr.heap.size + 1 := by show (World.alloc _ _).heap.size = _; simp
            rw [hs] at h1
            refine ⟨h1, ?_, ?_, ?_⟩
            · rw [h2]
              exact ((((Below.refl wr.heap.size wr).alloc (Nat.le_refl _) _).drew)).alloc (by rw [hs]; omega) _
            · rw [h2, ← hs]; exact heap_alloc_new _ _
            · rw [h2, World.size_alloc, hs]⟩
          have hx := heap_alloc_new wr (.cells #[.map (some (y.mb j))] 78)
          have x0 := cells_cell hx 0
          simp only [List.getElem?_toArray, List.getElem?_cons_zero] at x0
          have i0 : (0 : Int) ≤ (j : Int) := by omega
          have i1 : (j : Int) < (nm : Int) := by omega
          rw [hC]
          clear hy hm hL hd HR hb hbB hx hbw hC
          have HBJ : Hd (wr.heap.size ≤ wr.heap.size + 1) := ⟨by omega⟩
          have hj63 : j ≤ 63 := by omega
          have HJ63 := Hd.mk hj63
          clear hj63
          go_upto_region 12 with fail
          go_region_law (first
            | (refine step_append_run rfl _ _ _ rfl rfl rfl hr ?_)
            | (go_simp; go_at_call 44; refine HCM.out.mono ?_; rintro e w5 ⟨rfl, hB5, hbk, hs5⟩;
               have hL5 : MapL Try.prog 73 ik iv (w5.alloc (.cells #[.map (some (wr.heap.size + 1))] 78)) (wr.heap.size + 1) L := by
                 obtain ⟨es', clk', q1, q2⟩ := HL.out
                 rw [HES.out] at q1
                 cases q1
                 exact ⟨es, clk, alloc_keep hbk, q2⟩
               obtain ⟨K5, cap5, W5, hr, cM, fM, hnew⟩ := CopyR.step (X := w5.heap.size) (B := wr.heap.size + 1) (WX := w5.alloc (.cells #[.map (some (wr.heap.size + 1))] 78)) HY.out HJ63.out (hB5.alloc hB5.size _) (by rw [cells_cell (heap_alloc_new _ _)]; rfl) HBJ.out hL5 HD.out;
               have HNEW := Hd.mk hnew; have b5 := (hB5.cell (p := ⟨w.heap.size, 2, none⟩) lM).trans b2; have lM5 := World.block_lt_of_cell? w5 _ b5;
               have b6 : (w5.alloc (.cells #[.map (some (wr.heap.size + 1))] 78)).cell? ⟨w.heap.size, 2, none⟩ = _ := (World.cell?_alloc_lt _ _ _ lM5).trans b5; clear hnew hL5 hB5 hbk hs5))
          all_goals (go_wp2_with fail)
          all_goals go_roundw
          all_goals first | exact ⟨j + 1, by omega, by go_num, HNEW⟩ | (simp [intOf]; omega)
        · obtain rfl : j = nm := by omega
          obtain ⟨y2, hy⟩ := HR.out
          have HYF := Hd.mk hy
          clear hy HR hlt
          go_wp2_with fail
          refine bodyPost_ret (results_tmp Try.results30 _ _ _) rfl ?_
          exact ⟨w.heap.size, rfl, ⟨y2, CopyR.mem HM.out.ok (by rw [HNM.out]; exact HYF.out)⟩, HYF.out.bel⟩
end Go.Proofs.Ytnhkadknibinfaa
