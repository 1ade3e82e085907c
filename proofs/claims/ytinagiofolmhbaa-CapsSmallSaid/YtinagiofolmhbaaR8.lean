/- The reference: Place; is; a list written over. -/
import Derived.Test.YtinagiofolmhbaaR7
import Derived.Lib.MinMax
namespace Go.Proofs.Ytinagiofolmhbaa
open Go.RowKit
set_option linter.unusedVariables false
set_option linter.unusedSimpArgs false

theorem grown_cell (w : World) (b k : Nat) (v : Value) : w.grownBy (w.setCell ⟨b, k, none⟩ v) (some b) :=
  ⟨rfl, rfl, rfl, by simp [World.setCell], fun i _ h => Below.heap_setCell _ _ _ _ (fun e => h (by rw [e]))⟩
theorem rplc_at {st : St} {who : Int} (hw : badH who = false) {i : Nat} (hi : i < (ownH st who).length) : plcE st who i = (if (ownH st who)[i].2 then 230 else 0) ∧ plcV st who i = (if (ownH st who)[i].2 then hn0 else (ownH st who)[i].1) := by
  have h1 : plcE st who i = (if (ownH st who)[i].2 then 230 else 0) := by
    unfold plcE
    rw [if_neg (by rw [hw]; simp), if_neg (by omega)]
    simp [List.getElem?_eq_getElem hi]
  refine ⟨h1, ?_⟩
  unfold plcV
  rw [h1]
  cases hg : (ownH st who)[i].2 <;> simp [List.getElem?_eq_getElem hi]
theorem lmark_any (a b : Int) (w : World) (h0 : 0 ≤ a ∧ a ≤ 100) (h1 : 0 ≤ b ∧ b ≤ 100000000) : Calls Try.prog 90 #[.int .i64 a, .int .i64 b] w fun e w' => (∃ x, e = .returned (.int .i64 x)) ∧ w = w' := by
  go_enter Try.func90, Try.ntmps90
  go_wp2_with fail
  go_ret
  exact ⟨⟨_, rfl⟩, rfl⟩
/-- A row of one's own written over, its spare room too. -/
structure OvQ (w W : World) (g cap : Nat) : Prop where
  grown : w.grownBy W (some g)
  blk : ∃ cur : Array Value, W.heap[g]? = some (.cells cur 3 (0, 0)) ∧ cur.size = cap
theorem OvQ.put {w W : World} {g cap : Nat} (h : OvQ w W g cap) (k : Nat) (x : Value) : OvQ w (W.setCell ⟨g, k, none⟩ x) g cap := by
  obtain ⟨cur, h1, h2⟩ := h.blk
  have h3 := cells_set (o := k) h1 x
  refine ⟨grown_trans h.grown (grown_cell W g k x), _, h3, by simpa using h2⟩
theorem OvQ.cell {w W : World} {g cap : Nat} (h : OvQ w W g cap) (k : Nat) (hk : k < cap) : (∃ v, W.cell? ⟨g, k, none⟩ = some v) ∧ W.frozen? ⟨g, k, none⟩ = false := by
  obtain ⟨cur, h1, h2⟩ := h.blk
  refine ⟨⟨_, (cells_cell h1 k).trans (by rw [Array.getElem?_eq_getElem (by omega)])⟩, cells_free h1 k⟩

set_option maxRecDepth 100000 in
set_option maxHeartbeats 2000000 in
theorem overInts_any {w : World} {base : Nat} {v : Value} {l : List Int} (h : AppI w base v l) (hl : l.length ≤ 100000) :
    Calls Try.prog 71 #[v] w fun e w' => e = .returned (.tuple #[]) ∧ w.grownBy w' v.ownBlock := by
  rcases h.2 with ⟨rfl, h0⟩ | ⟨g, cap, cur, rfl, hg, hh, hn, hm, hs, ht⟩
  · clear h h0 hl
    go_enter Try.func71, Try.ntmps71
    go_wp2_with fail
    try rw [show (min 0 (0 + 12) : Int) = 0 from rfl]
    go_wp2_with fail
    go_loopw [3] (fun i W => i = .int .i64 0 ∧ W = w) (fun _ _ => 0)
    case atStart => exact ⟨rfl, rfl⟩
    case round =>
      obtain ⟨rfl, rfl⟩ := hrel
      go_wp2_with fail
      go_end0
      exact ⟨rfl, grown_refl _ _⟩
  · have HQ : Hd (OvQ w w g cap) := ⟨⟨grown_refl _ _, cur, hh, by simpa using hs⟩⟩
    obtain ⟨n, hnl⟩ : ∃ n, l.length = n := ⟨_, rfl⟩
    rw [hnl] at hn hl ⊢
    obtain ⟨m, hmm⟩ : ∃ m : Nat, min (cap : Int) ((n : Int) + 12) = (m : Int) := ⟨min cap (n + 12), by omega⟩
    have hmc : m ≤ cap := by omega
    have hmb : m ≤ 100012 := by omega
    have hcm : cap ≤ 9223372036854775807 := by simp only [maxLen] at hm; exact hm
    clear h hh hs ht hnl hm hg
    go_enter Try.func71, Try.ntmps71
    go_wp2_with fail
    try rw [hmm]
    clear hmm
    have HCM := Hd.mk hcm
    go_wp2_with fail
    go_loopw [3] (fun i W => ∃ k : Nat, k ≤ m ∧ i = .int .i64 k ∧ Hd (OvQ w W g cap)) (fun i _ => m - (intOf i).toNat)
    case atStart => exact ⟨0, by omega, rfl, HQ⟩
    case round =>
      obtain ⟨k, hk, rfl, HR⟩ := hrel
      by_cases hlt : k < m
      · obtain ⟨⟨xv, x0⟩, f0⟩ := HR.out.cell k (by omega)
        have HLT := Hd.mk hlt
        have HPUT := Hd.mk (fun x => HR.out.put k x)
        have k0 : (0 : Int) ≤ (k : Int) := by omega
        have k1 : (k : Int) < (m : Int) := by omega
        have k2 : (k : Int) + 1 ≤ 9223372036854775807 := by omega
        have HMK := Hd.mk (fun W => lmark_any 2 (k : Int) W (by omega) (by omega))
        clear hlt hk
        go_wp2_with fail
        refine (HMK.out _).mono ?_
        rintro e w1 ⟨⟨x, rfl⟩, rfl⟩
        go_wp2_with fail
        go_roundw
        case rel => exact ⟨k + 1, by have := HLT.out; omega, by go_num, ⟨HPUT.out _⟩⟩
        case measure => have := HLT.out; simp [intOf]; omega
      · obtain rfl : k = m := by omega
        go_wp2_with fail
        go_end0
        exact ⟨rfl, HR.out.grown⟩

set_option maxRecDepth 100000 in
set_option maxHeartbeats 1000000 in
theorem refis_any (x0 x1 x2 x3 : Int) (x4 : BitVec 8) (y0 y1 y2 y3 : Int) (y4 : BitVec 8) (g : Bool) (w : World) :
    Calls Try.prog 70 #[.agg #[.int .i64 x0, .int .i64 x1, .int .i64 x2, .int .i64 x3, h8 x4], .agg #[.int .i64 y0, .int .i64 y1, .int .i64 y2, .int .i64 y3, .int .i64 (n8 y4), .bool g]] w fun e w' => e = .returned (.bool (decide ((⟨x0, x1, x2, x3, x4⟩ : Hn) = ⟨y0, y1, y2, y3, y4⟩))) ∧ Below w.heap.size w w' := by
  obtain ⟨W0, hW0⟩ : ∃ W, ((w.alloc (.cells #[.int .i64 x0, .int .i64 x1, .int .i64 x2, .int .i64 x3, h8 x4] 34)).alloc (.cells #[.int .i64 y0, .int .i64 y1, .int .i64 y2, .int .i64 y3, .int .i64 (n8 y4), .bool g] 104)) = W := ⟨_, rfl⟩
  have hs1 : (w.alloc (.cells #[.int .i64 x0, .int .i64 x1, .int .i64 x2, .int .i64 x3, h8 x4] 34)).heap.size = w.heap.size + 1 := by simp
  have HB0 : Hd (Below w.heap.size w W0) := ⟨by rw [← hW0]; exact ((Below.refl _ _).alloc (Nat.le_refl _) _).alloc (by rw [hs1]; omega) _⟩
  have hx0 : W0.heap[w.heap.size]? = some (.cells #[.int .i64 x0, .int .i64 x1, .int .i64 x2, .int .i64 x3, h8 x4] 34 (0, 0)) := by rw [← hW0]; exact (Below.heap_alloc _ _ _ (lt_heap (heap_alloc_new w _))).trans (heap_alloc_new w _)
  have hy0 : W0.heap[w.heap.size + 1]? = some (.cells #[.int .i64 y0, .int .i64 y1, .int .i64 y2, .int .i64 y3, .int .i64 (n8 y4), .bool g] 104 (0, 0)) := by rw [← hW0, ← hs1]; exact heap_alloc_new _ _
  have HW0 := Hd.mk hW0
  have hcv : IntKind.u8.wrap (n8 y4) = (y4.toNat : Int) := by rw [h8_wrap]; unfold n8; rw [h8_ofInt]
  have p0 := (cells_cell hx0 0).trans (show _ = some (Value.int .i64 x0) from rfl)
  have p1 := (cells_cell hx0 1).trans (show _ = some (Value.int .i64 x1) from rfl)
  have p2 := (cells_cell hx0 2).trans (show _ = some (Value.int .i64 x2) from rfl)
  have p3 := (cells_cell hx0 3).trans (show _ = some (Value.int .i64 x3) from rfl)
  have p4 := (cells_cell hx0 4).trans (show _ = some (h8 x4) from rfl)
  have q0 := (cells_cell hy0 0).trans (show _ = some (Value.int .i64 y0) from rfl)
  have q1 := (cells_cell hy0 1).trans (show _ = some (Value.int .i64 y1) from rfl)
  have q2 := (cells_cell hy0 2).trans (show _ = some (Value.int .i64 y2) from rfl)
  have q3 := (cells_cell hy0 3).trans (show _ = some (Value.int .i64 y3) from rfl)
  have q4 := (cells_cell hy0 4).trans (show _ = some (Value.int .i64 (n8 y4)) from rfl)
  have q5 := (cells_cell hy0 5).trans (show _ = some (Value.bool g) from rfl)
  have heq : ∀ W, (binOp .eql 34 (.agg #[.int .i64 x0, .int .i64 x1, .int .i64 x2, .int .i64 x3, h8 x4]) (.agg #[.int .i64 y0, .int .i64 y1, .int .i64 y2, .int .i64 y3, .int .u8 (y4.toNat : Int)])).run Try.prog W = .ok (.bool (decide ((⟨x0, x1, x2, x3, x4⟩ : Hn) = ⟨y0, y1, y2, y3, y4⟩))) W := fun W => eqv_h34 ⟨x0, x1, x2, x3, x4⟩ ⟨y0, y1, y2, y3, y4⟩ W
  have hgd := guard34
  generalize decide ((⟨x0, x1, x2, x3, x4⟩ : Hn) = ⟨y0, y1, y2, y3, y4⟩) = b at heq ⊢
  clear hW0 hs1 hx0 hy0
  go_enter Try.func70, Try.ntmps70
  go_upto_region 1 with fail
  rw [HW0.out]
  go_wp2_with fail
  refine bodyPost_ret (results_tmp Try.results70 _ _ _) rfl ?_
  exact ⟨rfl, HB0.out⟩

set_option maxRecDepth 100000 in
set_option maxHeartbeats 2000000 in
theorem refplace_any {st : St} {v : Value} {w : World} (h : RefT w v st) {nx : Int} (hnx : st.next = nx) (who i : Int) (hi : -9223372036854775808 ≤ i ∧ i ≤ 9223372036854775807) :
    Calls Try.prog 73 #[.agg #[.int .i64 nx, v], .int .i64 who, .int .i64 i] w fun e w' => e = .returned (.tuple #[.agg (rC (plcV st who i)), .int .i64 (plcE st who i)]) ∧ Below w.heap.size w w' := by
  have HI := Hd.mk hi
  clear hi
  obtain ⟨a, c, rfl⟩ := h.rows.shape
  have HL := Hd.mk h
  obtain ⟨n, hn⟩ : ∃ n, st.made.length = n := ⟨_, rfl⟩
  have HN := Hd.mk hn
  have HNX := Hd.mk hnx
  have HN2 : Hd (n ≤ 1000) := ⟨by rw [← hn]; exact h.few⟩
  rw [hn]
  clear h hnx hn
  obtain ⟨W0, hW0⟩ : ∃ W, ((w.alloc (.cells #[.int .i64 nx, .slice a n c] 88)).alloc (.cells #[.int .i64 0, .int .i64 0, .int .i64 0, .int .i64 0, .int .i64 0, .bool false] 104)) = W := ⟨_, rfl⟩
  have hs1 : (w.alloc (.cells #[.int .i64 nx, .slice a n c] 88)).heap.size = w.heap.size + 1 := by simp
  have hB0 : Below w.heap.size w W0 := by rw [← hW0]; exact ((Below.refl _ _).alloc (Nat.le_refl _) _).alloc (by rw [hs1]; omega) _
  have hx0 : W0.heap[w.heap.size]? = some (.cells #[.int .i64 nx, .slice a n c] 88 (0, 0)) := by rw [← hW0]; exact (Below.heap_alloc _ _ _ (lt_heap (heap_alloc_new w _))).trans (heap_alloc_new w _)
  have hr0 : W0.heap[w.heap.size + 1]? = some (.cells #[.int .i64 0, .int .i64 0, .int .i64 0, .int .i64 0, .int .i64 0, .bool false] 104 (0, 0)) := by rw [← hW0, ← hs1]; exact heap_alloc_new _ _
  have HB0 := Hd.mk hB0
  have HLT0 : Hd (w.heap.size + 2 ≤ W0.heap.size) := ⟨by have := lt_heap hr0; omega⟩
  have HX0 := Hd.mk hx0
  have HR0 := Hd.mk hr0
  have HW0 := Hd.mk hW0
  clear hW0 hs1 hB0 hx0 hr0
  go_enter Try.func73, Try.ntmps73
  go_upto_region 1 with fail
  rw [HW0.out]
  clear HW0
  by_cases hbad : who < 0 ∨ 16 < who
  · have hE : plcE st who i = 2 := by unfold plcE badH; rw [if_pos (by simp only [decide_eq_true_eq]; exact hbad)]
    have HV : Hd (plcV st who i = hn0) := ⟨by unfold plcV; rw [hE]; rfl⟩
    have HE := Hd.mk hE
    clear hE
    by_cases hlo : who < 0
    · have d1 : decide (who < 0) = true := by simp; omega
      clear hbad hlo
      have hr := HR0.out
      have q0 := cells_cell hr 0
      have f0 := cells_free hr 0
      have q1 := cells_cell hr 1
      have f1 := cells_free hr 1
      have q2 := cells_cell hr 2
      have f2 := cells_free hr 2
      have q3 := cells_cell hr 3
      have f3 := cells_free hr 3
      have q4 := cells_cell hr 4
      have f4 := cells_free hr 4
      have q5 := cells_cell hr 5
      have f5 := cells_free hr 5
      simp only [List.getElem?_toArray, List.getElem?_cons_zero, List.getElem?_cons_succ] at q0 q1 q2 q3 q4 q5
      clear hr
      go_wp2_with fail
      refine bodyPost_ret (results_cell_row2 Try.results73 _ _ (w.heap.size + 1) 104 #[.int .i64 0, .int .i64 0, .int .i64 0, .int .i64 0, .int .i64 0, .bool false] (0, 0) _ rfl (set6 HR0.out _ _ _ _ _ _) Try.underlying104 rfl size104) rfl ?_
      exact ⟨by rw [HE.out, HV.out]; rfl, below6 HB0.out (by omega) _ _ _ _ _ _⟩
    · have d1 : decide (who < 0) = false := by simp; omega
      have d2 : decide (16 < who) = true := by simp; omega
      clear hbad hlo
      have hr := HR0.out
      have q0 := cells_cell hr 0
      have f0 := cells_free hr 0
      have q1 := cells_cell hr 1
      have f1 := cells_free hr 1
      have q2 := cells_cell hr 2
      have f2 := cells_free hr 2
      have q3 := cells_cell hr 3
      have f3 := cells_free hr 3
      have q4 := cells_cell hr 4
      have f4 := cells_free hr 4
      have q5 := cells_cell hr 5
      have f5 := cells_free hr 5
      simp only [List.getElem?_toArray, List.getElem?_cons_zero, List.getElem?_cons_succ] at q0 q1 q2 q3 q4 q5
      clear hr
      go_wp2_with fail
      refine bodyPost_ret (results_cell_row2 Try.results73 _ _ (w.heap.size + 1) 104 #[.int .i64 0, .int .i64 0, .int .i64 0, .int .i64 0, .int .i64 0, .bool false] (0, 0) _ rfl (set6 HR0.out _ _ _ _ _ _) Try.underlying104 rfl size104) rfl ?_
      exact ⟨by rw [HE.out, HV.out]; rfl, below6 HB0.out (by omega) _ _ _ _ _ _⟩
  · have HBH : Hd (badH who = false) := ⟨by unfold badH; simp only [decide_eq_false_iff_not]; exact hbad⟩
    have d1 : decide (who < 0) = false := by simp; omega
    have d2 : decide (16 < who) = false := by simp; omega
    have HC_ := Hd.mk (places_ref (nx := nx) who (HL.out.rows.below HB0.out) (Nat.le_trans HL.out.few (by omega)))
    rw [HN.out] at HC_
    clear hbad
    have t0 := (cells_cell HX0.out 0).trans (show _ = some (.int .i64 nx) from rfl)
    have t1 := (cells_cell HX0.out 1).trans (show _ = some (.slice a n c) from rfl)
    go_wp2_with fail
    refine HC_.out.mono ?_
    rintro e w1 ⟨lv, rfl, hO, hB⟩
    have hO : OwnN rL w1 W0.heap.size 104 lv (ownH st who) := hO
    obtain ⟨a1, c1, rfl⟩ := hO.shape
    have HX1 := Hd.mk ((hB.block w.heap.size (lt_heap HX0.out)).trans HX0.out)
    have HR1 := Hd.mk ((hB.block (w.heap.size + 1) (lt_heap HR0.out)).trans HR0.out)
    have HB1 := Hd.mk (HB0.out.trans (hB.mono HB0.out.size))
    clear HX0 HR0
    have HO := Hd.mk hO
    obtain ⟨np, hnp⟩ : ∃ n, (ownH st who).length = n := ⟨_, rfl⟩
    have HNP := Hd.mk hnp
    have HNP2 : Hd (np ≤ 1000) := ⟨by rw [← hnp]; exact Nat.le_trans (List.length_filter_le _ _) HL.out.few⟩
    rw [hnp]
    clear hB hO hnp HC_ t0 t1 d1 d2
    by_cases hrange : i < 0 ∨ (np : Int) ≤ i
    · have hE : plcE st who i = 6 := by unfold plcE; rw [if_neg (by rw [HBH.out]; simp), if_pos (by rw [HNP.out]; exact hrange)]
      have HV : Hd (plcV st who i = hn0) := ⟨by unfold plcV; rw [hE]; rfl⟩
      have HE := Hd.mk hE
      clear hE
      by_cases hlo : i < 0
      · have d1 : decide (i < 0) = true := by simp; omega
        clear hrange hlo
        have hr := HR1.out
        have q0 := cells_cell hr 0
        have f0 := cells_free hr 0
        have q1 := cells_cell hr 1
        have f1 := cells_free hr 1
        have q2 := cells_cell hr 2
        have f2 := cells_free hr 2
        have q3 := cells_cell hr 3
        have f3 := cells_free hr 3
        have q4 := cells_cell hr 4
        have f4 := cells_free hr 4
        have q5 := cells_cell hr 5
        have f5 := cells_free hr 5
        simp only [List.getElem?_toArray, List.getElem?_cons_zero, List.getElem?_cons_succ] at q0 q1 q2 q3 q4 q5
        clear hr
        go_wp2_with fail
        refine bodyPost_ret (results_cell_row2 Try.results73 _ _ (w.heap.size + 1) 104 #[.int .i64 0, .int .i64 0, .int .i64 0, .int .i64 0, .int .i64 0, .bool false] (0, 0) _ rfl (set6 HR1.out _ _ _ _ _ _) Try.underlying104 rfl size104) rfl ?_
        exact ⟨by rw [HE.out, HV.out]; rfl, below6 HB1.out (by omega) _ _ _ _ _ _⟩
      · have d1 : decide (i < 0) = false := by simp; omega
        have d2 : decide ((np : Int) ≤ i) = true := by simp; omega
        clear hrange hlo
        have hr := HR1.out
        have q0 := cells_cell hr 0
        have f0 := cells_free hr 0
        have q1 := cells_cell hr 1
        have f1 := cells_free hr 1
        have q2 := cells_cell hr 2
        have f2 := cells_free hr 2
        have q3 := cells_cell hr 3
        have f3 := cells_free hr 3
        have q4 := cells_cell hr 4
        have f4 := cells_free hr 4
        have q5 := cells_cell hr 5
        have f5 := cells_free hr 5
        simp only [List.getElem?_toArray, List.getElem?_cons_zero, List.getElem?_cons_succ] at q0 q1 q2 q3 q4 q5
        clear hr
        go_wp2_with fail
        refine bodyPost_ret (results_cell_row2 Try.results73 _ _ (w.heap.size + 1) 104 #[.int .i64 0, .int .i64 0, .int .i64 0, .int .i64 0, .int .i64 0, .bool false] (0, 0) _ rfl (set6 HR1.out _ _ _ _ _ _) Try.underlying104 rfl size104) rfl ?_
        exact ⟨by rw [HE.out, HV.out]; rfl, below6 HB1.out (by omega) _ _ _ _ _ _⟩
    · obtain ⟨k, rfl⟩ : ∃ k : Nat, i = (k : Int) := ⟨i.toNat, by omega⟩
      have hkn : k < np := by omega
      have hko : k < (ownH st who).length := by rw [HNP.out]; exact hkn
      obtain ⟨hE, hV⟩ := rplc_at HBH.out hko
      obtain ⟨b, off, hbe, _, hc⟩ := HO.out.src.at k hko
      cases hbe
      obtain ⟨⟨⟨x0, x1, x2, x3, x4⟩, x5⟩, hx⟩ : ∃ x, (ownH st who)[k] = x := ⟨_, rfl⟩
      rw [hx] at hc hE hV
      simp only at hE hV
      have HE := Hd.mk hE
      have HV := Hd.mk hV
      have v0 : w1.cell? ⟨b, off + k * 6, none⟩ = some (.int .i64 x0) := hc 0 _ rfl
      have v1 : w1.cell? ⟨b, off + k * 6 + 1, none⟩ = some (.int .i64 x1) := hc 1 _ rfl
      have v2 : w1.cell? ⟨b, off + k * 6 + 2, none⟩ = some (.int .i64 x2) := hc 2 _ rfl
      have v3 : w1.cell? ⟨b, off + k * 6 + 3, none⟩ = some (.int .i64 x3) := hc 3 _ rfl
      have v4 : w1.cell? ⟨b, off + k * 6 + 4, none⟩ = some (.int .i64 (n8 x4)) := hc 4 _ rfl
      have v5 : w1.cell? ⟨b, off + k * 6 + 5, none⟩ = some (.bool x5) := hc 5 _ rfl
      have d1 : decide ((k : Int) < 0) = false := by simp
      have d2 : decide ((np : Int) ≤ (k : Int)) = false := by simp; omega
      have k0 : (0 : Int) ≤ (k : Int) := by omega
      have k1 : (k : Int) < (np : Int) := by omega
      clear hrange hkn hko hE hV hc hx
      cases x5 with
      | true =>
        have hr := HR1.out
        have q0 := cells_cell hr 0
        have f0 := cells_free hr 0
        have q1 := cells_cell hr 1
        have f1 := cells_free hr 1
        have q2 := cells_cell hr 2
        have f2 := cells_free hr 2
        have q3 := cells_cell hr 3
        have f3 := cells_free hr 3
        have q4 := cells_cell hr 4
        have f4 := cells_free hr 4
        have q5 := cells_cell hr 5
        have f5 := cells_free hr 5
        simp only [List.getElem?_toArray, List.getElem?_cons_zero, List.getElem?_cons_succ] at q0 q1 q2 q3 q4 q5
        clear hr
        go_wp2_with fail
        refine bodyPost_ret (results_cell_row2 Try.results73 _ _ (w.heap.size + 1) 104 #[.int .i64 0, .int .i64 0, .int .i64 0, .int .i64 0, .int .i64 0, .bool false] (0, 0) _ rfl (set6 HR1.out _ _ _ _ _ _) Try.underlying104 rfl size104) rfl ?_
        exact ⟨by rw [HE.out, HV.out]; rfl, below6 HB1.out (by omega) _ _ _ _ _ _⟩
      | false =>
        have hr := HR1.out
        have q0 := cells_cell hr 0
        have f0 := cells_free hr 0
        have q1 := cells_cell hr 1
        have f1 := cells_free hr 1
        have q2 := cells_cell hr 2
        have f2 := cells_free hr 2
        have q3 := cells_cell hr 3
        have f3 := cells_free hr 3
        have q4 := cells_cell hr 4
        have f4 := cells_free hr 4
        have q5 := cells_cell hr 5
        have f5 := cells_free hr 5
        simp only [List.getElem?_toArray, List.getElem?_cons_zero, List.getElem?_cons_succ] at q0 q1 q2 q3 q4 q5
        clear hr
        go_wp2_with fail
        refine bodyPost_ret (results_cell_row2 Try.results73 _ _ (w.heap.size + 1) 104 #[.int .i64 x0, .int .i64 x1, .int .i64 x2, .int .i64 x3, .int .i64 (n8 x4), .bool false] (0, 0) _ rfl (set6 HR1.out _ _ _ _ _ _) Try.underlying104 rfl size104) rfl ?_
        exact ⟨by rw [HE.out, HV.out]; rfl, below6 HB1.out (by omega) _ _ _ _ _ _⟩
theorem refplace_at {st : St} {v : Value} {w : World} (h : RefT w v st) {nx who i a b c d e : Int} {r : BitVec 8} (hnx : st.next = nx) (hi : -9223372036854775808 ≤ i ∧ i ≤ 9223372036854775807) (hv : plcV st who i = ⟨a, b, c, d, r⟩) (he : plcE st who i = e) :
    Calls Try.prog 73 #[.agg #[.int .i64 nx, v], .int .i64 who, .int .i64 i] w fun e' w' => e' = .returned (.tuple #[.agg #[.int .i64 a, .int .i64 b, .int .i64 c, .int .i64 d, .int .i64 (n8 r), .bool false], .int .i64 e]) ∧ Below w.heap.size w w' := by
  have := refplace_any h hnx who i hi
  rw [hv, he] at this
  exact this

end Go.Proofs.Ytinagiofolmhbaa
