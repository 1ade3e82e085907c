/- The reference: Revoke, Close. -/
import Derived.Test.YtinagiofolmhbaaR4
namespace Go.Proofs.Ytinagiofolmhbaa
open Go.RowKit
set_option linter.unusedVariables false
set_option linter.unusedSimpArgs false


set_option maxRecDepth 100000 in
set_option maxHeartbeats 1000000 in
theorem refrevoke_any {st : St} {v : Value} {w : World} (h : RefT w v st) {nx : Int} (hnx : st.next = nx) (s : Int) :
    Calls Try.prog 52 #[.agg #[.int .i64 nx, v], .int .i64 s] w fun e w' => ∃ v' lv, e = .returned (.tuple #[.agg #[.int .i64 nx, v'], lv, .int .i64 (getE st s)]) ∧ RefK w.heap.size w' v' (revokeS st s) ∧ AppI w' w.heap.size lv (belowS st s) ∧ Below w.heap.size w w' := by
  obtain ⟨a, c, rfl⟩ := h.rows.shape
  have HL := Hd.mk h
  obtain ⟨n, hn⟩ : ∃ n, st.made.length = n := ⟨_, rfl⟩
  have HN := Hd.mk hn
  have HNX := Hd.mk hnx
  have HN2 : Hd (n ≤ 1000) := ⟨by rw [← hn]; exact h.few⟩
  rw [hn]
  clear h hnx hn
  obtain ⟨W0, hW0⟩ : ∃ W, ((w.alloc (.cells #[.int .i64 nx, .slice a n c] 88)).alloc (.cells #[.int .i64 0, .slice none 0 0] 88)) = W := ⟨_, rfl⟩
  have hs1 : (w.alloc (.cells #[.int .i64 nx, .slice a n c] 88)).heap.size = w.heap.size + 1 := by simp
  have hB0 : Below w.heap.size w W0 := by rw [← hW0]; exact ((Below.refl _ _).alloc (Nat.le_refl _) _).alloc (by rw [hs1]; omega) _
  have hx0 : W0.heap[w.heap.size]? = some (.cells #[.int .i64 nx, .slice a n c] 88 (0, 0)) := by rw [← hW0]; exact (Below.heap_alloc _ _ _ (lt_heap (heap_alloc_new w _))).trans (heap_alloc_new w _)
  have hr0 : W0.heap[w.heap.size + 1]? = some (.cells #[.int .i64 0, .slice none 0 0] 88 (0, 0)) := by rw [← hW0, ← hs1]; exact heap_alloc_new _ _
  have HB0 := Hd.mk hB0
  have HLT0 : Hd (w.heap.size + 2 ≤ W0.heap.size) := ⟨by have := lt_heap hr0; omega⟩
  have HX0 := Hd.mk hx0
  have HR0 := Hd.mk hr0
  have HW0 := Hd.mk hW0
  clear hW0 hs1 hB0 hx0 hr0
  obtain ⟨ge, hge⟩ : ∃ e, getE st s = e := ⟨_, rfl⟩
  have HC_ := Hd.mk (refbel_any (HL.out.below HB0.out) HNX.out s)
  rw [HN.out, hge] at HC_
  rw [hge]
  clear hge
  go_enter Try.func52, Try.ntmps52
  go_upto_region 1 with fail
  rw [HW0.out]
  clear HW0
  have t0 := (cells_cell HX0.out 0).trans (show _ = some (.int .i64 nx) from rfl)
  have t1 := (cells_cell HX0.out 1).trans (show _ = some (.slice a n c) from rfl)
  go_wp2_with fail
  refine HC_.out.mono ?_
  rintro e w1 ⟨lv, rfl, hl, hB⟩
  have hlw : W0.heap.size ≤ w1.heap.size := hB.size
  have HLW := Hd.mk hlw
  have HX1 := Hd.mk ((hB.block w.heap.size (lt_heap HX0.out)).trans HX0.out)
  have HR1 := Hd.mk ((hB.block (w.heap.size + 1) (lt_heap HR0.out)).trans HR0.out)
  have HB1 := Hd.mk (HB0.out.trans (hB.mono HB0.out.size))
  clear HX0 HR0
  have HLI := Hd.mk hl
  obtain ⟨la, lc, rfl⟩ := hl.src.shape
  have HC2 := Hd.mk (reftake_any (HL.out.below HB1.out) HNX.out hl.src)
  rw [HN.out] at HC2
  obtain ⟨ln, hln⟩ : ∃ n, (belowS st s).length = n := ⟨_, rfl⟩
  rw [hln] at HC2 HLI ⊢
  clear hB hl HC_ t0 t1 hln hlw
  have t0 := (cells_cell HX1.out 0).trans (show _ = some (.int .i64 nx) from rfl)
  have t1 := (cells_cell HX1.out 1).trans (show _ = some (.slice a n c) from rfl)
  go_wp2_with fail
  refine HC2.out.mono ?_
  rintro e w2 ⟨v2, rfl, hk, hB⟩
  have HX2 := Hd.mk ((hB.block w.heap.size (lt_heap HX1.out)).trans HX1.out)
  have HR2 := Hd.mk ((hB.block (w.heap.size + 1) (lt_heap HR1.out)).trans HR1.out)
  have HB2 := Hd.mk (HB1.out.trans (hB.mono HB1.out.size))
  clear HX1 HR1
  have HLI2 := Hd.mk (OwnE.below HLI.out hB)
  have HK := Hd.mk hk
  have HSZ : Hd (w.heap.size + 2 ≤ W0.heap.size ∧ W0.heap.size ≤ w1.heap.size ∧ w1.heap.size ≤ w2.heap.size) := ⟨HLT0.out, HLW.out, hB.size⟩
  obtain ⟨a2, c2, rfl⟩ := hk.now.rows.shape
  clear hB hk HC2 t0 t1 HLI
  have hr2 := HR2.out
  have q0 := cells_cell hr2 0
  have f0 := cells_free hr2 0
  have q1 := cells_cell hr2 1
  have f1 := cells_free hr2 1
  simp only [List.getElem?_toArray, List.getElem?_cons_zero, List.getElem?_cons_succ] at q0 q1
  clear hr2
  have HK : Hd (RefK w1.heap.size w2 (.slice a2 (revokeS st s).made.length c2) (revokeS st s)) := ⟨HK.out⟩
  obtain ⟨m, hm⟩ : ∃ m, (revokeS st s).made.length = m := ⟨_, rfl⟩
  rw [hm] at HK
  rw [show (takeS st (belowS st s)).made.length = m from hm]
  clear hm
  go_wp2_with fail
  refine bodyPost_ret (results_cell_row3 Try.results52 _ _ (w.heap.size + 1) 88 #[.int .i64 nx, .slice a2 m c2] (0, 0) _ rfl (set2 HR2.out _ _) Try.underlying88 rfl size88) rfl ?_
  refine ⟨_, _, rfl, ?_, ?_, below2 HB2.out (by omega) _ _⟩
  · have hz := HSZ.out
    refine RefK.lift HK.out ?_ ?_ (fun k hk _ => ?_)
    · omega
    · simp [World.setCell]
    exact other2 (by omega) _ _
  · have hz := HSZ.out
    refine OwnE.lower (base := W0.heap.size) (OwnE.same HLI2.out fun g cur fr hg hv => ?_) (by omega)
    have hg2 := World.ownsRow.lt HLI2.out g hv
    exact other2 (by omega) _ _

def closK (l : List Hn) (p : Int) (k : Nat) : List Int := ((l.take k).filter (fun h => decide (h.port = p))).map (·.ser)
theorem closK_succ {l : List Hn} {p : Int} {k : Nat} (hk : k < l.length) : closK l p (k + 1) = if l[k].port = p then closK l p k ++ [l[k].ser] else closK l p k := by
  unfold closK
  rw [List.take_succ_eq_append_getElem hk, List.filter_append, List.map_append]
  split <;> rename_i h <;> simp [h]
theorem closK_all (st : St) (p : Int) : closK (liveS st) p (liveS st).length = closeL st p := by unfold closK closeL; rw [List.take_length]
theorem closK_len (l : List Hn) (p : Int) (k : Nat) : (closK l p k).length ≤ l.length := by
  unfold closK; rw [List.length_map]
  exact Nat.le_trans (List.length_filter_le _ _) (by rw [List.length_take]; omega)
set_option maxRecDepth 100000 in
set_option maxHeartbeats 2000000 in
theorem refclose_any {st : St} {v : Value} {w : World} (h : RefT w v st) {nx : Int} (hnx : st.next = nx) (p : Int) :
    Calls Try.prog 53 #[.agg #[.int .i64 nx, v], .int .i64 p] w fun e w' => ∃ v' lv, e = .returned (.tuple #[.agg #[.int .i64 nx, v'], lv]) ∧ RefK w.heap.size w' v' (closeS st p) ∧ AppI w' w.heap.size lv (closeL st p) ∧ Below w.heap.size w w' := by
  obtain ⟨a, c, rfl⟩ := h.rows.shape
  have HL := Hd.mk h
  obtain ⟨n, hn⟩ : ∃ n, st.made.length = n := ⟨_, rfl⟩
  have HN := Hd.mk hn
  have HNX := Hd.mk hnx
  have HN2 : Hd (n ≤ 1000) := ⟨by rw [← hn]; exact h.few⟩
  rw [hn]
  clear h hnx hn
  obtain ⟨W0, hW0⟩ : ∃ W, ((w.alloc (.cells #[.int .i64 nx, .slice a n c] 88)).alloc (.cells #[.int .i64 0, .slice none 0 0] 88)) = W := ⟨_, rfl⟩
  have hs1 : (w.alloc (.cells #[.int .i64 nx, .slice a n c] 88)).heap.size = w.heap.size + 1 := by simp
  have hB0 : Below w.heap.size w W0 := by rw [← hW0]; exact ((Below.refl _ _).alloc (Nat.le_refl _) _).alloc (by rw [hs1]; omega) _
  have hx0 : W0.heap[w.heap.size]? = some (.cells #[.int .i64 nx, .slice a n c] 88 (0, 0)) := by rw [← hW0]; exact (Below.heap_alloc _ _ _ (lt_heap (heap_alloc_new w _))).trans (heap_alloc_new w _)
  have hr0 : W0.heap[w.heap.size + 1]? = some (.cells #[.int .i64 0, .slice none 0 0] 88 (0, 0)) := by rw [← hW0, ← hs1]; exact heap_alloc_new _ _
  have HB0 := Hd.mk hB0
  have HLT0 : Hd (w.heap.size + 2 ≤ W0.heap.size) := ⟨by have := lt_heap hr0; omega⟩
  have HX0 := Hd.mk hx0
  have HR0 := Hd.mk hr0
  have HW0 := Hd.mk hW0
  clear hW0 hs1 hB0 hx0 hr0
  have HC_ := Hd.mk (live_ref (nx := nx) (HL.out.rows.below HB0.out) (Nat.le_trans HL.out.few (by omega)))
  rw [HN.out] at HC_
  go_enter Try.func53, Try.ntmps53
  go_upto_region 1 with fail
  rw [HW0.out]
  clear HW0
  have t0 := (cells_cell HX0.out 0).trans (show _ = some (.int .i64 nx) from rfl)
  have t1 := (cells_cell HX0.out 1).trans (show _ = some (.slice a n c) from rfl)
  go_wp2_with fail
  refine HC_.out.mono ?_
  rintro e w1 ⟨lv, rfl, hO, hB⟩
  have hO : OwnN rL w1 W0.heap.size 104 lv (liveP st) := hO
  obtain ⟨a1, c1, rfl⟩ := hO.shape
  have HLW := Hd.mk hB.size
  have HX1 := Hd.mk ((hB.block w.heap.size (lt_heap HX0.out)).trans HX0.out)
  have HR1 := Hd.mk ((hB.block (w.heap.size + 1) (lt_heap HR0.out)).trans HR0.out)
  have HB1 := Hd.mk (HB0.out.trans (hB.mono HB0.out.size))
  clear HX0 HR0
  have HO := Hd.mk hO
  obtain ⟨nl, hnl⟩ : ∃ n, (liveP st).length = n := ⟨_, rfl⟩
  have HNL := Hd.mk hnl
  have HNS : Hd ((liveS st).length = nl) := ⟨by rw [← liveP_len, hnl]⟩
  have HNL2 : Hd (nl ≤ 1000) := ⟨by rw [← hnl]; exact Nat.le_trans (List.length_filter_le _ _) HL.out.few⟩
  rw [hnl]
  clear hB hO hnl HC_ t0 t1
  go_wp2_with fail
  have H0 : Hd (AppI w1 w1.heap.size (.slice none 0 0) (closK (liveS st) p 0)) := ⟨OwnE.nil _ _ _ _⟩
  go_loopw [6, 8] (fun v i W => ∃ k : Nat, k ≤ nl ∧ i = .int .i64 k ∧ Hd (AppI W w1.heap.size v (closK (liveS st) p k)) ∧ Hd (Below w1.heap.size w1 W)) (fun _ i _ => nl - (intOf i).toNat)
  case atStart => exact ⟨0, by omega, rfl, H0, ⟨Below.refl _ _⟩⟩
  case round =>
    obtain ⟨k, hk, rfl, HV, HB⟩ := hrel
    obtain ⟨av, cv, rfl⟩ := HV.out.src.shape
    by_cases hlt : k < nl
    · have hkp : k < (liveP st).length := by rw [HNL.out]; exact hlt
      have hkl : k < (liveS st).length := by rw [← liveP_len]; exact hkp
      obtain ⟨b, off, hbe, _, hc⟩ := (HO.out.src.below HB.out).at k hkp
      cases hbe
      rw [liveP_at hkp hkl] at hc
      have hsuc := closK_succ (p := p) hkl
      have hln := closK_len (liveS st) p k
      obtain ⟨⟨x0, x1, x2, x3, x4⟩, hx⟩ : ∃ x, (liveS st)[k] = x := ⟨_, rfl⟩
      rw [hx] at hc hsuc
      simp only at hsuc
      have v0 : wr.cell? ⟨b, off + k * 6, none⟩ = some (.int .i64 x0) := hc 0 _ rfl
      have v1 : wr.cell? ⟨b, off + k * 6 + 1, none⟩ = some (.int .i64 x1) := hc 1 _ rfl
      have v2 : wr.cell? ⟨b, off + k * 6 + 2, none⟩ = some (.int .i64 x2) := hc 2 _ rfl
      have v3 : wr.cell? ⟨b, off + k * 6 + 3, none⟩ = some (.int .i64 x3) := hc 3 _ rfl
      have v4 : wr.cell? ⟨b, off + k * 6 + 4, none⟩ = some (.int .i64 (n8 x4)) := hc 4 _ rfl
      have v5 : wr.cell? ⟨b, off + k * 6 + 5, none⟩ = some (.bool false) := hc 5 _ rfl
      have HSUC := Hd.mk hsuc
      have HLN : Hd ((closK (liveS st) p k).length ≤ 1000) := ⟨by rw [HNS.out] at hln; exact Nat.le_trans hln HNL2.out⟩
      have k0 : (0 : Int) ≤ (k : Int) := by omega
      have k1 : (k : Int) < (nl : Int) := by omega
      have hwk : IntKind.i64.wrap ((k : Int) + 1) = (k : Int) + 1 := IntWalk.i64_in _ ⟨by omega, by have := HNL2.out; omega⟩
      have HLT := Hd.mk hlt
      obtain ⟨lk, hlk⟩ : ∃ l, closK (liveS st) p k = l := ⟨_, rfl⟩
      rw [hlk] at HV HSUC HLN ⊢
      obtain ⟨nk, hnk⟩ : ∃ l, lk.length = l := ⟨_, rfl⟩
      have HNK := Hd.mk hnk
      rw [hnk]
      clear hlt hk hkp hkl hc hsuc hln hx hlk hnk
      by_cases hp : x2 = p
      · subst hp
        rw [if_pos rfl] at HSUC
        have hvk := HV.out
        rw [HNK.out] at hvk
        obtain ⟨v', w', hr, ho, hB', hg⟩ := push_i (W0 := w1) x0 (show AppI wr w1.heap.size (.slice av nk cv) lk from hvk) HB.out HB.out.size (by have := HLN.out; omega)
        have HO' : Hd (AppI w' w1.heap.size v' (closK (liveS st) x2 (k + 1))) := ⟨by rw [HSUC.out]; exact ho⟩
        have HB' := Hd.mk hB'
        clear hvk ho hB' hg
        go_wp2_with (at_builtin; refine wpList_append_run rfl _ _ _ rfl rfl rfl hr ?_; clear hr)
        go_roundw
        case rel => exact ⟨k + 1, by have := HLT.out; omega, by go_num, HO', HB'⟩
        case measure => have := HLT.out; simp [intOf]; omega
      · rw [if_neg hp] at HSUC
        have d1 : decide (x2 = p) = false := decide_eq_false hp
        have d2 : (x2 == p) = false := by simpa using hp
        clear hp
        go_wp2_with fail
        go_roundw
        case rel => exact ⟨k + 1, by have := HLT.out; omega, by go_num, ⟨by rw [HSUC.out, ← HNK.out]; exact HV.out⟩, HB⟩
        case measure => have := HLT.out; simp [intOf]; omega
    · obtain rfl : k = nl := by omega
      have hfin := HV.out
      have hall := closK_all st p
      rw [HNS.out] at hall
      rw [hall] at hfin ⊢
      have hBw : Below w.heap.size w wr := HB1.out.trans (HB.out.mono HB1.out.size)
      have HC2 := Hd.mk (reftake_any (HL.out.below hBw) HNX.out hfin.src)
      rw [HN.out] at HC2
      have HFIN := Hd.mk hfin
      have HX1b := Hd.mk ((HB.out.block w.heap.size (lt_heap HX1.out)).trans HX1.out)
      have HR1b := Hd.mk ((HB.out.block (w.heap.size + 1) (lt_heap HR1.out)).trans HR1.out)
      have HBw := Hd.mk hBw
      obtain ⟨ln, hln⟩ : ∃ n, (closeL st p).length = n := ⟨_, rfl⟩
      rw [hln] at HC2 HFIN ⊢
      clear hfin hall hlt hk hBw hln
      have t0 := (cells_cell HX1b.out 0).trans (show _ = some (.int .i64 nx) from rfl)
      have t1 := (cells_cell HX1b.out 1).trans (show _ = some (.slice a n c) from rfl)
      go_wp2_with fail
      refine HC2.out.mono ?_
      rintro e w2 ⟨v2, rfl, hk, hB⟩
      have HR2 := Hd.mk ((hB.block (w.heap.size + 1) (lt_heap HR1b.out)).trans HR1b.out)
      have HB2 := Hd.mk (HBw.out.trans (hB.mono HBw.out.size))
      have HLI2 := Hd.mk (OwnE.below HFIN.out hB)
      have HK : Hd (RefK wr.heap.size w2 v2 (closeS st p)) := ⟨hk⟩
      have HSZ : Hd (w.heap.size + 2 ≤ W0.heap.size ∧ W0.heap.size ≤ w1.heap.size ∧ w1.heap.size ≤ wr.heap.size ∧ wr.heap.size ≤ w2.heap.size) := ⟨HLT0.out, HLW.out, HB.out.size, hB.size⟩
      obtain ⟨a2, c2, rfl⟩ := HK.out.now.rows.shape
      obtain ⟨m, hm⟩ : ∃ m, (closeS st p).made.length = m := ⟨_, rfl⟩
      rw [hm] at HK ⊢
      clear hB hk HC2 t0 t1 hm
      have hr2 := HR2.out
      have q0 := cells_cell hr2 0
      have f0 := cells_free hr2 0
      have q1 := cells_cell hr2 1
      have f1 := cells_free hr2 1
      simp only [List.getElem?_toArray, List.getElem?_cons_zero, List.getElem?_cons_succ] at q0 q1
      clear hr2
      go_wp2_with fail
      refine bodyPost_ret (results_cell_row2 Try.results53 _ _ (w.heap.size + 1) 88 #[.int .i64 nx, .slice a2 m c2] (0, 0) _ rfl (set2 HR2.out _ _) Try.underlying88 rfl size88) rfl ?_
      refine ⟨_, _, rfl, ?_, ?_, below2 HB2.out (by omega) _ _⟩
      · have hz := HSZ.out
        refine RefK.lift HK.out ?_ ?_ (fun k hk _ => ?_)
        · omega
        · simp [World.setCell]
        exact other2 (by omega) _ _
      · have hz := HSZ.out
        refine OwnE.lower (base := w1.heap.size) (OwnE.same HLI2.out fun g cur fr hg hv => ?_) (by omega)
        have hg2 := World.ownsRow.lt HLI2.out g hv
        exact other2 (by omega) _ _

end Go.Proofs.Ytinagiofolmhbaa
