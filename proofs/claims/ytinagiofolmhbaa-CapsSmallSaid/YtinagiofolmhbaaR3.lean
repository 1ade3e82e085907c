/- The reference: Get, under, Below. -/
import Derived.Test.YtinagiofolmhbaaR1
import Derived.Test.YtinagiofolmhbaaPL3
namespace Go.Proofs.Ytinagiofolmhbaa
open Go.RowKit
set_option linter.unusedVariables false
set_option linter.unusedSimpArgs false


theorem set6 {W : World} {b e : Nat} {z0 z1 z2 z3 z4 z5 : Value} (h : W.heap[b]? = some (.cells #[z0, z1, z2, z3, z4, z5] e (0, 0))) (a0 a1 a2 a3 a4 a5 : Value) :
    ((((((W.setCell ⟨b, 0, none⟩ a0).setCell ⟨b, 1, none⟩ a1).setCell ⟨b, 2, none⟩ a2).setCell ⟨b, 3, none⟩ a3).setCell ⟨b, 4, none⟩ a4).setCell ⟨b, 5, none⟩ a5).heap[b]? = some (.cells #[a0, a1, a2, a3, a4, a5] e (0, 0)) :=
  cells_set (o := 5) (cells_set (o := 4) (cells_set (o := 3) (cells_set (o := 2) (cells_set (o := 1) (cells_set (o := 0) h a0) a1) a2) a3) a4) a5
theorem below6 {B : Nat} {w W : World} (h : Below B w W) {b : Nat} (hb : B ≤ b) (a0 a1 a2 a3 a4 a5 : Value) :
    Below B w ((((((W.setCell ⟨b, 0, none⟩ a0).setCell ⟨b, 1, none⟩ a1).setCell ⟨b, 2, none⟩ a2).setCell ⟨b, 3, none⟩ a3).setCell ⟨b, 4, none⟩ a4).setCell ⟨b, 5, none⟩ a5) :=
  (((((h.setCell (p := ⟨b, 0, none⟩) hb _).setCell (p := ⟨b, 1, none⟩) hb _).setCell (p := ⟨b, 2, none⟩) hb _).setCell (p := ⟨b, 3, none⟩) hb _).setCell (p := ⟨b, 4, none⟩) hb _).setCell (p := ⟨b, 5, none⟩) hb _
theorem size104 : (Try.prog.info? 104).map (·.size) = some 6 := by kernel_rfl
/-- The reference's table: its rows read as what was made. -/
structure RefT (w : World) (v : Value) (st : St) : Prop where
  rows : SrcN rL w v st.made
  few : st.made.length ≤ 1000
  ok : Ok st
theorem RefT.below {w w' : World} {v : Value} {st : St} (h : RefT w v st) (hB : Below w.heap.size w w') : RefT w' v st := ⟨h.rows.below hB, h.few, h.ok⟩
def rC (h : Hn) : Array Value := #[.int .i64 h.ser, .int .i64 h.par, .int .i64 h.port, .int .i64 h.hol, .int .i64 (n8 h.rts), .bool false]
def liveP (st : St) : List (Hn × Bool) := st.made.filter (fun x => !x.2)
theorem liveP_len (st : St) : (liveP st).length = (liveS st).length := by unfold liveS liveP; rw [List.length_map]
theorem liveP_at {st : St} {k : Nat} (h : k < (liveP st).length) (h2 : k < (liveS st).length) : (liveP st)[k] = ((liveS st)[k], false) := by
  have h3 : (liveP st)[k] ∈ liveP st := List.getElem_mem h
  have e : (liveS st)[k] = (liveP st)[k].1 := by simp only [liveS, liveP, List.getElem_map]
  rw [e]
  obtain ⟨x, hx⟩ : ∃ x, (liveP st)[k] = x := ⟨_, rfl⟩
  rw [hx] at h3 ⊢
  unfold liveP at h3
  simp at h3
  obtain ⟨x, b⟩ := x
  simp at h3 ⊢
  exact h3.2
set_option maxRecDepth 100000 in
set_option maxHeartbeats 2000000 in
theorem refget_any {st : St} {v : Value} {w : World} (h : RefT w v st) (s : Int) : Calls Try.prog 65 #[.agg #[.int .i64 st.next, v], .int .i64 s] w fun e w' => e = .returned (.tuple #[.agg (rC (getV st s)), .int .i64 (getE st s)]) ∧ Below w.heap.size w w' := by
  obtain ⟨a, c, rfl⟩ := h.rows.shape
  have HL := Hd.mk h
  obtain ⟨nx, hnx⟩ : ∃ n, st.next = n := ⟨_, rfl⟩
  obtain ⟨n0, hn0⟩ : ∃ n, st.made.length = n := ⟨_, rfl⟩
  have HN0 := Hd.mk hn0
  rw [hnx, hn0]
  clear h hnx hn0
  obtain ⟨W0, hW0⟩ : ∃ W, ((w.alloc (.cells #[.int .i64 nx, .slice a n0 c] 88)).alloc (.cells #[.int .i64 0, .int .i64 0, .int .i64 0, .int .i64 0, .int .i64 0, .bool false] 104)) = W := ⟨_, rfl⟩
  have hs1 : (w.alloc (.cells #[.int .i64 nx, .slice a n0 c] 88)).heap.size = w.heap.size + 1 := by simp
  have hB0 : Below w.heap.size w W0 := by rw [← hW0]; exact ((Below.refl _ _).alloc (Nat.le_refl _) _).alloc (by rw [hs1]; omega) _
  have hx0 : W0.heap[w.heap.size]? = some (.cells #[.int .i64 nx, .slice a n0 c] 88 (0, 0)) := by rw [← hW0]; exact (Below.heap_alloc _ _ _ (lt_heap (heap_alloc_new w _))).trans (heap_alloc_new w _)
  have hr0 : W0.heap[w.heap.size + 1]? = some (.cells #[.int .i64 0, .int .i64 0, .int .i64 0, .int .i64 0, .int .i64 0, .bool false] 104 (0, 0)) := by rw [← hW0, ← hs1]; exact heap_alloc_new _ _
  have HB0 := Hd.mk hB0
  have HX0 := Hd.mk hx0
  have HR0 := Hd.mk hr0
  have HW0 := Hd.mk hW0
  clear hW0 hs1 hB0 hx0 hr0
  go_enter Try.func65, Try.ntmps65
  go_upto_region 1 with fail
  rw [HW0.out]
  clear HW0
  have t0 := (cells_cell HX0.out 0).trans (show _ = some (.int .i64 nx) from rfl)
  have t1 := (cells_cell HX0.out 1).trans (show _ = some (.slice a n0 c) from rfl)
  have HC_ := Hd.mk (live_ref (nx := nx) (HL.out.rows.below HB0.out) (Nat.le_trans HL.out.few (by omega)))
  rw [HN0.out] at HC_
  go_wp2_with fail
  refine HC_.out.mono ?_
  rintro e w1 ⟨v1, rfl, hO, hB1⟩
  have hO : OwnN rL w1 W0.heap.size 104 v1 (liveP st) := hO
  obtain ⟨a1, c1, rfl⟩ := hO.shape
  have hr1 := (hB1.block (w.heap.size + 1) (lt_heap HR0.out)).trans HR0.out
  have HB1 := Hd.mk (HB0.out.trans (hB1.mono HB0.out.size))
  have HO := Hd.mk hO
  have HR1 := Hd.mk hr1
  obtain ⟨n, hn⟩ : ∃ n, (liveP st).length = n := ⟨_, rfl⟩
  have HN := Hd.mk hn
  have hn2 : n ≤ 1000 := by rw [← hn]; exact Nat.le_trans (List.length_filter_le _ _) HL.out.few
  have HN2 := Hd.mk hn2
  rw [hn]
  clear hO hB1 hr1 hn hn2 t0 t1 HC_ HR0
  go_wp2_with fail
  have H0 : Hd (∀ j (hj : j < (liveS st).length), j < 0 → ¬ (liveS st)[j].ser = s) := ⟨fun j hj h => by omega⟩
  go_loopw [7] (fun i W => ∃ k : Nat, k ≤ n ∧ i = .int .i64 k ∧ W = w1 ∧ Hd (∀ j (hj : j < (liveS st).length), j < k → ¬ (liveS st)[j].ser = s)) (fun i _ => n - (intOf i).toNat)
  case atStart => exact ⟨0, by omega, rfl, rfl, H0⟩
  case round =>
    obtain ⟨k, hk, rfl, rfl, HNO⟩ := hrel
    by_cases hlt : k < n
    · have hkp : k < (liveP st).length := by rw [HN.out]; exact hlt
      have hkl : k < (liveS st).length := by rw [← liveP_len]; exact hkp
      obtain ⟨b, off, hbe, _, hc⟩ := HO.out.src.at k hkp
      cases hbe
      rw [liveP_at hkp hkl] at hc
      obtain ⟨⟨x0, x1, x2, x3, x4⟩, hx⟩ : ∃ x, (liveS st)[k] = x := ⟨_, rfl⟩
      rw [hx] at hc
      have v0 : wr.cell? ⟨b, off + k * 6, none⟩ = some (.int .i64 x0) := hc 0 _ rfl
      have v1 : wr.cell? ⟨b, off + k * 6 + 1, none⟩ = some (.int .i64 x1) := hc 1 _ rfl
      have v2 : wr.cell? ⟨b, off + k * 6 + 2, none⟩ = some (.int .i64 x2) := hc 2 _ rfl
      have v3 : wr.cell? ⟨b, off + k * 6 + 3, none⟩ = some (.int .i64 x3) := hc 3 _ rfl
      have v4 : wr.cell? ⟨b, off + k * 6 + 4, none⟩ = some (.int .i64 (n8 x4)) := hc 4 _ rfl
      have v5 : wr.cell? ⟨b, off + k * 6 + 5, none⟩ = some (.bool false) := hc 5 _ rfl
      have k0 : (0 : Int) ≤ (k : Int) := by omega
      have k1 : (k : Int) < (n : Int) := by omega
      have HWK : Hd (IntKind.i64.wrap ((k : Int) + 1) = (k : Int) + 1) := ⟨IntWalk.i64_in _ ⟨by have := HN2.out; omega, by have := HN2.out; omega⟩⟩
      have HLT := Hd.mk hlt
      have HKL := Hd.mk hkl
      have HX := Hd.mk hx
      clear hc hlt hk hx
      by_cases he : x0 = s
      · subst he
        have hg : getL (liveS st) x0 = some ⟨x0, x1, x2, x3, x4⟩ := by
          have := getL_first HKL.out (s := x0) (by rw [HX.out]) HNO.out
          rw [HX.out] at this
          exact this
        have HG := Hd.mk hg
        clear hg
        have q0 := cells_cell HR1.out 0
        have f0 := cells_free HR1.out 0
        have q1 := cells_cell HR1.out 1
        have f1 := cells_free HR1.out 1
        have q2 := cells_cell HR1.out 2
        have f2 := cells_free HR1.out 2
        have q3 := cells_cell HR1.out 3
        have f3 := cells_free HR1.out 3
        have q4 := cells_cell HR1.out 4
        have f4 := cells_free HR1.out 4
        have q5 := cells_cell HR1.out 5
        have f5 := cells_free HR1.out 5
        simp only [List.getElem?_toArray, List.getElem?_cons_zero, List.getElem?_cons_succ] at q0 q1 q2 q3 q4 q5
        go_wp2_with fail
        refine bodyPost_ret (results_cell_row2 Try.results65 _ _ (w.heap.size + 1) 104 #[.int .i64 x0, .int .i64 x1, .int .i64 x2, .int .i64 x3, .int .i64 (n8 x4), .bool false] (0, 0) _ rfl (set6 HR1.out _ _ _ _ _ _) Try.underlying104 rfl size104) rfl ?_
        exact ⟨by unfold getV getE rC; rw [HG.out]; rfl, below6 HB1.out (by omega) _ _ _ _ _ _⟩
      · have d1 : decide (x0 = s) = false := decide_eq_false he
        have d2 : (x0 == s) = false := by simpa using he
        have HNX : Hd (∀ j (hj : j < (liveS st).length), j < k + 1 → ¬ (liveS st)[j].ser = s) := ⟨fun j hj h => by
          by_cases e : j = k
          · subst e; rw [HX.out]; exact he
          · exact HNO.out j hj (by omega)⟩
        have hwk := HWK.out
        clear he
        go_wp2_with fail
        go_roundw
        case rel => exact ⟨k + 1, by have := HLT.out; omega, by go_num, trivial, HNX⟩
        case measure => have := HLT.out; simp [intOf]; omega
    · obtain rfl : k = n := by omega
      have HG := Hd.mk (getL_no (fun j hj => HNO.out j hj (by rw [← HN.out, liveP_len]; exact hj)))
      have q0 := cells_cell HR1.out 0
      have f0 := cells_free HR1.out 0
      have q1 := cells_cell HR1.out 1
      have f1 := cells_free HR1.out 1
      have q2 := cells_cell HR1.out 2
      have f2 := cells_free HR1.out 2
      have q3 := cells_cell HR1.out 3
      have f3 := cells_free HR1.out 3
      have q4 := cells_cell HR1.out 4
      have f4 := cells_free HR1.out 4
      have q5 := cells_cell HR1.out 5
      have f5 := cells_free HR1.out 5
      simp only [List.getElem?_toArray, List.getElem?_cons_zero, List.getElem?_cons_succ] at q0 q1 q2 q3 q4 q5
      clear hlt hk
      go_wp2_with fail
      refine bodyPost_ret (results_cell_row2 Try.results65 _ _ (w.heap.size + 1) 104 #[.int .i64 0, .int .i64 0, .int .i64 0, .int .i64 0, .int .i64 0, .bool false] (0, 0) _ rfl (set6 HR1.out _ _ _ _ _ _) Try.underlying104 rfl size104) rfl ?_
      exact ⟨by unfold getV getE rC; rw [HG.out]; rfl, below6 HB1.out (by omega) _ _ _ _ _ _⟩

theorem refget_at {st : St} {v : Value} {w : World} (h : RefT w v st) {nx s a b c d e : Int} {r : BitVec 8} (hn : st.next = nx) (hv : getV st s = ⟨a, b, c, d, r⟩) (he : getE st s = e) :
    Calls Try.prog 65 #[.agg #[.int .i64 nx, v], .int .i64 s] w fun e' w' => e' = .returned (.tuple #[.agg #[.int .i64 a, .int .i64 b, .int .i64 c, .int .i64 d, .int .i64 (n8 r), .bool false], .int .i64 e]) ∧ Below w.heap.size w w' := by
  have := refget_any h s
  rw [hn, hv, he] at this
  exact this
set_option maxRecDepth 100000 in
set_option maxHeartbeats 2000000 in
theorem refunder_any {st : St} {v : Value} {w : World} (h : RefT w v st) {nx : Int} (hnx : st.next = nx) {x0 x1 x2 x3 : Int} {x4 : BitVec 8} (hm : (⟨x0, x1, x2, x3, x4⟩ : Hn) ∈ liveS st) (s : Int) :
    Calls Try.prog 88 #[.agg #[.int .i64 nx, v], .agg #[.int .i64 x0, .int .i64 x1, .int .i64 x2, .int .i64 x3, .int .i64 (n8 x4), .bool false], .int .i64 s] w fun e w' => e = .returned (.bool (undB (liveS st) (liveS st).length ⟨x0, x1, x2, x3, x4⟩ s)) ∧ Below w.heap.size w w' := by
  obtain ⟨a, c, rfl⟩ := h.rows.shape
  have HL := Hd.mk h
  obtain ⟨n0, hn0⟩ : ∃ n, st.made.length = n := ⟨_, rfl⟩
  have HN0 := Hd.mk hn0
  have HNX := Hd.mk hnx
  have HTR := Hd.mk h.ok.tr
  rw [hn0]
  have hu0 := undB_iff (s := s) h.ok.tr hm
  obtain ⟨ub, hub⟩ : ∃ b, undB (liveS st) (liveS st).length ⟨x0, x1, x2, x3, x4⟩ s = b := ⟨_, rfl⟩
  rw [hub] at hu0 ⊢
  have HU0 := Hd.mk hu0
  have HMM := Hd.mk hm
  clear h hnx hn0 hm hu0 hub
  obtain ⟨W0, hW0⟩ : ∃ W, ((w.alloc (.cells #[.int .i64 nx, .slice a n0 c] 88)).alloc (.cells #[.int .i64 x0, .int .i64 x1, .int .i64 x2, .int .i64 x3, .int .i64 (n8 x4), .bool false] 104)) = W := ⟨_, rfl⟩
  have hs1 : (w.alloc (.cells #[.int .i64 nx, .slice a n0 c] 88)).heap.size = w.heap.size + 1 := by simp
  have hB0 : Below w.heap.size w W0 := by rw [← hW0]; exact ((Below.refl _ _).alloc (Nat.le_refl _) _).alloc (by rw [hs1]; omega) _
  have hx0 : W0.heap[w.heap.size]? = some (.cells #[.int .i64 nx, .slice a n0 c] 88 (0, 0)) := by rw [← hW0]; exact (Below.heap_alloc _ _ _ (lt_heap (heap_alloc_new w _))).trans (heap_alloc_new w _)
  have hr0 : W0.heap[w.heap.size + 1]? = some (.cells #[.int .i64 x0, .int .i64 x1, .int .i64 x2, .int .i64 x3, .int .i64 (n8 x4), .bool false] 104 (0, 0)) := by rw [← hW0, ← hs1]; exact heap_alloc_new _ _
  have HB0 := Hd.mk hB0
  have HX0 := Hd.mk hx0
  have HR0 := Hd.mk hr0
  have HW0 := Hd.mk hW0
  clear hW0 hs1 hB0 hx0 hr0
  go_enter Try.func88, Try.ntmps88
  go_upto_region 1 with fail
  rw [HW0.out]
  clear HW0
  go_loopw [6] (fun q W => ∃ u : Hn, u ∈ liveS st ∧ q = .bool false ∧ Hd (W.heap[w.heap.size + 1]? = some (.cells (rC u) 104 (0, 0))) ∧ Hd (W.heap[w.heap.size]? = some (.cells #[.int .i64 nx, .slice a n0 c] 88 (0, 0))) ∧ Hd (ub = true ↔ Und (liveS st) s u) ∧ Hd (Below w.heap.size w W)) (fun _ W => (intOf ((W.cell? ⟨w.heap.size + 1, 0, none⟩).getD undef)).toNat)
  case atStart => exact ⟨_, HMM.out, rfl, HR0, HX0, HU0, HB0⟩
  case round =>
    obtain ⟨⟨u0, u1, u2, u3, u4⟩, hum, rfl, HH, HT, HU, HB⟩ := hrel
    have hh : wr.heap[w.heap.size + 1]? = some (.cells #[.int .i64 u0, .int .i64 u1, .int .i64 u2, .int .i64 u3, .int .i64 (n8 u4), .bool false] 104 (0, 0)) := HH.out
    have p0 := (cells_cell hh 0).trans (show _ = some (Value.int .i64 u0) from rfl)
    have p1 := (cells_cell hh 1).trans (show _ = some (Value.int .i64 u1) from rfl)
    have p2 := (cells_cell hh 2).trans (show _ = some (Value.int .i64 u2) from rfl)
    have p3 := (cells_cell hh 3).trans (show _ = some (Value.int .i64 u3) from rfl)
    have p4 := (cells_cell hh 4).trans (show _ = some (Value.int .i64 (n8 u4)) from rfl)
    have p5 := (cells_cell hh 5).trans (show _ = some (Value.bool false) from rfl)
    have hub := HL.out.ok.lo _ (live_mem.1 hum)
    have hn2 := HL.out.ok.n2
    simp only at hub
    have hu1 : 1 ≤ u0 := hub.1
    have hu2 : u0 ≤ 281474976710656 := by omega
    have HUB := Hd.mk (And.intro hu1 hu2)
    have HUM := Hd.mk hum
    have HHH := Hd.mk hh
    clear hum hh hub hn2 hu1 hu2 HH
    by_cases he : u0 = s
    · subst he
      have HE : Hd (ub = true) := ⟨HU.out.2 (.here rfl)⟩
      clear HUB
      go_wp2_with fail
      refine bodyPost_ret (results_tmp Try.results88 _ _ _) rfl ?_
      exact ⟨by rw [HE.out]; rfl, HB.out⟩
    · have d1 : decide (u0 = s) = false := decide_eq_false he
      have d2 : (u0 == s) = false := by simpa using he
      have t0 := (cells_cell HT.out 0).trans (show _ = some (.int .i64 nx) from rfl)
      have t1 := (cells_cell HT.out 1).trans (show _ = some (.slice a n0 c) from rfl)
      have HNE := Hd.mk he
      clear he
      cases hg : getL (liveS st) u1 with
      | none =>
        have hE : getE st u1 = 6 ∧ getV st u1 = ⟨0, 0, 0, 0, 0#8⟩ := by unfold getE getV; rw [hg]; exact ⟨rfl, rfl⟩
        have HC_ := Hd.mk (refget_at (s := u1) (HL.out.below HB.out) HNX.out hE.2 hE.1)
        rw [HN0.out] at HC_
        have HE : Hd (ub = false) := ⟨by
          cases ub
          · rfl
          · exfalso
            cases HU.out.1 rfl with
            | here e => exact HNE.out e
            | up h2 _ => rw [hg] at h2; cases h2⟩
        clear hE hg
        go_wp2_with fail
        refine HC_.out.mono ?_
        rintro e w3 ⟨rfl, hB3⟩
        have HB3 := Hd.mk ((HB.out.trans (hB3.mono HB.out.size)).alloc (Nat.le_trans HB.out.size hB3.size) (.cells #[.int .i64 0, .int .i64 0, .int .i64 0, .int .i64 0, .int .i64 (n8 0#8), .bool false] 104))
        clear hB3 HC_ t0 t1 p0 p1 p2 p3 p4 p5 d1 d2
        go_wp2_with fail
        refine bodyPost_ret (results_tmp Try.results88 _ _ _) rfl ?_
        exact ⟨by rw [HE.out]; rfl, HB3.out⟩
      | some u =>
        obtain ⟨y0, y1, y2, y3, y4⟩ := u
        have hE : getE st u1 = 0 ∧ getV st u1 = ⟨y0, y1, y2, y3, y4⟩ := by unfold getE getV; rw [hg]; exact ⟨rfl, rfl⟩
        obtain ⟨hym, hyu⟩ := getL_some hg
        simp only at hyu
        have HC_ := Hd.mk (refget_at (s := u1) (HL.out.below HB.out) HNX.out hE.2 hE.1)
        rw [HN0.out] at HC_
        have HU' : Hd (ub = true ↔ Und (liveS st) s ⟨y0, y1, y2, y3, y4⟩) := ⟨HU.out.trans ⟨fun h => by
          cases h with
          | here e => exact absurd e HNE.out
          | up h2 h3 => rw [hg] at h2; cases h2; exact h3, fun h => .up hg h⟩⟩
        have HYM := Hd.mk hym
        have hlt := HTR.out.par _ HUM.out
        have hyl := HL.out.ok.lo _ (live_mem.1 hym)
        simp only at hlt hyl
        have HLT : Hd (1 ≤ y0 ∧ y0 < u0) := ⟨by omega, by omega⟩
        clear hE hg hym hyu hlt hyl
        go_wp2_with fail
        refine HC_.out.mono ?_
        rintro e w3 ⟨rfl, hB3⟩
        clear HC_ t0 t1 p0 p1 p2 p3 p4 p5
        go_upto_region 3 with fail
        obtain ⟨W4, hW4⟩ : ∃ W, (w3.alloc (.cells #[.int .i64 y0, .int .i64 y1, .int .i64 y2, .int .i64 y3, .int .i64 (n8 y4), .bool false] 104)) = W := ⟨_, rfl⟩
        have hb4 : W4.heap[w3.heap.size]? = some (.cells #[.int .i64 y0, .int .i64 y1, .int .i64 y2, .int .i64 y3, .int .i64 (n8 y4), .bool false] 104 (0, 0)) := by rw [← hW4]; exact heap_alloc_new _ _
        have hB4 : Below w3.heap.size w3 W4 := by rw [← hW4]; exact (Below.refl _ _).alloc (Nat.le_refl _) _
        rw [hW4]
        obtain ⟨X, hX⟩ : ∃ X, w3.heap.size = X := ⟨_, rfl⟩
        have hB34 : Below wr.heap.size wr W4 := hB3.trans (hB4.mono hB3.size)
        have hHX : w.heap.size + 1 < X := by
          have := lt_heap HHH.out
          have := hB3.size
          omega
        rw [hX] at hb4 ⊢
        have hh4 := (hB34.block (w.heap.size + 1) (lt_heap HHH.out)).trans HHH.out
        have ht4 := (hB34.block w.heap.size (lt_heap HT.out)).trans HT.out
        have HH4 := Hd.mk hh4
        have HT4 := Hd.mk ht4
        have HB4 := Hd.mk (HB.out.trans (hB34.mono HB.out.size))
        have z0 := (cells_cell hb4 0).trans (show _ = some (Value.int .i64 y0) from rfl)
        have z1 := (cells_cell hb4 1).trans (show _ = some (Value.int .i64 y1) from rfl)
        have z2 := (cells_cell hb4 2).trans (show _ = some (Value.int .i64 y2) from rfl)
        have z3 := (cells_cell hb4 3).trans (show _ = some (Value.int .i64 y3) from rfl)
        have z4 := (cells_cell hb4 4).trans (show _ = some (Value.int .i64 (n8 y4)) from rfl)
        have z5 := (cells_cell hb4 5).trans (show _ = some (Value.bool false) from rfl)
        have q0 := cells_cell hh4 0
        have f0 := cells_free hh4 0
        have q1 := cells_cell hh4 1
        have f1 := cells_free hh4 1
        have q2 := cells_cell hh4 2
        have f2 := cells_free hh4 2
        have q3 := cells_cell hh4 3
        have f3 := cells_free hh4 3
        have q4 := cells_cell hh4 4
        have f4 := cells_free hh4 4
        have q5 := cells_cell hh4 5
        have f5 := cells_free hh4 5
        simp only [List.getElem?_toArray, List.getElem?_cons_zero, List.getElem?_cons_succ] at q0 q1 q2 q3 q4 q5
        clear hW4 hX hb4 hB4 hB3 hB34 hHX hh4 ht4
        go_wp2_with fail
        go_roundw
        case rel =>
          refine ⟨⟨y0, y1, y2, y3, y4⟩, HYM.out, by trivial, ⟨set6 HH4.out _ _ _ _ _ _⟩, ⟨?_⟩, HU', ⟨below6 HB4.out (by omega) _ _ _ _ _ _⟩⟩
          refine Eq.trans ?_ HT4.out
          iterate 6 rw [setCell_other (by omega)]
        case measure =>
          have e1 := cells_cell (set6 HH4.out (.int .i64 y0) (.int .i64 y1) (.int .i64 y2) (.int .i64 y3) (.int .i64 (n8 y4)) (.bool false)) 0
          have e2 := cells_cell HHH.out 0
          rw [e1, e2]
          have := HLT.out
          simp [intOf]
          omega

theorem cell_keep {W W' : World} {p : Addr} {v : Value} (h : W.cell? p = some v) (hB : Below W.heap.size W W') : W'.cell? p = some v :=
  (hB.cell (World.block_lt_of_cell? _ _ h)).trans h
def belK (l : List Hn) (s : Int) (k : Nat) : List Int := ((l.take k).filter (fun h => undB l l.length h s)).map (·.ser)
theorem belK_succ {l : List Hn} {s : Int} {k : Nat} (hk : k < l.length) : belK l s (k + 1) = if undB l l.length l[k] s = true then belK l s k ++ [l[k].ser] else belK l s k := by
  unfold belK
  rw [List.take_succ_eq_append_getElem hk, List.filter_append, List.map_append]
  split <;> rename_i h <;> simp [h]
theorem belK_all (l : List Hn) (s : Int) : belK l s l.length = belowL l s := by unfold belK belowL; rw [List.take_length]
theorem belK_len (l : List Hn) (s : Int) (k : Nat) : (belK l s k).length ≤ l.length := by
  unfold belK; rw [List.length_map]
  exact Nat.le_trans (List.length_filter_le _ _) (by rw [List.length_take]; omega)
set_option maxRecDepth 100000 in
set_option maxHeartbeats 2000000 in
theorem refbel_any {st : St} {v : Value} {w : World} (h : RefT w v st) {nx : Int} (hnx : st.next = nx) (s : Int) :
    Calls Try.prog 67 #[.agg #[.int .i64 nx, v], .int .i64 s] w fun e w' => ∃ v', e = .returned (.tuple #[v', .int .i64 (getE st s)]) ∧ AppI w' w.heap.size v' (belowS st s) ∧ Below w.heap.size w w' := by
  obtain ⟨a, c, rfl⟩ := h.rows.shape
  have HL := Hd.mk h
  obtain ⟨n0, hn0⟩ : ∃ n, st.made.length = n := ⟨_, rfl⟩
  have HN0 := Hd.mk hn0
  have HNX := Hd.mk hnx
  rw [hn0]
  clear h hnx hn0
  obtain ⟨W0, hW0⟩ : ∃ W, (w.alloc (.cells #[.int .i64 nx, .slice a n0 c] 88)) = W := ⟨_, rfl⟩
  have hB0 : Below w.heap.size w W0 := by rw [← hW0]; exact (Below.refl _ _).alloc (Nat.le_refl _) _
  have hx0 : W0.heap[w.heap.size]? = some (.cells #[.int .i64 nx, .slice a n0 c] 88 (0, 0)) := by rw [← hW0]; exact heap_alloc_new w _
  have HB0 := Hd.mk hB0
  have HX0 := Hd.mk hx0
  have HW0 := Hd.mk hW0
  clear hW0 hB0 hx0
  obtain ⟨ge, hge⟩ : ∃ e, getE st s = e := ⟨_, rfl⟩
  obtain ⟨⟨g0, g1, g2, g3, g4⟩, hgv⟩ : ∃ e, getV st s = e := ⟨_, rfl⟩
  have HC_ := Hd.mk (refget_at (s := s) (HL.out.below HB0.out) HNX.out hgv hge)
  rw [HN0.out] at HC_
  have HGE := Hd.mk hge
  rw [hge]
  clear hgv hge
  go_enter Try.func67, Try.ntmps67
  go_upto_region 1 with fail
  rw [HW0.out]
  clear HW0
  have t0 := (cells_cell HX0.out 0).trans (show _ = some (.int .i64 nx) from rfl)
  have t1 := (cells_cell HX0.out 1).trans (show _ = some (.slice a n0 c) from rfl)
  go_wp2_with fail
  refine HC_.out.mono ?_
  rintro e w1 ⟨rfl, hB1⟩
  clear HC_ t0 t1
  go_upto_region 2 with fail
  obtain ⟨W1, hW1⟩ : ∃ W, (w1.alloc (.cells #[.int .i64 g0, .int .i64 g1, .int .i64 g2, .int .i64 g3, .int .i64 (n8 g4), .bool false] 104)) = W := ⟨_, rfl⟩
  have hB01 : Below W0.heap.size W0 W1 := by rw [← hW1]; exact hB1.alloc hB1.size _
  rw [hW1]
  have HX1 := Hd.mk ((hB01.block w.heap.size (lt_heap HX0.out)).trans HX0.out)
  have HB1 := Hd.mk (HB0.out.trans (hB01.mono HB0.out.size))
  clear hW1 hB01 hB1
  by_cases he : ge = 0
  · subst he
    have HBS : Hd (belowS st s = belowL (liveS st) s) := ⟨by unfold belowS; rw [if_pos HGE.out]⟩
    have t0 := (cells_cell HX1.out 0).trans (show _ = some (.int .i64 nx) from rfl)
    have t1 := (cells_cell HX1.out 1).trans (show _ = some (.slice a n0 c) from rfl)
    have HC_ := Hd.mk (live_ref (nx := nx) (HL.out.rows.below HB1.out) (Nat.le_trans HL.out.few (by omega)))
    rw [HN0.out] at HC_
    go_wp2_with fail
    refine HC_.out.mono ?_
    rintro e w2 ⟨v2, rfl, hO, hB2⟩
    have hO : OwnN rL w2 W1.heap.size 104 v2 (liveP st) := hO
    obtain ⟨a2, c2, rfl⟩ := hO.shape
    have HX2 := Hd.mk ((hB2.block w.heap.size (lt_heap HX1.out)).trans HX1.out)
    have HB2 := Hd.mk (HB1.out.trans (hB2.mono HB1.out.size))
    have HO := Hd.mk hO
    obtain ⟨n, hn⟩ : ∃ n, (liveP st).length = n := ⟨_, rfl⟩
    have HN := Hd.mk hn
    have HNL : Hd ((liveS st).length = n) := ⟨by rw [← liveP_len, hn]⟩
    have hn2 : n ≤ 1000 := by rw [← hn]; exact Nat.le_trans (List.length_filter_le _ _) HL.out.few
    have HN2 := Hd.mk hn2
    rw [hn]
    clear hO hB2 hn hn2 t0 t1 HC_ HX1 HB1
    go_wp2_with fail
    have H0 : Hd (AppI w2 w2.heap.size (.slice none 0 0) (belK (liveS st) s 0)) := ⟨OwnE.nil _ _ _ _⟩
    go_loopw [8, 10] (fun v i W => ∃ k : Nat, k ≤ n ∧ i = .int .i64 k ∧ Hd (AppI W w2.heap.size v (belK (liveS st) s k)) ∧ Hd (Below w2.heap.size w2 W)) (fun _ i _ => n - (intOf i).toNat)
    case atStart => exact ⟨0, by omega, rfl, H0, ⟨Below.refl _ _⟩⟩
    case round =>
      obtain ⟨k, hk, rfl, HV, HB⟩ := hrel
      obtain ⟨av, cv, rfl⟩ := HV.out.src.shape
      by_cases hlt : k < n
      · have hkp : k < (liveP st).length := by rw [HN.out]; exact hlt
        have hkl : k < (liveS st).length := by rw [← liveP_len]; exact hkp
        obtain ⟨b, off, hbe, _, hc⟩ := (HO.out.src.below HB.out).at k hkp
        cases hbe
        rw [liveP_at hkp hkl] at hc
        have hmem := List.getElem_mem hkl
        have hsuc := belK_succ (s := s) hkl
        have hln := belK_len (liveS st) s k
        obtain ⟨⟨x0, x1, x2, x3, x4⟩, hx⟩ : ∃ x, (liveS st)[k] = x := ⟨_, rfl⟩
        rw [hx] at hc hmem hsuc
        simp only at hsuc
        have v0 : wr.cell? ⟨b, off + k * 6, none⟩ = some (.int .i64 x0) := hc 0 _ rfl
        have v1 : wr.cell? ⟨b, off + k * 6 + 1, none⟩ = some (.int .i64 x1) := hc 1 _ rfl
        have v2 : wr.cell? ⟨b, off + k * 6 + 2, none⟩ = some (.int .i64 x2) := hc 2 _ rfl
        have v3 : wr.cell? ⟨b, off + k * 6 + 3, none⟩ = some (.int .i64 x3) := hc 3 _ rfl
        have v4 : wr.cell? ⟨b, off + k * 6 + 4, none⟩ = some (.int .i64 (n8 x4)) := hc 4 _ rfl
        have v5 : wr.cell? ⟨b, off + k * 6 + 5, none⟩ = some (.bool false) := hc 5 _ rfl
        have hxx := (HB.out.block w.heap.size (lt_heap HX2.out)).trans HX2.out
        have t0 := (cells_cell hxx 0).trans (show _ = some (.int .i64 nx) from rfl)
        have t1 := (cells_cell hxx 1).trans (show _ = some (.slice a n0 c) from rfl)
        have hwd : Below w.heap.size w wr := HB2.out.trans (HB.out.mono HB2.out.size)
        have HC_ := Hd.mk (refunder_any (HL.out.below hwd.drew) HNX.out hmem s)
        rw [HN0.out] at HC_
        obtain ⟨u, hu⟩ : ∃ u, undB (liveS st) (liveS st).length ⟨x0, x1, x2, x3, x4⟩ s = u := ⟨_, rfl⟩
        rw [hu] at HC_ hsuc
        have HSUC := Hd.mk hsuc
        have HLN : Hd ((belK (liveS st) s k).length ≤ 1000) := ⟨by rw [HNL.out] at hln; exact Nat.le_trans hln HN2.out⟩
        have k0 : (0 : Int) ≤ (k : Int) := by omega
        have k1 : (k : Int) < (n : Int) := by omega
        have HK := Hd.mk (And.intro k0 k1)
        have HWK : Hd (IntKind.i64.wrap ((k : Int) + 1) = (k : Int) + 1) := ⟨IntWalk.i64_in _ ⟨by have := HN2.out; omega, by have := HN2.out; omega⟩⟩
        have HLT := Hd.mk hlt
        have hS0 : Below wr.heap.size wr wr.drew ∧ wr.drew.cell? ⟨w.heap.size, 0, none⟩ = some (.int .i64 nx) ∧ wr.drew.cell? ⟨w.heap.size, 1, none⟩ = some (.slice a n0 c) ∧ wr.drew.cell? ⟨b, off + k * 6, none⟩ = some (.int .i64 x0) ∧ wr.drew.cell? ⟨b, off + k * 6 + 1, none⟩ = some (.int .i64 x1) ∧ wr.drew.cell? ⟨b, off + k * 6 + 2, none⟩ = some (.int .i64 x2) ∧ wr.drew.cell? ⟨b, off + k * 6 + 3, none⟩ = some (.int .i64 x3) ∧ wr.drew.cell? ⟨b, off + k * 6 + 4, none⟩ = some (.int .i64 (n8 x4)) ∧ wr.drew.cell? ⟨b, off + k * 6 + 5, none⟩ = some (.bool false) := ⟨(Below.refl _ _).drew, t0, t1, v0, v1, v2, v3, v4, v5⟩
        obtain ⟨lk, hlk⟩ : ∃ l, belK (liveS st) s k = l := ⟨_, rfl⟩
        rw [hlk] at HV HSUC HLN ⊢
        obtain ⟨nk, hnk⟩ : ∃ l, lk.length = l := ⟨_, rfl⟩
        have HNK := Hd.mk hnk
        rw [hnk]
        clear hc hlt hk hx hkp hkl hmem hsuc hln hxx t0 t1 v0 v1 v2 v3 v4 v5 hwd hu hlk hnk
        go_upto_region 9 with fail
        refine wp_region_held_drew (S := fun W => Below wr.heap.size wr W ∧ W.cell? ⟨w.heap.size, 0, none⟩ = some (.int .i64 nx) ∧ W.cell? ⟨w.heap.size, 1, none⟩ = some (.slice a n0 c) ∧ W.cell? ⟨b, off + k * 6, none⟩ = some (.int .i64 x0) ∧ W.cell? ⟨b, off + k * 6 + 1, none⟩ = some (.int .i64 x1) ∧ W.cell? ⟨b, off + k * 6 + 2, none⟩ = some (.int .i64 x2) ∧ W.cell? ⟨b, off + k * 6 + 3, none⟩ = some (.int .i64 x3) ∧ W.cell? ⟨b, off + k * 6 + 4, none⟩ = some (.int .i64 (n8 x4)) ∧ W.cell? ⟨b, off + k * 6 + 5, none⟩ = some (.bool false)) (by kernel_rfl) (hS0) (fun hS_ => ?_)
        try dsimp only at hS_
        refine takeW 0 ?_ rfl (by kernel_rfl) (by kernel_rfl) (by kernel_rfl) (fun _ _ _ h => h) (by rfl) ?_ hS_ ?_
        rotate_left
        · intro w hSw
          try dsimp only at hSw
          go_simp
          with_reducible rfl
        try simp only [Act.put, List.setIfInBounds_toArray, List.set_cons_zero, List.set_cons_succ]
        refine takeW 1 ?_ rfl (by kernel_rfl) (by kernel_rfl) (by kernel_rfl) (fun _ _ _ h => h) (by rfl) ?_ hS_ ?_
        rotate_left
        · intro w hSw
          try dsimp only at hSw
          go_simp
          with_reducible rfl
        try simp only [Act.put, List.setIfInBounds_toArray, List.set_cons_zero, List.set_cons_succ]
        refine takeW 2 ?_ rfl (by kernel_rfl) (by kernel_rfl) (by kernel_rfl) (fun _ _ _ h => h) (by rfl) ?_ hS_ ?_
        rotate_left
        · intro w hSw
          try dsimp only at hSw
          go_simp
          with_reducible rfl
        try simp only [Act.put, List.setIfInBounds_toArray, List.set_cons_zero, List.set_cons_succ]
        refine takeW 3 ?_ rfl (by kernel_rfl) (by kernel_rfl) (by kernel_rfl) (fun _ _ _ h => h) (by rfl) ?_ hS_ ?_
        rotate_left
        · intro w hSw
          try dsimp only at hSw
          go_simp
          with_reducible rfl
        try simp only [Act.put, List.setIfInBounds_toArray, List.set_cons_zero, List.set_cons_succ]
        refine takeW 4 ?_ rfl (by kernel_rfl) (by kernel_rfl) (by kernel_rfl) (fun _ _ _ h => h) (by rfl) ?_ hS_ ?_
        rotate_left
        · intro w hSw
          try dsimp only at hSw
          go_simp
          with_reducible rfl
        try simp only [Act.put, List.setIfInBounds_toArray, List.set_cons_zero, List.set_cons_succ]
        refine takeW 5 ?_ rfl (by kernel_rfl) (by kernel_rfl) (by kernel_rfl) (fun _ _ _ h => h) (by rfl) ?_ hS_ ?_
        rotate_left
        · intro w hSw
          try dsimp only at hSw
          go_simp
          with_reducible rfl
        try simp only [Act.put, List.setIfInBounds_toArray, List.set_cons_zero, List.set_cons_succ]
        refine wpAnyH_ready (rs := [6]) (by kernel_rfl) (by simp) (readyL rfl (fun K hK => ?_) AllReadyH.nil)
        go_simp
        refine HC_.out.mono ?_
        rintro e wk ⟨rfl, hBk⟩
        have hS2_ : Below wr.heap.size wr wk ∧ wk.cell? ⟨w.heap.size, 0, none⟩ = some (.int .i64 nx) ∧ wk.cell? ⟨w.heap.size, 1, none⟩ = some (.slice a n0 c) ∧ wk.cell? ⟨b, off + k * 6, none⟩ = some (.int .i64 x0) ∧ wk.cell? ⟨b, off + k * 6 + 1, none⟩ = some (.int .i64 x1) ∧ wk.cell? ⟨b, off + k * 6 + 2, none⟩ = some (.int .i64 x2) ∧ wk.cell? ⟨b, off + k * 6 + 3, none⟩ = some (.int .i64 x3) ∧ wk.cell? ⟨b, off + k * 6 + 4, none⟩ = some (.int .i64 (n8 x4)) ∧ wk.cell? ⟨b, off + k * 6 + 5, none⟩ = some (.bool false) := ⟨hS_.1.trans (hBk.mono hS_.1.size), cell_keep hS_.2.1 hBk, cell_keep hS_.2.2.1 hBk, cell_keep hS_.2.2.2.1 hBk, cell_keep hS_.2.2.2.2.1 hBk, cell_keep hS_.2.2.2.2.2.1 hBk, cell_keep hS_.2.2.2.2.2.2.1 hBk, cell_keep hS_.2.2.2.2.2.2.2.1 hBk, cell_keep hS_.2.2.2.2.2.2.2.2 hBk⟩
        refine hK.out _ _ hS2_ (fun _ => ?_)
        clear hK K hS_
        have hS_ := hS2_
        clear hS2_
        try simp only [Act.put, List.setIfInBounds_toArray, List.set_cons_zero, List.set_cons_succ]
        refine wpAnyH_done (by kernel_rfl) ?_ _
        clear hS0 k0 k1
        obtain ⟨hb2, -, -, v0, v1, v2, v3, v4, v5⟩ := hS_
        obtain ⟨k0, k1⟩ := HK.out
        have hwk := HWK.out
        have HBk := Hd.mk (HB.out.trans (hb2.mono HB.out.size))
        have HVk := Hd.mk (OwnE.below HV.out hb2)
        clear hb2
        cases u with
        | false =>
          go_wp2_with fail
          go_roundw
          case rel => exact ⟨k + 1, by have := HLT.out; omega, by go_num, ⟨by rw [HSUC.out, ← HNK.out]; exact HVk.out⟩, HBk⟩
          case measure => have := HLT.out; simp [intOf]; omega
        | true =>
          have hvk := HVk.out
          rw [HNK.out] at hvk
          obtain ⟨v', w', hr, ho, hB', hg⟩ := push_i (W0 := w2) x0 (show AppI wk w2.heap.size (.slice av nk cv) lk from hvk) HBk.out HBk.out.size (by have := HLN.out; omega)
          have HO' : Hd (AppI w' w2.heap.size v' (belK (liveS st) s (k + 1))) := ⟨by rw [HSUC.out]; exact ho⟩
          have HB' := Hd.mk hB'
          clear hvk ho hB' hg
          go_wp2_with (at_builtin; refine wpList_append_run rfl _ _ _ rfl rfl rfl hr ?_; clear hr)
          go_roundw
          case rel => exact ⟨k + 1, by have := HLT.out; omega, by go_num, HO', HB'⟩
          case measure => have := HLT.out; simp [intOf]; omega
      · obtain rfl : k = n := by omega
        have hfin := HV.out
        have hall := belK_all (liveS st) s
        rw [HNL.out] at hall
        rw [hall, ← HBS.out] at hfin ⊢
        have HF := Hd.mk (OwnE.lower hfin HB2.out.size)
        clear hfin hall hlt hk
        go_wp2_with fail
        refine bodyPost_ret (results_tmp2 Try.results67 _ _ _) rfl ?_
        exact ⟨_, rfl, HF.out, HB2.out.trans (HB.out.mono HB2.out.size)⟩
  · have HBS : Hd (belowS st s = []) := ⟨by unfold belowS; rw [if_neg (by rw [HGE.out]; exact he)]⟩
    have d1 : decide (ge = 0) = false := decide_eq_false he
    have d2 : (ge == 0) = false := by simpa using he
    clear he
    go_wp2_with fail
    refine bodyPost_ret (results_tmp2 Try.results67 _ _ _) rfl ?_
    exact ⟨_, rfl, by rw [HBS.out]; exact OwnE.nil _ _ _ _, HB1.out⟩

end Go.Proofs.Ytinagiofolmhbaa
