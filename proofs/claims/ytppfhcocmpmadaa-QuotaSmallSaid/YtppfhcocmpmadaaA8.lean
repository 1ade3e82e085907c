/- Walk of quota.Steps. -/
import Derived.Test.YtppfhcocmpmadaaA7
import Derived.RegionTactic
namespace Go.Proofs.Ytppfhcocmpmadaa
open Go.RowKit Go.Shelf
attribute [local go_sem] Oper.semAt_some
set_option linter.unusedVariables false

/-- What stands in Steps's loop. -/
structure StepI (w w1 : World) (l : Value) (r : Loop) (L : Nat → Int) (U : Nat → Nat → Int) (j k : Nat) (W : World) : Prop where
  book : W.heap[w.heap.size]? = some (.cells (bk L (U j)) 27 (0, 0))
  res : W.heap[w.heap.size + 1]? = some (.cells (bk zf zf) 27 (0, 0))
  at_ : W.heap[w1.heap.size]? = some (.cells #[.int .i64 (-1)] 3 (0, 0))
  er : W.heap[w1.heap.size + 1]? = some (.cells #[.int .i64 0] 33 (0, 0))
  use : W.heap[w1.heap.size + 2]? = some (.cells (ar (U k)) 25 (0, 0))
  box : W.heap[w1.heap.size + 3]? = some (.cells #[l] 28 (0, 0))
  dfr : W.heap[w1.heap.size + 4]? = some (.deferred (some []))
  lp : W.heap[w1.heap.size + 5]? = some (.loop r)
  bel : Below w.heap.size w W
theorem StepI.grown {w w1 : World} {l : Value} {r : Loop} {L : Nat → Int} {U : Nat → Nat → Int} {j k : Nat} {W W' : World} (h : StepI w w1 l r L U j k W) (hz : w.heap.size + 2 ≤ w1.heap.size) (hg : W.grownBy W' (some (w1.heap.size + 2)))
    (hG : W'.heap[w1.heap.size + 2]? = some (.cells (ar (U (k + 1))) 25 (0, 0))) : StepI w w1 l r L U j (k + 1) W' := by
  have mv : ∀ {g : Nat} {o : Obj}, W.heap[g]? = some o → g ≠ w1.heap.size + 2 → W'.heap[g]? = some o := fun h hne => (hg.block _ (lt_of_heap h) (by simpa using hne)).trans h
  exact ⟨mv h.book (by omega), mv h.res (by omega), mv h.at_ (by omega), mv h.er (by omega), hG, mv h.box (by omega), mv h.dfr (by omega), mv h.lp (by omega), h.bel.trans ⟨hg.os, hg.tape, hg.output, hg.size, fun i hi => hg.block i (Nat.lt_of_lt_of_le hi h.bel.size) (by simp; omega)⟩⟩
theorem StepI.fin {w w1 : World} {l : Value} {r : Loop} {L : Nat → Int} {U : Nat → Nat → Int} {k : Nat} {W : World} (h : StepI w w1 l r L U k (k + 1) W) (hz : w.heap.size + 2 ≤ w1.heap.size) (W3 : World) (ho : ∀ x, x < W.heap.size → x ≠ w1.heap.size + 5 → x ≠ w.heap.size → W3.heap[x]? = W.heap[x]?)
    (hT : W3.heap[w.heap.size]? = some (.cells (bk L (U (k + 1))) 27 (0, 0))) (hl : W3.heap[w1.heap.size + 5]? = some (.loop { r with state := .busy })) (hb : Below w.heap.size w W3) : StepI w w1 l r L U (k + 1) (k + 1) (readyW W3 (w1.heap.size + 5) r) := by
  have hm : ∀ x, x < W.heap.size → x ≠ w1.heap.size + 5 → x ≠ w.heap.size → (readyW W3 (w1.heap.size + 5) r).heap[x]? = W.heap[x]? := fun x hx h1 h2 => (World.putObj_heap_other (by omega)).trans (ho x hx h1 h2)
  exact ⟨(World.putObj_heap_other (by omega)).trans hT,
    (hm _ (lt_of_heap h.res) (by omega) (by omega)).trans h.res,
    (hm _ (lt_of_heap h.at_) (by omega) (by omega)).trans h.at_,
    (hm _ (lt_of_heap h.er) (by omega) (by omega)).trans h.er,
    (hm _ (lt_of_heap h.use) (by omega) (by omega)).trans h.use,
    (hm _ (lt_of_heap h.box) (by omega) (by omega)).trans h.box,
    (hm _ (lt_of_heap h.dfr) (by omega) (by omega)).trans h.dfr,
    World.putObj_heap_same (lt_of_heap hl),
    putObj_below hb (by omega)⟩

set_option maxRecDepth 100000 in
set_option maxHeartbeats 4000000 in
theorem steps_no (L U : Nat → Int) (v : Value) (cs : List (Int × Int)) (w : World) (hs : SrcC w v cs) (hc : ¬ bothV L U cs = 0) : Calls Try.prog 13 #[.agg (bk L U), v] w fun e w' => e = .returned (.tuple #[.agg (bk zf zf), .int .i64 (-1), .int .i64 (bothV L U cs)]) ∧ Below w.heap.size w w' := by
  have HS := Hd.mk hs
  obtain ⟨n, hn⟩ : ∃ n, bothV L U cs = n := ⟨_, rfl⟩
  rw [hn] at hc ⊢
  have HN := Hd.mk hn
  clear hs hn
  have HW0 : Hd (Below w.heap.size w ((w.alloc (.cells (bk L U) 27)).alloc (.cells (bk zf zf) 27))) := ⟨((Below.refl _ _).alloc (Nat.le_refl _) _).alloc (by simp) _⟩
  go_enter Try.func13, Try.ntmps13
  go_wp2_with fail
  go_step3
  go_wp2_with (refine wpList_load_row rfl 27 _ rfl _ rfl 27 (bk L U) (0, 0) _ ((Below.heap_alloc _ _ _ (by simp)).trans (World.alloc_heap_new w _)) Try.underlying27 rfl (by kernel_rfl) ?_)
  refine (both_any L U v cs _ (HS.out.below HW0.out)).mono ?_
  rintro e w1 ⟨rfl, hB⟩
  rw [HN.out]
  have hb1 : w1.heap[w.heap.size + 1]? = some (.cells (bk zf zf) 27 (0, 0)) := (hB.block _ (by simp)).trans (two_new w _ _)
  have HB1 := Hd.mk (HW0.out.trans (hB.mono (by simp; omega)))
  obtain ⟨⟨c0, c1, c2, c3, c4, c5, c6, c7⟩, ⟨f0, f1, f2, f3, f4, f5, f6, f7⟩⟩ := bk_cells hb1
  have HB0 := Hd.mk hb1
  clear hb1 hB
  go_wp2_with fail
  rw [Exit.noGoto_ret]
  refine bodyPost_ret (results_cell_row3 Try.results13 _ _ _ 27 (bk zf zf) (0, 0) _ rfl ?_ Try.underlying27 rfl (by kernel_rfl)) rfl ?_
  · exact cells_set (cells_set (cells_set (cells_set (cells_set (cells_set (cells_set (cells_set (HB0.out) _) _) _) _) _) _) _) _
  · exact ⟨rfl, ((((((((HB1.out).setCell (by simp) _).setCell (by simp) _).setCell (by simp) _).setCell (by simp) _).setCell (by simp) _).setCell (by simp) _).setCell (by simp) _).setCell (by simp) _⟩

/-- What stands behind Steps's loop, if it broke at K. -/
structure StepJ (w w1 : World) (r : Loop) (K : Nat) (e : Int) (id : Nat) (W : World) : Prop where
  res : W.heap[w.heap.size + 1]? = some (.cells (bk zf zf) 27 (0, 0))
  at_ : W.heap[w1.heap.size]? = some (.cells #[.int .i64 K] 3 (0, 0))
  er : W.heap[w1.heap.size + 1]? = some (.cells #[.int .i64 e] 33 (0, 0))
  dfr : W.heap[w1.heap.size + 4]? = some (.deferred (some []))
  lp : W.heap[w1.heap.size + 5]? = some (.loop { r with state := .done, pending := some (.exit id) })
  bel : Below w.heap.size w W
/-- Charges one by one fail at K, or, at n, nowhere. -/
structure StepAt (L : Nat → Int) (U : Nat → Nat → Int) (n K : Nat) : Prop where
  le : K ≤ n
  ok : ∀ j, j < K → (failsV L (U (j + 1))).2 = 0
  bad : K < n → ¬ (failsV L (U (K + 1))).2 = 0
theorem stepAt_ex (L : Nat → Int) (U : Nat → Nat → Int) : ∀ n, ∃ K, StepAt L U n K := by
  have h : ∀ n m, m ≤ n → (∃ K, StepAt L U n K) ∨ ∀ j, j < m → (failsV L (U (j + 1))).2 = 0 := by
    intro n m
    induction m with
    | zero => exact fun _ => .inr fun j hj => by omega
    | succ m ih =>
      intro hm
      rcases ih (by omega) with h | h
      · exact .inl h
      · by_cases hc : (failsV L (U (m + 1))).2 = 0
        · refine .inr fun j hj => ?_
          by_cases e : j = m
          · rw [e]; exact hc
          · exact h j (by omega)
        · exact .inl ⟨m, by omega, h, fun _ => hc⟩
  intro n
  rcases h n n (Nat.le_refl _) with h | h
  · exact h
  · exact ⟨n, Nat.le_refl _, h, fun h => by omega⟩
/-- What Steps returns. -/
def stepR (L : Nat → Int) (U : Nat → Nat → Int) (n K : Nat) : Ending :=
  if K < n then .returned (.tuple #[.agg (bk zf zf), .int .i64 K, .int .i64 (failsV L (U (K + 1))).2]) else .returned (.tuple #[.agg (bk L (U n)), .int .i64 (-1), .int .i64 0])

theorem drew_heap (W : World) : W.drew.heap = W.heap := rfl
theorem push6 (w : World) (o1 o2 o3 o4 o5 o6 : Obj) :
    (∀ x, x < w.heap.size → ((((((w.alloc o1).alloc o2).alloc o3).alloc o4).alloc o5).alloc o6).heap[x]? = w.heap[x]?) ∧ ((((((w.alloc o1).alloc o2).alloc o3).alloc o4).alloc o5).alloc o6).heap[w.heap.size]? = some o1 ∧
    ((((((w.alloc o1).alloc o2).alloc o3).alloc o4).alloc o5).alloc o6).heap[w.heap.size + 1]? = some o2 ∧ ((((((w.alloc o1).alloc o2).alloc o3).alloc o4).alloc o5).alloc o6).heap[w.heap.size + 2]? = some o3 ∧
    ((((((w.alloc o1).alloc o2).alloc o3).alloc o4).alloc o5).alloc o6).heap[w.heap.size + 3]? = some o4 ∧ ((((((w.alloc o1).alloc o2).alloc o3).alloc o4).alloc o5).alloc o6).heap[w.heap.size + 4]? = some o5 ∧
    ((((((w.alloc o1).alloc o2).alloc o3).alloc o4).alloc o5).alloc o6).heap[w.heap.size + 5]? = some o6 := by
  have e : ((((((w.alloc o1).alloc o2).alloc o3).alloc o4).alloc o5).alloc o6).heap = (((((w.heap.push o1).push o2).push o3).push o4).push o5).push o6 := rfl
  rw [e]
  refine ⟨fun x hx => ?_, ?_, ?_, ?_, ?_, ?_, ?_⟩
  · simp only [Array.getElem?_push, Array.size_push]
    rw [if_neg (by omega), if_neg (by omega), if_neg (by omega), if_neg (by omega), if_neg (by omega), if_neg (by omega)]
  · simp only [Array.getElem?_push, Array.size_push]
    rw [if_neg (by omega), if_neg (by omega), if_neg (by omega), if_neg (by omega), if_neg (by omega), if_pos trivial]
  · simp only [Array.getElem?_push, Array.size_push]
    rw [if_neg (by omega), if_neg (by omega), if_neg (by omega), if_neg (by omega), if_pos trivial]
  · simp only [Array.getElem?_push, Array.size_push]
    rw [if_neg (by omega), if_neg (by omega), if_neg (by omega), if_pos trivial]
  · simp only [Array.getElem?_push, Array.size_push]
    rw [if_neg (by omega), if_neg (by omega), if_pos trivial]
  · simp only [Array.getElem?_push, Array.size_push]
    rw [if_neg (by omega), if_pos trivial]
  · simp only [Array.getElem?_push, Array.size_push]
    rw [if_pos trivial]

set_option maxRecDepth 100000 in
set_option maxHeartbeats 1000000 in
theorem steps_yes (L U0 : Nat → Int) (v : Value) (cs : List (Int × Int)) (K : Nat) (hK : StepAt L (useK U0 cs) cs.length K) (w : World) (hs : SrcC w v cs) (hc : bothV L U0 cs = 0) : Calls Try.prog 13 #[.agg (bk L U0), v] w fun e w' =>
    e = stepR L (useK U0 cs) cs.length K ∧ Below w.heap.size w w' := by
  obtain ⟨hrt, hck⟩ := both_ok hc
  obtain ⟨hlen, hok⟩ := chk_ok hck
  obtain ⟨a, c, rfl⟩ := hs.shape
  have HS := Hd.mk hs
  have HC := Hd.mk hc
  have HOK := Hd.mk hok
  have HK := Hd.mk hK
  obtain ⟨U, hU⟩ : ∃ U, U = useK U0 cs := ⟨_, rfl⟩
  have HUS : Hd (∀ k (h : k < cs.length) (j : Nat), j < 4 → cs[k].1 = j → upd (U k) j (U k j + cs[k].2) = U (k + 1)) := ⟨by rw [hU]; exact useK_step U0 cs⟩
  have HUB : Hd (∀ k j, k ≤ cs.length → j < 4 → -9007199254740992 ≤ U k j ∧ U k j ≤ 9007199254740992) := ⟨by rw [hU]; exact useK_bound U0 cs HOK.out hlen (fun j hj => by have := right_iff.1 hrt j hj; omega)⟩
  have HU0 : Hd (U0 = U 0) := ⟨by rw [hU, useK_zero]⟩
  rw [← hU] at HK ⊢
  clear hU hs hc hok hrt hck hK
  have HW0 : Hd (Below w.heap.size w ((w.alloc (.cells (bk L U0) 27)).alloc (.cells (bk zf zf) 27))) := ⟨((Below.refl _ _).alloc (Nat.le_refl _) _).alloc (by simp) _⟩
  refine (callsIn_wide (n := 0)).1 ?_
  refine callsIn_of_wp_marks Try.func13 rfl trivial ?_
  simp only [Try.ntmps13, List.size_toArray, List.length_cons, List.length_nil, Nat.reduceAdd, Nat.reduceSub, Array.replicate_succ, Array.replicate_zero, List.push_toArray, List.append_toArray, List.nil_append, List.cons_append]
  gi_wp2_with fail
  refine wpIn_scope_straight ?_
  gi_wp2_with (refine wpListIn_load_row rfl 27 _ rfl _ rfl 27 (bk L U0) (0, 0) _ ((Below.heap_alloc _ _ _ (by simp)).trans (World.alloc_heap_new w _)) Try.underlying27 rfl (by kernel_rfl) ?_)
  refine (callsIn_wide.2 (both_any L U0 _ cs _ (HS.out.below HW0.out))).mono ?_
  rintro e w1 ⟨rfl, hB⟩
  rw [HC.out]
  have hb0 : w1.heap[w.heap.size]? = some (.cells (bk L U0) 27 (0, 0)) := (hB.block _ (by simp; omega)).trans ((Below.heap_alloc _ _ _ (by simp)).trans (World.alloc_heap_new w _))
  have hb1 : w1.heap[w.heap.size + 1]? = some (.cells (bk zf zf) 27 (0, 0)) := (hB.block _ (by simp)).trans (two_new w _ _)
  have HB1 := Hd.mk (HW0.out.trans (hB.mono (by simp; omega)))
  have HZ : Hd (w.heap.size + 2 ≤ w1.heap.size) := ⟨by have := hB.size; simp at this; omega⟩
  have hne1 : w.heap.size < w1.heap.size := by have := HZ.out; omega
  obtain ⟨⟨-, -, -, -, d4, d5, d6, d7⟩, -⟩ := bk_cells hb0
  have HBk0 := Hd.mk hb0
  have HBk1 := Hd.mk hb1
  have hw1b := (((Below.refl w1.heap.size w1).alloc (Nat.le_refl _) (.cells #[.int .i64 (-1)] 3)).alloc (by simp) (.cells #[.int .i64 0] 33))
  have d4' := (hw1b.cell (p := ⟨w.heap.size, 4, none⟩) hne1).trans d4
  have d5' := (hw1b.cell (p := ⟨w.heap.size, 5, none⟩) hne1).trans d5
  have d6' := (hw1b.cell (p := ⟨w.heap.size, 6, none⟩) hne1).trans d6
  have d7' := (hw1b.cell (p := ⟨w.heap.size, 7, none⟩) hne1).trans d7
  clear hb0 hb1 hB HW0 hw1b
  gi_wp2_with fail
  refine wpIn_label ?_
  gi_wp2_with fail
  refine (callsIn_wide.2 (way_any U0 _ _ _ _)).mono ?_
  rintro e w2 ⟨rfl, rfl⟩
  gi_wp2_with fail
  refine range_enter 44 #[.pointer (some ⟨w1.heap.size + 3, 0, none⟩), .pointer (some ⟨w1.heap.size + 2, 0, none⟩)] rfl (enters_of Try.func44 (by kernel_rfl) rfl) ?_
  intro r hr
  simp only [World.size_alloc]
  have H0 : StepI w w1 (.slice a cs.length c) r L U 0 0 ((((((w1.alloc (.cells #[.int .i64 (-1)] 3)).alloc (.cells #[.int .i64 0] 33)).alloc (.cells (ar U0) 25)).alloc (.cells #[.slice a cs.length c] 28)).alloc (.deferred (some []))).alloc (.loop r)) := by
    have hz := HZ.out
    obtain ⟨p0, p1, p2, p3, p4, p5, p6⟩ := push6 w1 (.cells #[.int .i64 (-1)] 3) (.cells #[.int .i64 0] 33) (.cells (ar U0) 25) (.cells #[.slice a cs.length c] 28) (.deferred (some [])) (.loop r)
    exact ⟨by rw [← HU0.out]; exact (p0 _ (by omega)).trans HBk0.out, (p0 _ (by omega)).trans HBk1.out, p1, p2, by rw [← HU0.out]; exact p3, p4, p5, p6,
      (((((HB1.out.alloc (by omega) _).alloc (by simp; omega) _).alloc (by simp; omega) _).alloc (by simp; omega) _).alloc (by simp; omega) _).alloc (by simp; omega) _⟩
  refine (way1 (w1.heap.size + 2) (w1.heap.size + 3) (w1.heap.size + 5) a c cs U (fun k W => StepI w w1 (.slice a cs.length c) r L U k k W ∧ k ≤ K) (fun W => StepJ w w1 r K (failsV L (U (K + 1))).2 0 W ∧ K < cs.length)
    (fun k W h => ⟨h.1.use, h.1.box, HS.out.below h.1.bel⟩) HOK.out hlen HUB.out HUS.out ?_ _ ⟨H0, Nat.zero_le _⟩).mono ?_
  · intro k W W' hk ⟨hI, hkK⟩ hg hG
    have hI' := hI.grown HZ.out hg hG
    simp only [ar]
    refine yield_at hr hI'.lp rfl ?_
    have HI := Hd.mk hI'
    have hz := HZ.out
    have hlp := lt_of_heap hI'.lp
    obtain ⟨Wa, hWa⟩ : ∃ Wa, Wa = W'.alloc (.cells #[.int .i64 (U (k + 1) 0), .int .i64 (U (k + 1) 1), .int .i64 (U (k + 1) 2), .int .i64 (U (k + 1) 3)] 25) := ⟨_, rfl⟩
    have hal : ∀ x, x < W'.heap.size → Wa.heap[x]? = W'.heap[x]? := fun x hx => by rw [hWa]; exact Below.heap_alloc _ _ _ hx
    have hl : Wa.heap[w1.heap.size + 5]? = some (.loop r) := (hal _ hlp).trans hI'.lp
    have hbz : (busyW Wa (w1.heap.size + 5) r).heap[w1.heap.size + 5]? = some (.loop { r with state := .busy }) := World.putObj_heap_same (lt_of_heap hl)
    have hbu : ∀ x, x < W'.heap.size → x ≠ w1.heap.size + 5 → (busyW Wa (w1.heap.size + 5) r).heap[x]? = W'.heap[x]? := fun x hx hne => (World.putObj_heap_other (by omega)).trans (hal x hx)
    have hn : (busyW Wa (w1.heap.size + 5) r).heap[W'.heap.size]? = some (.cells (ar (U (k + 1))) 25 (0, 0)) :=
      (World.putObj_heap_other (by omega)).trans (by rw [hWa]; exact World.alloc_heap_new _ _)
    have hbel : Below w.heap.size w (busyW Wa (w1.heap.size + 5) r) := putObj_below (by rw [hWa]; exact hI'.bel.alloc hI'.bel.size _) (by omega)
    have HL := Hd.mk hl
    have HBZ := Hd.mk hbz
    have HBU := Hd.mk hbu
    have HNEW := Hd.mk hn
    have HBEL := Hd.mk hbel
    have HWA := Hd.mk hWa
    clear hI hI' hg hG hn hl hWa d4 d5 d6 d7 d4' d5' d6' d7' hlp hal hbu hbel hbz
    gi_wp2_with fail
    rw [← HWA.out]
    refine ⟨HL.out, ?_⟩
    obtain ⟨Wb, hWb⟩ : ∃ Wb, Wb = busyW Wa (w1.heap.size + 5) r := ⟨_, rfl⟩
    rw [← hWb] at HBU HBZ HNEW HBEL ⊢
    have hbook := (HBU.out _ (lt_of_heap HI.out.book) (by omega)).trans HI.out.book
    have HBOOK := Hd.mk hbook
    obtain ⟨⟨c0, c1, c2, c3, c4, c5, c6, c7⟩, ⟨f0, f1, f2, f3, f4, f5, f6, f7⟩⟩ := bk_cells hbook
    obtain ⟨⟨e0, e1, e2, e3⟩, -⟩ := ar_cells HNEW.out
    clear hWb HL HWA f0 f1 f2 f3 hbook
    gi_wp2_with fail
    refine (callsIn_wide.2 (fails_any L (U (k + 1)) _)).mono ?_
    rintro e w5 ⟨rfl, hB5⟩
    have hzB : Wb.heap.size = (set4u Wb w.heap.size (U (k + 1))).heap.size := (set4u_size _).symm
    have hm : ∀ x, x < W'.heap.size → x ≠ w1.heap.size + 5 → x ≠ w.heap.size → w5.heap[x]? = W'.heap[x]? := fun x hx h1 h2 =>
      (hB5.block x (by
        have h3 := HBU.out x hx h1
        have h4 : W'.heap[x]? = some W'.heap[x] := Array.getElem?_eq_getElem hx
        rw [← hzB]; exact lt_of_heap (h3.trans h4))).trans ((set4u_other _ h2).trans (HBU.out x hx h1))
    have hT : w5.heap[w.heap.size]? = some (.cells (bk L (U (k + 1))) 27 (0, 0)) := (hB5.block _ (by rw [← hzB]; exact lt_of_heap HBOOK.out)).trans (bk_setuse _ HBOOK.out)
    have hl5 : w5.heap[w1.heap.size + 5]? = some (.loop { r with state := .busy }) := (hB5.block _ (by rw [← hzB]; exact lt_of_heap HBZ.out)).trans ((set4u_other _ (by omega)).trans HBZ.out)
    have hbel5 : Below w.heap.size w w5 := (set4_below HBEL.out (.int .i64 (U (k + 1) 0)) (.int .i64 (U (k + 1) 1)) (.int .i64 (U (k + 1) 2)) (.int .i64 (U (k + 1) 3)) 4 5 6 7 (Nat.le_refl _)).trans (hB5.mono (set4_below HBEL.out (.int .i64 (U (k + 1) 0)) (.int .i64 (U (k + 1) 1)) (.int .i64 (U (k + 1) 2)) (.int .i64 (U (k + 1) 3)) 4 5 6 7 (Nat.le_refl _)).size)
    have her := (hm _ (lt_of_heap HI.out.er) (by omega) (by omega)).trans HI.out.er
    have hat := (hm _ (lt_of_heap HI.out.at_) (by omega) (by omega)).trans HI.out.at_
    have HER := Hd.mk her
    have HAT := Hd.mk hat
    have HM := Hd.mk hm
    have HT := Hd.mk hT
    have HL5 := Hd.mk hl5
    have HBEL5 := Hd.mk hbel5
    have hec := cells_cell her 0
    have hef := cells_free her 0
    have hac := cells_cell hat 0
    have haf := cells_free hat 0
    clear c0 c1 c2 c3 c4 c5 c6 c7 f4 f5 f6 f7 e0 e1 e2 e3 hB5 hzB hm hT hl5 hbel5 her hat HBU HBZ HNEW HBEL HBOOK
    by_cases hkK2 : k < K
    · have hok0 := HK.out.ok k hkK2
      rw [hok0]
      clear hok0
      gi_wp2_with fail
      have hl6 := (Below.heap_setCell w5 ⟨w1.heap.size + 1, 0, none⟩ (.int .i64 0) (w1.heap.size + 5) (by simp)).trans HL5.out
      refine ⟨hl6, .inl ⟨rfl, ?_, by omega⟩⟩
      refine HI.out.fin hz _ (fun x hx h1 h2 => ?_) ((Below.heap_setCell _ _ _ _ (by simp; omega)).trans HT.out) hl6 (HBEL5.out.setCell (by simp; omega) _)
      by_cases e : x = w1.heap.size + 1
      · rw [e, cells_set HER.out]; exact HI.out.er.symm
      · exact (Below.heap_setCell _ _ _ _ (by simpa using e)).trans (HM.out x hx h1 h2)
    · obtain rfl : k = K := by omega
      have hbad := HK.out.bad hk
      obtain ⟨er, her⟩ : ∃ e, (failsV L (U (k + 1))).2 = e := ⟨_, rfl⟩
      rw [her] at hbad ⊢
      have HE := Hd.mk her
      clear her
      gi_wp2_with fail
      have o1 : ∀ x, x ≠ w1.heap.size → x ≠ w1.heap.size + 1 → ((w5.setCell ⟨w1.heap.size + 1, 0, none⟩ (.int .i64 er)).setCell ⟨w1.heap.size, 0, none⟩ (.int .i64 k)).heap[x]? = w5.heap[x]? := fun x h1 h2 =>
        (Below.heap_setCell _ _ _ _ (by simpa using h1)).trans (Below.heap_setCell _ _ _ _ (by simpa using h2))
      have hl6 := (o1 (w1.heap.size + 5) (by omega) (by omega)).trans HL5.out
      refine ⟨hl6, .inr ⟨rfl, ⟨?_, ?_, ?_, ?_, ?_, ?_⟩, hk⟩⟩
      · exact (World.putObj_heap_other (by omega)).trans ((o1 _ (by omega) (by omega)).trans ((HM.out _ (lt_of_heap HI.out.res) (by omega) (by omega)).trans HI.out.res))
      · exact (World.putObj_heap_other (by omega)).trans (cells_set ((Below.heap_setCell _ _ _ _ (by simp)).trans HAT.out) _)
      · rw [HE.out]
        exact (World.putObj_heap_other (by omega)).trans ((Below.heap_setCell _ _ _ _ (by simp)).trans (cells_set HER.out _))
      · exact (World.putObj_heap_other (by omega)).trans ((o1 _ (by omega) (by omega)).trans ((HM.out _ (lt_of_heap HI.out.dfr) (by omega) (by omega)).trans HI.out.dfr))
      · exact World.putObj_heap_same (lt_of_heap hl6)
      · exact putObj_below ((HBEL5.out.setCell (by simp; omega) _).setCell (by simp; omega) _) (by omega)
  · rintro e W ⟨hv, ⟨hW, hKn⟩ | ⟨hW, hKn⟩⟩
    · refine ⟨hv, .ready, none, by simp, ?_, ?_⟩
      · rw [hW.lp, hr.same]
      · obtain rfl : K = cs.length := by have := HK.out.le; omega
        have hz := HZ.out
        have HR : Hd (stepR L U cs.length cs.length = .returned (.tuple #[.agg (bk L (U cs.length)), .int .i64 (-1), .int .i64 0])) := ⟨by rw [stepR, if_neg (Nat.lt_irrefl _)]⟩
        have ho : (W.putObj (w1.heap.size + 5) (.loop { r with state := .exhausted, pending := none })).heap[w.heap.size]? = some (.cells (bk L (U cs.length)) 27 (0, 0)) := (World.putObj_heap_other (by omega)).trans hW.book
        have hre : (W.putObj (w1.heap.size + 5) (.loop { r with state := .exhausted, pending := none })).heap[w.heap.size + 1]? = some (.cells (bk zf zf) 27 (0, 0)) := (World.putObj_heap_other (by omega)).trans hW.res
        have her : (W.putObj (w1.heap.size + 5) (.loop { r with state := .exhausted, pending := none })).heap[w1.heap.size + 1]? = some (.cells #[.int .i64 0] 33 (0, 0)) := (World.putObj_heap_other (by omega)).trans hW.er
        have hD : (W.putObj (w1.heap.size + 5) (.loop { r with state := .exhausted, pending := none })).heap[w1.heap.size + 4]? = some (.deferred (some [])) := (World.putObj_heap_other (by omega)).trans hW.dfr
        have hB : Below w.heap.size w (W.putObj (w1.heap.size + 5) (.loop { r with state := .exhausted, pending := none })) := putObj_below hW.bel (by omega)
        generalize W.putObj (w1.heap.size + 5) (.loop { r with state := .exhausted, pending := none }) = W2 at ho hre her hD hB ⊢
        obtain ⟨⟨c0, c1, c2, c3, c4, c5, c6, c7⟩, -⟩ := bk_cells ho
        obtain ⟨⟨e0, e1, e2, e3, e4, e5, e6, e7⟩, ⟨f0, f1, f2, f3, f4, f5, f6, f7⟩⟩ := bk_cells hre
        have hec := cells_cell her 0
        have HRE := Hd.mk hre
        have HB := Hd.mk hB
        have HD := Hd.mk hD
        clear ho hre her d4 d5 d6 d7 d4' d5' d6' d7' hB hW hD
        simp only [Act.marked]
        gi_wp2_with fail
        have hres := bk_setall L (U cs.length) HRE.out
        have hD' := (set8_other L (U cs.length) (g := w.heap.size + 1) (x := w1.heap.size + 4) (W := W2) (by omega)).trans HD.out
        refine ⟨by simp, .inl ⟨_, _, rfl, run_takeDeferred hD', ?_⟩⟩
        refine ⟨_, results_cell_row3 Try.results13 _ _ _ 27 (bk L (U cs.length)) (0, 0) _ rfl ((World.putObj_heap_other (by omega)).trans hres) Try.underlying27 rfl (by kernel_rfl), HR.out.symm, putObj_below (set8_below HB.out L (U cs.length) (by omega)) (by omega)⟩
    · refine ⟨hv, .done, some (.exit 0), by simp, hW.lp, ?_⟩
      show (Code.exit 0).wpIn Fence.wide 0 Try.prog _ _ (W.putObj (w1.heap.size + 5) (.loop { r with state := .exhausted, pending := some (.exit 0) }))
      have hz := HZ.out
      have HR : Hd (stepR L U cs.length K = .returned (.tuple #[.agg (bk zf zf), .int .i64 K, .int .i64 (failsV L (U (K + 1))).2])) := ⟨by rw [stepR, if_pos hKn]⟩
      have hbad := HK.out.bad hKn
      have hre : (W.putObj (w1.heap.size + 5) (.loop { r with state := .exhausted, pending := some (.exit 0) })).heap[w.heap.size + 1]? = some (.cells (bk zf zf) 27 (0, 0)) := (World.putObj_heap_other (by omega)).trans hW.res
      have hat : (W.putObj (w1.heap.size + 5) (.loop { r with state := .exhausted, pending := some (.exit 0) })).heap[w1.heap.size]? = some (.cells #[.int .i64 K] 3 (0, 0)) := (World.putObj_heap_other (by omega)).trans hW.at_
      have her : (W.putObj (w1.heap.size + 5) (.loop { r with state := .exhausted, pending := some (.exit 0) })).heap[w1.heap.size + 1]? = some (.cells #[.int .i64 (failsV L (U (K + 1))).2] 33 (0, 0)) := (World.putObj_heap_other (by omega)).trans hW.er
      have hD : (W.putObj (w1.heap.size + 5) (.loop { r with state := .exhausted, pending := some (.exit 0) })).heap[w1.heap.size + 4]? = some (.deferred (some [])) := (World.putObj_heap_other (by omega)).trans hW.dfr
      have hB : Below w.heap.size w (W.putObj (w1.heap.size + 5) (.loop { r with state := .exhausted, pending := some (.exit 0) })) := putObj_below hW.bel (by omega)
      generalize W.putObj (w1.heap.size + 5) (.loop { r with state := .exhausted, pending := some (.exit 0) }) = W2 at hre hat her hD hB ⊢
      obtain ⟨er, her'⟩ : ∃ e, (failsV L (U (K + 1))).2 = e := ⟨_, rfl⟩
      rw [her'] at hbad HR her
      obtain ⟨⟨e0, e1, e2, e3, e4, e5, e6, e7⟩, ⟨f0, f1, f2, f3, f4, f5, f6, f7⟩⟩ := bk_cells hre
      have hec := cells_cell her 0
      have hac := cells_cell hat 0
      have HRE := Hd.mk hre
      have HB := Hd.mk hB
      have HD := Hd.mk hD
      clear hre her hat her' d4 d5 d6 d7 d4' d5' d6' d7' hB hW hD
      simp only [Act.marked]
      gi_wp2_with fail
      gi_region
      gi_wp2_with fail
      rw [Exit.noGoto_ret]
      have hres : (set8 W2 (w.heap.size + 1) zf zf).drew.heap[w.heap.size + 1]? = some (.cells (bk zf zf) 27 (0, 0)) := by rw [drew_heap]; exact bk_setall zf zf HRE.out
      have hD' : (set8 W2 (w.heap.size + 1) zf zf).drew.heap[w1.heap.size + 4]? = some (.deferred (some [])) := by rw [drew_heap]; exact (set8_other zf zf (g := w.heap.size + 1) (x := w1.heap.size + 4) (W := W2) (by omega)).trans HD.out
      have hB' : Below w.heap.size w (set8 W2 (w.heap.size + 1) zf zf).drew := (set8_below HB.out zf zf (by omega)).drew
      refine ⟨by simp, .inl ⟨_, _, rfl, run_takeDeferred hD', ?_⟩⟩
      refine ⟨_, results_cell_row3 Try.results13 _ _ _ 27 (bk zf zf) (0, 0) _ rfl ((World.putObj_heap_other (by omega)).trans hres) Try.underlying27 rfl (by kernel_rfl), HR.out.symm, putObj_below hB' (by omega)⟩
end Go.Proofs.Ytppfhcocmpmadaa
