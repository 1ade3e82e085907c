/- Walk of quota.Peak. -/
import Derived.Test.YtppfhcocmpmadaaA8
import Derived.LoopIn
namespace Go.Proofs.Ytppfhcocmpmadaa
open Go.RowKit Go.Shelf
attribute [local go_sem] Oper.semAt_some
set_option linter.unusedVariables false

/-- The greatest numbers on the way. -/
def peakK (U : Nat → Nat → Int) : Nat → Nat → Int
  | 0 => U 0
  | k + 1 => fun j => max (peakK U k j) (U (k + 1) j)
def mx (p q : Nat → Int) (m : Nat) : Nat → Int := fun j => if j < m then max (p j) (q j) else p j
theorem mx_step (p q : Nat → Int) (m : Nat) : upd (mx p q m) m (max (p m) (q m)) = mx p q (m + 1) := by
  funext j
  unfold upd mx
  by_cases e : j = m
  · rw [if_pos e, if_pos (by omega), e]
  · rw [if_neg e]
    by_cases h : j < m
    · rw [if_pos h, if_pos (by omega)]
    · rw [if_neg h, if_neg (by omega)]
theorem mx_zero (p q : Nat → Int) : mx p q 0 = p := by funext j; simp [mx]
theorem ar_congr {f g : Nat → Int} (h : ∀ j, j < 4 → f j = g j) : ar f = ar g := by
  simp [ar, h 0 (by decide), h 1 (by decide), h 2 (by decide), h 3 (by decide)]
theorem mx_four (p q : Nat → Int) : ar (mx p q 4) = ar (fun j => max (p j) (q j)) := ar_congr fun j hj => by simp [mx, hj]
theorem index_ar (f : Nat → Int) (m : Nat) (h : m < 4) (W : World) : (Instr.index 25 (.agg #[.int .i64 (f 0), .int .i64 (f 1), .int .i64 (f 2), .int .i64 (f 3)]) (.int .i64 m)).run Try.prog W = .ok (.int .i64 (f m)) W := by
  have : m = 0 ∨ m = 1 ∨ m = 2 ∨ m = 3 := by omega
  rcases this with rfl | rfl | rfl | rfl <;> (show _ = _; kernel_rfl)

/-- What stands in Peak's loop. -/
structure PeakI (w : World) (w1 : World) (l : Value) (r : Loop) (L : Nat → Int) (U0 : Nat → Int) (U : Nat → Nat → Int) (P : Nat → Nat → Int) (j k : Nat) (W : World) : Prop where
  book : W.heap[w.heap.size]? = some (.cells (bk L U0) 27 (0, 0))
  res : W.heap[w.heap.size + 1]? = some (.cells (ar zf) 25 (0, 0))
  out : W.heap[w1.heap.size]? = some (.cells (ar (P j)) 25 (0, 0))
  use : W.heap[w1.heap.size + 1]? = some (.cells (ar (U k)) 25 (0, 0))
  box : W.heap[w1.heap.size + 2]? = some (.cells #[l] 28 (0, 0))
  dfr : W.heap[w1.heap.size + 3]? = some (.deferred (some []))
  lp : W.heap[w1.heap.size + 4]? = some (.loop r)
  bel : Below w.heap.size w W
theorem PeakI.grown {w : World} {w1 : World} {l : Value} {r : Loop} {L : Nat → Int} {U0 : Nat → Int} {U : Nat → Nat → Int} {P : Nat → Nat → Int} {j k : Nat} {W W' : World} (h : PeakI w w1 l r L U0 U P j k W) (hz : w.heap.size + 2 ≤ w1.heap.size) (hg : W.grownBy W' (some (w1.heap.size + 1)))
    (hG : W'.heap[w1.heap.size + 1]? = some (.cells (ar (U (k + 1))) 25 (0, 0))) : PeakI w w1 l r L U0 U P j (k + 1) W' := by
  have mv : ∀ {g : Nat} {o : Obj}, W.heap[g]? = some o → g ≠ w1.heap.size + 1 → W'.heap[g]? = some o := fun h hne => (hg.block _ (lt_of_heap h) (by simpa using hne)).trans h
  exact ⟨mv h.book (by omega), mv h.res (by omega), mv h.out (by omega), hG, mv h.box (by omega), mv h.dfr (by omega), mv h.lp (by omega), h.bel.trans ⟨hg.os, hg.tape, hg.output, hg.size, fun i hi => hg.block i (Nat.lt_of_lt_of_le hi h.bel.size) (by simp; omega)⟩⟩
theorem PeakI.fin {w : World} {w1 : World} {l : Value} {r : Loop} {L : Nat → Int} {U0 : Nat → Int} {U : Nat → Nat → Int} {P : Nat → Nat → Int} {k : Nat} {W : World} (h : PeakI w w1 l r L U0 U P k (k + 1) W) (hz : w.heap.size + 2 ≤ w1.heap.size) (W3 : World) (ho : ∀ x, x < W.heap.size → x ≠ w1.heap.size + 4 → x ≠ w1.heap.size → W3.heap[x]? = W.heap[x]?)
    (hT : W3.heap[w1.heap.size]? = some (.cells (ar (P (k + 1))) 25 (0, 0))) (hl : W3.heap[w1.heap.size + 4]? = some (.loop { r with state := .busy })) (hb : Below w.heap.size w W3) : PeakI w w1 l r L U0 U P (k + 1) (k + 1) (readyW W3 (w1.heap.size + 4) r) := by
  have hm : ∀ x, x < W.heap.size → x ≠ w1.heap.size + 4 → x ≠ w1.heap.size → (readyW W3 (w1.heap.size + 4) r).heap[x]? = W.heap[x]? := fun x hx h1 h2 => (World.putObj_heap_other (by omega)).trans (ho x hx h1 h2)
  exact ⟨(hm _ (lt_of_heap h.book) (by omega) (by omega)).trans h.book,
    (hm _ (lt_of_heap h.res) (by omega) (by omega)).trans h.res,
    (World.putObj_heap_other (by omega)).trans hT,
    (hm _ (lt_of_heap h.use) (by omega) (by omega)).trans h.use,
    (hm _ (lt_of_heap h.box) (by omega) (by omega)).trans h.box,
    (hm _ (lt_of_heap h.dfr) (by omega) (by omega)).trans h.dfr,
    World.putObj_heap_same (lt_of_heap hl),
    putObj_below hb (by omega)⟩

set_option maxRecDepth 100000 in
set_option maxHeartbeats 4000000 in
theorem peak_no (L U : Nat → Int) (v : Value) (cs : List (Int × Int)) (w : World) (hs : SrcC w v cs) (hc : ¬ bothV L U cs = 0) : Calls Try.prog 14 #[.agg (bk L U), v] w fun e w' => e = .returned (.tuple #[.agg (ar zf), .int .i64 (bothV L U cs)]) ∧ Below w.heap.size w w' := by
  have HS := Hd.mk hs
  obtain ⟨n, hn⟩ : ∃ n, bothV L U cs = n := ⟨_, rfl⟩
  rw [hn] at hc ⊢
  have HN := Hd.mk hn
  clear hs hn
  have HW0 : Hd (Below w.heap.size w ((w.alloc (.cells (bk L U) 27)).alloc (.cells (ar zf) 25))) := ⟨((Below.refl _ _).alloc (Nat.le_refl _) _).alloc (by simp) _⟩
  go_enter Try.func14, Try.ntmps14
  go_wp2_with (refine wpList_load_row rfl 27 _ rfl _ rfl 27 (bk L U) (0, 0) _ ((Below.heap_alloc _ _ _ (by simp)).trans (World.alloc_heap_new w _)) Try.underlying27 rfl (by kernel_rfl) ?_)
  refine (both_any L U v cs _ (HS.out.below HW0.out)).mono ?_
  rintro e w1 ⟨rfl, hB⟩
  rw [HN.out]
  have hb1 : w1.heap[w.heap.size + 1]? = some (.cells (ar zf) 25 (0, 0)) := (hB.block _ (by simp)).trans (two_new w _ _)
  have HB1 := Hd.mk (HW0.out.trans (hB.mono (by simp; omega)))
  obtain ⟨⟨c0, c1, c2, c3⟩, ⟨f0, f1, f2, f3⟩⟩ := ar_cells hb1
  have HB0 := Hd.mk hb1
  clear hb1 hB
  go_wp2_with fail
  refine bodyPost_ret (results_cell_row2 Try.results14 _ _ _ 25 (ar zf) (0, 0) _ rfl ?_ Try.underlying25 rfl (by kernel_rfl)) rfl ?_
  · exact cells_set (cells_set (cells_set (cells_set (HB0.out) _) _) _) _
  · exact ⟨rfl, ((((HB1.out).setCell (by simp) _).setCell (by simp) _).setCell (by simp) _).setCell (by simp) _⟩

theorem push5 (w : World) (o1 o2 o3 o4 o5 : Obj) :
    (∀ x, x < w.heap.size → (((((w.alloc o1).alloc o2).alloc o3).alloc o4).alloc o5).heap[x]? = w.heap[x]?) ∧ (((((w.alloc o1).alloc o2).alloc o3).alloc o4).alloc o5).heap[w.heap.size]? = some o1 ∧
    (((((w.alloc o1).alloc o2).alloc o3).alloc o4).alloc o5).heap[w.heap.size + 1]? = some o2 ∧ (((((w.alloc o1).alloc o2).alloc o3).alloc o4).alloc o5).heap[w.heap.size + 2]? = some o3 ∧
    (((((w.alloc o1).alloc o2).alloc o3).alloc o4).alloc o5).heap[w.heap.size + 3]? = some o4 ∧ (((((w.alloc o1).alloc o2).alloc o3).alloc o4).alloc o5).heap[w.heap.size + 4]? = some o5 := by
  have e : (((((w.alloc o1).alloc o2).alloc o3).alloc o4).alloc o5).heap = ((((w.heap.push o1).push o2).push o3).push o4).push o5 := rfl
  rw [e]
  refine ⟨fun x hx => ?_, ?_, ?_, ?_, ?_, ?_⟩
  · simp only [Array.getElem?_push, Array.size_push]
    rw [if_neg (by omega), if_neg (by omega), if_neg (by omega), if_neg (by omega), if_neg (by omega)]
  · simp only [Array.getElem?_push, Array.size_push]
    rw [if_neg (by omega), if_neg (by omega), if_neg (by omega), if_neg (by omega), if_pos trivial]
  · simp only [Array.getElem?_push, Array.size_push]
    rw [if_neg (by omega), if_neg (by omega), if_neg (by omega), if_pos trivial]
  · simp only [Array.getElem?_push, Array.size_push]
    rw [if_neg (by omega), if_neg (by omega), if_pos trivial]
  · simp only [Array.getElem?_push, Array.size_push]
    rw [if_neg (by omega), if_pos trivial]
  · simp only [Array.getElem?_push, Array.size_push]
    rw [if_pos trivial]

set_option maxRecDepth 100000 in
set_option maxHeartbeats 1000000 in
theorem peak_yes (L U0 : Nat → Int) (v : Value) (cs : List (Int × Int)) (w : World) (hs : SrcC w v cs) (hc : bothV L U0 cs = 0) : Calls Try.prog 14 #[.agg (bk L U0), v] w fun e w' =>
    e = .returned (.tuple #[.agg (ar (peakK (useK U0 cs) cs.length)), .int .i64 0]) ∧ Below w.heap.size w w' := by
  obtain ⟨hrt, hck⟩ := both_ok hc
  obtain ⟨hlen, hok⟩ := chk_ok hck
  obtain ⟨a, c, rfl⟩ := hs.shape
  have HS := Hd.mk hs
  have HC := Hd.mk hc
  have HOK := Hd.mk hok
  obtain ⟨U, hU⟩ : ∃ U, U = useK U0 cs := ⟨_, rfl⟩
  have HUS : Hd (∀ k (h : k < cs.length) (j : Nat), j < 4 → cs[k].1 = j → upd (U k) j (U k j + cs[k].2) = U (k + 1)) := ⟨by rw [hU]; exact useK_step U0 cs⟩
  have HUB : Hd (∀ k j, k ≤ cs.length → j < 4 → -9007199254740992 ≤ U k j ∧ U k j ≤ 9007199254740992) := ⟨by rw [hU]; exact useK_bound U0 cs HOK.out hlen (fun j hj => by have := right_iff.1 hrt j hj; omega)⟩
  have HU0 : Hd (U0 = U 0) := ⟨by rw [hU, useK_zero]⟩
  rw [← hU]
  obtain ⟨P, hP⟩ : ∃ P, P = peakK U := ⟨_, rfl⟩
  have HP0 : Hd (U0 = P 0) := ⟨by rw [hP, peakK]; exact HU0.out⟩
  have HPS : Hd (∀ k, P (k + 1) = fun j => max (P k j) (U (k + 1) j)) := ⟨fun k => by rw [hP]; rfl⟩
  rw [← hP]
  clear hU hs hc hok hrt hck hP
  have HW0 : Hd (Below w.heap.size w ((w.alloc (.cells (bk L U0) 27)).alloc (.cells (ar zf) 25))) := ⟨((Below.refl _ _).alloc (Nat.le_refl _) _).alloc (by simp) _⟩
  refine (callsIn_wide (n := 0)).1 ?_
  refine callsIn_of_wp_marks Try.func14 rfl trivial ?_
  simp only [Try.ntmps14, List.size_toArray, List.length_cons, List.length_nil, Nat.reduceAdd, Nat.reduceSub, Array.replicate_succ, Array.replicate_zero, List.push_toArray, List.append_toArray, List.nil_append, List.cons_append]
  gi_wp2_with (refine wpListIn_load_row rfl 27 _ rfl _ rfl 27 (bk L U0) (0, 0) _ ((Below.heap_alloc _ _ _ (by simp)).trans (World.alloc_heap_new w _)) Try.underlying27 rfl (by kernel_rfl) ?_)
  refine (callsIn_wide.2 (both_any L U0 _ cs _ (HS.out.below HW0.out))).mono ?_
  rintro e w1 ⟨rfl, hB⟩
  rw [HC.out]
  have hb0 : w1.heap[w.heap.size]? = some (.cells (bk L U0) 27 (0, 0)) := (hB.block _ (by simp; omega)).trans ((Below.heap_alloc _ _ _ (by simp)).trans (World.alloc_heap_new w _))
  have hb1 : w1.heap[w.heap.size + 1]? = some (.cells (ar zf) 25 (0, 0)) := (hB.block _ (by simp)).trans (two_new w _ _)
  have HB1 := Hd.mk (HW0.out.trans (hB.mono (by simp; omega)))
  have HZ : Hd (w.heap.size + 2 ≤ w1.heap.size) := ⟨by have := hB.size; simp at this; omega⟩
  have hne1 : w.heap.size < w1.heap.size := by have := HZ.out; omega
  obtain ⟨⟨-, -, -, -, d4, d5, d6, d7⟩, -⟩ := bk_cells hb0
  have HBk0 := Hd.mk hb0
  have HBk1 := Hd.mk hb1
  have hw1b := (Below.refl w1.heap.size w1).alloc (Nat.le_refl _) (.cells #[.int .i64 (U0 0), .int .i64 (U0 1), .int .i64 (U0 2), .int .i64 (U0 3)] 25)
  have d4' := (hw1b.cell (p := ⟨w.heap.size, 4, none⟩) hne1).trans d4
  have d5' := (hw1b.cell (p := ⟨w.heap.size, 5, none⟩) hne1).trans d5
  have d6' := (hw1b.cell (p := ⟨w.heap.size, 6, none⟩) hne1).trans d6
  have d7' := (hw1b.cell (p := ⟨w.heap.size, 7, none⟩) hne1).trans d7
  clear hb0 hb1 hB HW0 hw1b
  gi_wp2_with fail
  refine (callsIn_wide.2 (way_any U0 _ _ _ _)).mono ?_
  rintro e w2 ⟨rfl, rfl⟩
  gi_wp2_with fail
  refine range_enter 44 #[.pointer (some ⟨w1.heap.size + 2, 0, none⟩), .pointer (some ⟨w1.heap.size + 1, 0, none⟩)] rfl (enters_of Try.func44 (by kernel_rfl) rfl) ?_
  intro r hr
  simp only [World.size_alloc]
  have H0 : PeakI w w1 (.slice a cs.length c) r L U0 U P 0 0 (((((w1.alloc (.cells (ar U0) 25)).alloc (.cells (ar U0) 25)).alloc (.cells #[.slice a cs.length c] 28)).alloc (.deferred (some []))).alloc (.loop r)) := by
    have hz := HZ.out
    obtain ⟨p0, p1, p2, p3, p4, p5⟩ := push5 w1 (.cells (ar U0) 25) (.cells (ar U0) 25) (.cells #[.slice a cs.length c] 28) (.deferred (some [])) (.loop r)
    exact ⟨(p0 _ (by omega)).trans HBk0.out, (p0 _ (by omega)).trans HBk1.out, by rw [← HP0.out]; exact p1, by rw [← HU0.out]; exact p2, p3, p4, p5,
      ((((HB1.out.alloc (by omega) _).alloc (by simp; omega) _).alloc (by simp; omega) _).alloc (by simp; omega) _).alloc (by simp; omega) _⟩
  refine (way1 (w1.heap.size + 1) (w1.heap.size + 2) (w1.heap.size + 4) a c cs U (fun k W => PeakI w w1 (.slice a cs.length c) r L U0 U P k k W) (fun _ => False)
    (fun k W h => ⟨h.use, h.box, HS.out.below h.bel⟩) HOK.out hlen HUB.out HUS.out ?_ _ H0).mono ?_
  · intro k W W' hk hI hg hG
    have hI' := hI.grown HZ.out hg hG
    simp only [ar]
    refine yield_at hr hI'.lp rfl ?_
    have HI := Hd.mk hI'
    have hz := HZ.out
    have hlp := lt_of_heap hI'.lp
    obtain ⟨Wa, hWa⟩ : ∃ Wa, Wa = W'.alloc (.cells #[.int .i64 (U (k + 1) 0), .int .i64 (U (k + 1) 1), .int .i64 (U (k + 1) 2), .int .i64 (U (k + 1) 3)] 25) := ⟨_, rfl⟩
    have hal : ∀ x, x < W'.heap.size → Wa.heap[x]? = W'.heap[x]? := fun x hx => by rw [hWa]; exact Below.heap_alloc _ _ _ hx
    have hl : Wa.heap[w1.heap.size + 4]? = some (.loop r) := (hal _ hlp).trans hI'.lp
    have hbz : (busyW Wa (w1.heap.size + 4) r).heap[w1.heap.size + 4]? = some (.loop { r with state := .busy }) := World.putObj_heap_same (lt_of_heap hl)
    have hbu : ∀ x, x < W'.heap.size → x ≠ w1.heap.size + 4 → (busyW Wa (w1.heap.size + 4) r).heap[x]? = W'.heap[x]? := fun x hx hne => (World.putObj_heap_other (by omega)).trans (hal x hx)
    have hn : (busyW Wa (w1.heap.size + 4) r).heap[W'.heap.size]? = some (.cells (ar (U (k + 1))) 25 (0, 0)) :=
      (World.putObj_heap_other (by omega)).trans (by rw [hWa]; exact World.alloc_heap_new _ _)
    have hbel : Below w.heap.size w (busyW Wa (w1.heap.size + 4) r) := putObj_below (by rw [hWa]; exact hI'.bel.alloc hI'.bel.size _) (by omega)
    have HL := Hd.mk hl
    have HBZ := Hd.mk hbz
    have HBU := Hd.mk hbu
    have HNEW := Hd.mk hn
    have HBEL := Hd.mk hbel
    have HWA := Hd.mk hWa
    clear hI hI' hg hG hn hl hWa d4 d5 d6 d7 d4' d5' d6' d7' hlp hal hbu hbel hbz
    gi_wp2_with fail
    rw [← HWA.out]
    refine ⟨HL.out, ?_⟩
    obtain ⟨Wb, hWb⟩ : ∃ Wb, Wb = busyW Wa (w1.heap.size + 4) r := ⟨_, rfl⟩
    rw [← hWb] at HBU HBZ HNEW HBEL ⊢
    have hout := (HBU.out _ (lt_of_heap HI.out.out) (by omega)).trans HI.out.out
    have HOUT := Hd.mk hout
    obtain ⟨⟨e0, e1, e2, e3⟩, -⟩ := ar_cells HNEW.out
    clear hWb HL HWA hout
    gi_wp2_with fail
    have hmx0 := mx_zero (P k) (U (k + 1))
    have HMX0 := Hd.mk hmx0
    clear hmx0 e0 e1 e2 e3
    gi_loopw [28] (fun i W => ∃ m : Nat, m ≤ 4 ∧ i = .int .i64 m ∧ W.heap[w1.heap.size]? = some (.cells (ar (mx (P k) (U (k + 1)) m)) 25 (0, 0)) ∧ Wb.grownBy W (some w1.heap.size)) (fun i _ => 4 - (intOf i).toNat)
    case atStart => exact ⟨0, by omega, rfl, by rw [HMX0.out]; exact HOUT.out, ⟨rfl, rfl, rfl, Nat.le_refl _, fun _ _ _ => rfl⟩⟩
    case round =>
      obtain ⟨m, hm, rfl, hO, hgr⟩ := hrel
      have HO := Hd.mk hO
      have HGR := Hd.mk hgr
      clear hgr
      by_cases hlt : m < 4
      · have i0 : (0 : Int) ≤ (m : Int) := by omega
        have i1 : (m : Int) < 4 := by omega
        have hix := index_ar (U (k + 1)) m hlt
        have hoc := (cells_cell hO m).trans (ar_get _ m hlt)
        have hof := cells_free hO m
        have e : mx (P k) (U (k + 1)) m m = P k m := by simp [mx]
        rw [e] at hoc
        have HST := Hd.mk (mx_step (P k) (U (k + 1)) m)
        obtain ⟨p, hp⟩ : ∃ p, P k m = p := ⟨_, rfl⟩
        obtain ⟨q, hq⟩ : ∃ p, U (k + 1) m = p := ⟨_, rfl⟩
        rw [hp] at hoc HST
        rw [hq] at hix HST
        clear hp hq e hO
        have hmax : max p q = if p < q then q else p := by split <;> omega
        rw [hmax] at HST
        clear hmax
        gi_wp2_with fail
        go_roundw
        case rel => exact ⟨m + 1, by omega, by go_num, by rw [← HST.out, ← ar_set _ _ hlt]; exact cells_set HO.out _, only_setCell HGR.out (.inl rfl) _⟩
        case measure => simp [intOf]; omega
      · obtain rfl : m = 4 := by omega
        have hb1 := HBZ.out
        have hl6 : wr.heap[w1.heap.size + 4]? = some (.loop { r with state := .busy }) := (HGR.out.block _ (lt_of_heap HBZ.out) (by simp)).trans HBZ.out
        have hfin : PeakI w w1 (.slice a cs.length c) r L U0 U P (k + 1) (k + 1) (readyW wr (w1.heap.size + 4) r) := by
          refine HI.out.fin hz wr (fun x hx h1 h2 => ?_) (by rw [HPS.out k, ← mx_four]; exact HO.out) hl6 ?_
          · have h3 := HBU.out x hx h1
            have h4 : W'.heap[x]? = some W'.heap[x] := Array.getElem?_eq_getElem hx
            exact (HGR.out.block _ (lt_of_heap (h3.trans h4)) (by simpa using h2)).trans h3
          · exact HBEL.out.trans ⟨HGR.out.os, HGR.out.tape, HGR.out.output, HGR.out.size, fun i hi => HGR.out.block i (Nat.lt_of_lt_of_le hi HBEL.out.size) (by simp; omega)⟩
        have HF := Hd.mk hfin
        have HL6 := Hd.mk hl6
        clear hfin hl6 hb1 hO
        gi_wp2_with fail
        exact ⟨HL6.out, rfl, HF.out⟩
  · rintro e W ⟨hv, hW | hW⟩
    · refine ⟨hv, .ready, none, by simp, ?_, ?_⟩
      · rw [hW.lp, hr.same]
      · have hz := HZ.out
        have ho : (W.putObj (w1.heap.size + 4) (.loop { r with state := .exhausted, pending := none })).heap[w1.heap.size]? = some (.cells (ar (P cs.length)) 25 (0, 0)) := (World.putObj_heap_other (by omega)).trans hW.out
        have hre : (W.putObj (w1.heap.size + 4) (.loop { r with state := .exhausted, pending := none })).heap[w.heap.size + 1]? = some (.cells (ar zf) 25 (0, 0)) := (World.putObj_heap_other (by omega)).trans hW.res
        have hD : (W.putObj (w1.heap.size + 4) (.loop { r with state := .exhausted, pending := none })).heap[w1.heap.size + 3]? = some (.deferred (some [])) := (World.putObj_heap_other (by omega)).trans hW.dfr
        have hB : Below w.heap.size w (W.putObj (w1.heap.size + 4) (.loop { r with state := .exhausted, pending := none })) := putObj_below hW.bel (by omega)
        generalize W.putObj (w1.heap.size + 4) (.loop { r with state := .exhausted, pending := none }) = W2 at ho hre hD hB ⊢
        obtain ⟨⟨c0, c1, c2, c3⟩, -⟩ := ar_cells ho
        obtain ⟨⟨e0, e1, e2, e3⟩, ⟨f0, f1, f2, f3⟩⟩ := ar_cells hre
        have HRE := Hd.mk hre
        have HB := Hd.mk hB
        have HD := Hd.mk hD
        clear ho hre d4 d5 d6 d7 d4' d5' d6' d7' hB hW hD
        simp only [Act.marked]
        gi_wp2_with fail
        have hres := ar_setall (P cs.length) HRE.out
        have hD' := (set4_other (W := W2) (g := w.heap.size + 1) (x := w1.heap.size + 3) (.int .i64 (P cs.length 0)) (.int .i64 (P cs.length 1)) (.int .i64 (P cs.length 2)) (.int .i64 (P cs.length 3)) 0 1 2 3 (by omega)).trans HD.out
        refine ⟨by simp, .inl ⟨_, _, rfl, run_takeDeferred hD', ?_⟩⟩
        refine ⟨_, results_cell_row2 Try.results14 _ _ _ 25 (ar (P cs.length)) (0, 0) _ rfl ((World.putObj_heap_other (by omega)).trans hres) Try.underlying25 rfl (by kernel_rfl), rfl, putObj_below (set4_below HB.out _ _ _ _ _ _ _ _ (by omega)) (by omega)⟩
    · exact hW.elim
end Go.Proofs.Ytppfhcocmpmadaa
