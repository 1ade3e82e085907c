/- Walk of quota.Barrier, charges that are right. -/
import Derived.Test.YtppfhcocmpmadaaA6
namespace Go.Proofs.Ytppfhcocmpmadaa
open Go.RowKit Go.Shelf
attribute [local go_sem] Oper.semAt_some
set_option linter.unusedVariables false

theorem both_ok {L U : Nat → Int} {cs : List (Int × Int)} (h : bothV L U cs = 0) : rightB L U = true ∧ chkV cs = 0 := by
  unfold bothV at h
  cases hr : rightB L U
  · rw [hr] at h; simp at h
  · rw [hr] at h; exact ⟨rfl, h⟩
theorem set4u_other {W : World} {g x : Nat} (f : Nat → Int) (h : x ≠ g) : (set4u W g f).heap[x]? = W.heap[x]? := set4_other _ _ _ _ _ _ _ _ h
theorem set4u_size {W : World} {g : Nat} (f : Nat → Int) : (set4u W g f).heap.size = W.heap.size := set4_size _ _ _ _ _ _ _ _
/-- A book, stored cell by cell. -/
@[reducible] def set8 (W : World) (g : Nat) (L U : Nat → Int) : World := (((((((W.setCell ⟨g, 0, none⟩ (.int .i64 (L 0))).setCell ⟨g, 1, none⟩ (.int .i64 (L 1))).setCell ⟨g, 2, none⟩ (.int .i64 (L 2))).setCell ⟨g, 3, none⟩ (.int .i64 (L 3))).setCell ⟨g, 4, none⟩ (.int .i64 (U 0))).setCell ⟨g, 5, none⟩ (.int .i64 (U 1))).setCell ⟨g, 6, none⟩ (.int .i64 (U 2))).setCell ⟨g, 7, none⟩ (.int .i64 (U 3))
theorem bk_setlims {W : World} {g : Nat} {t : TypeId} {L U : Nat → Int} (f' : Nat → Int) (h : W.heap[g]? = some (.cells (bk L U) t (0, 0))) :
    (set4 W g f').heap[g]? = some (.cells (bk f' U) t (0, 0)) :=
  cells_set (cells_set (cells_set (cells_set h _) _) _) _
theorem bk_setall {W : World} {g : Nat} {t : TypeId} {L U : Nat → Int} (L' U' : Nat → Int) (h : W.heap[g]? = some (.cells (bk L U) t (0, 0))) : (set8 W g L' U').heap[g]? = some (.cells (bk L' U') t (0, 0)) :=
  bk_setuse U' (bk_setlims L' h)
theorem set8_other {W : World} {g x : Nat} (L U : Nat → Int) (h : x ≠ g) : (set8 W g L U).heap[x]? = W.heap[x]? := by
  rw [set8, set4_other _ _ _ _ _ _ _ _ h, set4_other _ _ _ _ _ _ _ _ h]
theorem set8_below {B : Nat} {w W : World} (hB : Below B w W) (L U : Nat → Int) {g : Nat} (h : B ≤ g) : Below B w (set8 W g L U) :=
  set4_below (set4_below hB _ _ _ _ _ _ _ _ h) _ _ _ _ _ _ _ _ h
theorem heap_push4 (w : World) (o1 o2 o3 o4 : Obj) : ((((w.alloc o1).alloc o2).alloc o3).alloc o4).heap = (((w.heap.push o1).push o2).push o3).push o4 := rfl
theorem push4 (w : World) (o1 o2 o3 o4 : Obj) :
    (∀ x, x < w.heap.size → ((((w.alloc o1).alloc o2).alloc o3).alloc o4).heap[x]? = w.heap[x]?) ∧ ((((w.alloc o1).alloc o2).alloc o3).alloc o4).heap[w.heap.size]? = some o1 ∧
    ((((w.alloc o1).alloc o2).alloc o3).alloc o4).heap[w.heap.size + 1]? = some o2 ∧ ((((w.alloc o1).alloc o2).alloc o3).alloc o4).heap[w.heap.size + 2]? = some o3 ∧ ((((w.alloc o1).alloc o2).alloc o3).alloc o4).heap[w.heap.size + 3]? = some o4 := by
  rw [heap_push4]
  refine ⟨fun x hx => ?_, ?_, ?_, ?_, ?_⟩
  · simp only [Array.getElem?_push, Array.size_push]
    rw [if_neg (by omega), if_neg (by omega), if_neg (by omega), if_neg (by omega)]
  · simp only [Array.getElem?_push, Array.size_push]
    rw [if_neg (by omega), if_neg (by omega), if_neg (by omega), if_pos trivial]
  · simp only [Array.getElem?_push, Array.size_push]
    rw [if_neg (by omega), if_neg (by omega), if_pos trivial]
  · simp only [Array.getElem?_push, Array.size_push]
    rw [if_neg (by omega), if_pos trivial]
  · simp only [Array.getElem?_push, Array.size_push]
    rw [if_pos trivial]

theorem BarI.body {w w1 : World} {l : Value} {r : Loop} {L : Nat → Int} {U : Nat → Nat → Int} {k : Nat} {W : World} (h : BarI w w1 l r L U k (k + 1) W) (hz : w.heap.size + 2 ≤ w1.heap.size) (o : Obj) :
    (set4u (busyW (W.alloc o) (w1.heap.size + 3) r) (w.heap.size) (U (k + 1))).heap[w1.heap.size + 3]? = some (.loop { r with state := .busy }) ∧
    BarI w w1 l r L U (k + 1) (k + 1) (readyW (set4u (busyW (W.alloc o) (w1.heap.size + 3) r) (w.heap.size) (U (k + 1))) (w1.heap.size + 3) r) := by
  have hl := lt_of_heap h.lp
  have hal : ∀ x, x < W.heap.size → x ≠ w1.heap.size + 3 → (busyW (W.alloc o) (w1.heap.size + 3) r).heap[x]? = W.heap[x]? := fun x hx hne =>
    (World.putObj_heap_other (by omega)).trans (Below.heap_alloc _ _ _ hx)
  have hal' : (busyW (W.alloc o) (w1.heap.size + 3) r).heap[w1.heap.size + 3]? = some (.loop { r with state := .busy }) :=
    World.putObj_heap_same (by simp; omega)
  have hb : (set4u (busyW (W.alloc o) (w1.heap.size + 3) r) (w.heap.size) (U (k + 1))).heap[w1.heap.size + 3]? = some (.loop { r with state := .busy }) :=
    (set4u_other _ (by omega)).trans hal'
  refine ⟨hb, h.fin hz _ (fun x hx h1 h2 => (set4u_other _ h2).trans (hal x hx h1)) (bk_setuse _ ((hal _ (lt_of_heap h.book) (by omega)).trans h.book)) hb ?_⟩
  exact set4_below (putObj_below (h.bel.alloc h.bel.size _) (by omega)) _ _ _ _ _ _ _ _ (by omega)

/-- What Barrier returns, with V used behind all charges. -/
def barR (L V : Nat → Int) : Ending := if (failsV L V).2 = 0 then .returned (.tuple #[.agg (bk L V), .int .i64 (-1), .int .i64 0]) else .returned (.tuple #[.agg (bk zf zf), .int .i64 (failsV L V).1, .int .i64 (failsV L V).2])

set_option maxRecDepth 100000 in
set_option maxHeartbeats 4000000 in
theorem barrier_yes (L U0 : Nat → Int) (v : Value) (cs : List (Int × Int)) (w : World) (hs : SrcC w v cs) (hc : bothV L U0 cs = 0) : Calls Try.prog 17 #[.agg (bk L U0), v] w fun e w' =>
    e = barR L (useK U0 cs cs.length) ∧ Below w.heap.size w w' := by
  obtain ⟨hrt, hck⟩ := both_ok hc
  obtain ⟨hlen, hok⟩ := chk_ok hck
  obtain ⟨a, c, rfl⟩ := hs.shape
  have HS := Hd.mk hs
  have HC := Hd.mk hc
  have HOK := Hd.mk hok
  obtain ⟨U, hU⟩ : ∃ U, U = useK U0 cs := ⟨_, rfl⟩
  have HUS : Hd (∀ k (h : k < cs.length) (j : Nat), j < 4 → cs[k].1 = j → upd (U k) j (U k j + cs[k].2) = U (k + 1)) := ⟨by rw [hU]; exact useK_step U0 cs⟩
  have HUB : Hd (∀ k j, k ≤ cs.length → j < 4 → -9007199254740992 ≤ U k j ∧ U k j ≤ 9007199254740992) := ⟨by rw [hU]; exact useK_bound U0 cs HOK.out hlen (fun j hj => by have := right_iff.1 hrt j hj; omega)⟩
  have HU0 : Hd (U0 = U 0) := ⟨by rw [hU, useK_zero]⟩
  rw [← hU]
  clear hU hs hc hok hrt hck
  have HW0 : Hd (Below w.heap.size w ((w.alloc (.cells (bk L U0) 27)).alloc (.cells (bk zf zf) 27))) := ⟨((Below.refl _ _).alloc (Nat.le_refl _) _).alloc (by simp) _⟩
  refine (callsIn_wide (n := 0)).1 ?_
  refine callsIn_of_wp_marks Try.func17 rfl trivial ?_
  simp only [Try.ntmps17, List.size_toArray, List.length_cons, List.length_nil, Nat.reduceAdd, Nat.reduceSub, Array.replicate_succ, Array.replicate_zero, List.push_toArray, List.append_toArray, List.nil_append, List.cons_append]
  gi_wp2_with (refine wpListIn_load_row rfl 27 _ rfl _ rfl 27 (bk L U0) (0, 0) _ ((Below.heap_alloc _ _ _ (by simp)).trans (World.alloc_heap_new w _)) Try.underlying27 rfl (by kernel_rfl) ?_)
  refine (callsIn_wide.2 (both_any L U0 _ cs _ (HS.out.below HW0.out))).mono ?_
  rintro e w1 ⟨rfl, hB⟩
  rw [HC.out]
  have hb0 : w1.heap[w.heap.size]? = some (.cells (bk L U0) 27 (0, 0)) := (hB.block _ (by simp; omega)).trans ((Below.heap_alloc _ _ _ (by simp)).trans (World.alloc_heap_new w _))
  have hb1 : w1.heap[w.heap.size + 1]? = some (.cells (bk zf zf) 27 (0, 0)) := (hB.block _ (by simp)).trans (two_new w _ _)
  have HB1 := Hd.mk (HW0.out.trans (hB.mono (by simp; omega)))
  have HZ : Hd (w.heap.size + 2 ≤ w1.heap.size) := ⟨by have := hB.size; simp at this; omega⟩
  obtain ⟨⟨-, -, -, -, d4, d5, d6, d7⟩, -⟩ := bk_cells hb0
  have HBk0 := Hd.mk hb0
  have HBk1 := Hd.mk hb1
  clear hb0 hb1 hB HW0
  gi_wp2_with fail
  refine (callsIn_wide.2 (way_any U0 _ _ _ _)).mono ?_
  rintro e w2 ⟨rfl, rfl⟩
  gi_wp2_with fail
  refine range_enter 44 #[.pointer (some ⟨w1.heap.size + 1, 0, none⟩), .pointer (some ⟨w1.heap.size, 0, none⟩)] rfl (enters_of Try.func44 (by kernel_rfl) rfl) ?_
  intro r hr
  simp only [World.size_alloc]
  have H0 : BarI w w1 (.slice a cs.length c) r L U 0 0 ((((w1.alloc (.cells (ar U0) 25)).alloc (.cells #[.slice a cs.length c] 28)).alloc (.deferred (some []))).alloc (.loop r)) := by
    have hz := HZ.out
    obtain ⟨p0, p1, p2, p3, p4⟩ := push4 w1 (.cells (ar U0) 25) (.cells #[.slice a cs.length c] 28) (.deferred (some [])) (.loop r)
    exact ⟨by rw [← HU0.out]; exact (p0 _ (by omega)).trans HBk0.out, (p0 _ (by omega)).trans HBk1.out, by rw [← HU0.out]; exact p1, p2, p3, p4,
      (((HB1.out.alloc (by omega) _).alloc (by simp; omega) _).alloc (by simp; omega) _).alloc (by simp; omega) _⟩
  refine (way1 w1.heap.size (w1.heap.size + 1) (w1.heap.size + 3) a c cs U (fun k W => BarI w w1 (.slice a cs.length c) r L U k k W) (fun _ => False)
    (fun k W h => ⟨h.use, h.box, HS.out.below h.bel⟩) HOK.out hlen HUB.out HUS.out ?_ _ H0).mono ?_
  · intro k W W' hk hI hg hG
    have hI' := hI.grown HZ.out hg hG
    simp only [ar]
    refine yield_at hr hI'.lp rfl ?_
    have HI := Hd.mk hI'
    have hz := HZ.out
    have hlp := lt_of_heap hI'.lp
    obtain ⟨Wa, hWa⟩ : ∃ Wa, Wa = W'.alloc (.cells #[.int .i64 (U (k + 1) 0), .int .i64 (U (k + 1) 1), .int .i64 (U (k + 1) 2), .int .i64 (U (k + 1) 3)] 25) := ⟨_, rfl⟩
    have hl : Wa.heap[w1.heap.size + 3]? = some (.loop r) := by rw [hWa]; exact (Below.heap_alloc _ _ _ hlp).trans hI'.lp
    have ho : (busyW Wa (w1.heap.size + 3) r).heap[w.heap.size]? = some (.cells (bk L (U k)) 27 (0, 0)) :=
      (World.putObj_heap_other (by omega)).trans (by rw [hWa]; exact (Below.heap_alloc _ _ _ (by omega)).trans hI'.book)
    have hn : (busyW Wa (w1.heap.size + 3) r).heap[W'.heap.size]? = some (.cells (ar (U (k + 1))) 25 (0, 0)) :=
      (World.putObj_heap_other (by omega)).trans (by rw [hWa]; exact World.alloc_heap_new _ _)
    have HL := Hd.mk hl
    have HOUT := Hd.mk ho
    have HNEW := Hd.mk hn
    have HFIN := Hd.mk (HI.out.body hz (.cells #[.int .i64 (U (k + 1) 0), .int .i64 (U (k + 1) 1), .int .i64 (U (k + 1) 2), .int .i64 (U (k + 1) 3)] 25))
    rw [← hWa] at HFIN
    have HWA := Hd.mk hWa
    clear hI hI' hg hG ho hn hl hWa d4 d5 d6 d7 hlp
    gi_wp2_with fail
    rw [← HWA.out]
    refine ⟨HL.out, ?_⟩
    obtain ⟨Wb, hWb⟩ : ∃ Wb, Wb = busyW Wa (w1.heap.size + 3) r := ⟨_, rfl⟩
    rw [← hWb] at HOUT HNEW HFIN ⊢
    obtain ⟨⟨c0, c1, c2, c3, c4, c5, c6, c7⟩, ⟨f0, f1, f2, f3, f4, f5, f6, f7⟩⟩ := bk_cells HOUT.out
    obtain ⟨⟨e0, e1, e2, e3⟩, -⟩ := ar_cells HNEW.out
    clear hWb HL HWA c0 c1 c2 c3 f0 f1 f2 f3
    gi_wp2_with fail
    exact ⟨HFIN.out.1, rfl, HFIN.out.2⟩
  · rintro e W ⟨hv, hW | hW⟩
    · refine ⟨hv, .ready, none, by simp, ?_, ?_⟩
      · rw [hW.lp, hr.same]
      · have hz := HZ.out
        have ho : (W.putObj (w1.heap.size + 3) (.loop { r with state := .exhausted, pending := none })).heap[w.heap.size]? = some (.cells (bk L (U cs.length)) 27 (0, 0)) := (World.putObj_heap_other (by omega)).trans hW.book
        have hre : (W.putObj (w1.heap.size + 3) (.loop { r with state := .exhausted, pending := none })).heap[w.heap.size + 1]? = some (.cells (bk zf zf) 27 (0, 0)) := (World.putObj_heap_other (by omega)).trans hW.res
        have hD : (W.putObj (w1.heap.size + 3) (.loop { r with state := .exhausted, pending := none })).heap[w1.heap.size + 2]? = some (.deferred (some [])) := (World.putObj_heap_other (by omega)).trans hW.dfr
        have hB : Below w.heap.size w (W.putObj (w1.heap.size + 3) (.loop { r with state := .exhausted, pending := none })) := putObj_below hW.bel (by omega)
        generalize W.putObj (w1.heap.size + 3) (.loop { r with state := .exhausted, pending := none }) = W2 at ho hre hD hB ⊢
        obtain ⟨⟨c0, c1, c2, c3, c4, c5, c6, c7⟩, -⟩ := bk_cells ho
        have HO := Hd.mk ho
        have HRE := Hd.mk hre
        have HB := Hd.mk hB
        have HD := Hd.mk hD
        clear ho hre d4 d5 d6 d7 hB hW hD
        simp only [Act.marked]
        gi_wp2_with fail
        refine (callsIn_wide.2 (fails_any L (U cs.length) _)).mono ?_
        rintro e w5 ⟨rfl, hB5⟩
        have ho := (hB5.block _ (lt_of_heap HO.out)).trans HO.out
        have hre := (hB5.block _ (lt_of_heap HRE.out)).trans HRE.out
        have HD5 := Hd.mk ((hB5.block _ (lt_of_heap HD.out)).trans HD.out)
        have HB5 := Hd.mk (ch4 HB.out hB5)
        have HRE5 := Hd.mk hre
        clear c0 c1 c2 c3 c4 c5 c6 c7 hB5 HO HRE HD HB
        obtain ⟨⟨c0, c1, c2, c3, c4, c5, c6, c7⟩, -⟩ := bk_cells ho
        obtain ⟨⟨e0, e1, e2, e3, e4, e5, e6, e7⟩, ⟨f0, f1, f2, f3, f4, f5, f6, f7⟩⟩ := bk_cells hre
        clear ho hre
        by_cases hz0 : (failsV L (U cs.length)).2 = 0
        · have HR : Hd (barR L (U cs.length) = .returned (.tuple #[.agg (bk L (U cs.length)), .int .i64 (-1), .int .i64 0])) := ⟨by rw [barR, if_pos hz0]⟩
          rw [hz0]
          clear hz0
          gi_wp2_with fail
          have hres := bk_setall L (U cs.length) HRE5.out
          have hD' := (set8_other L (U cs.length) (g := w.heap.size + 1) (x := w1.heap.size + 2) (W := w5) (by omega)).trans HD5.out
          refine ⟨by simp, .inl ⟨_, _, rfl, run_takeDeferred hD', ?_⟩⟩
          refine ⟨_, results_cell_row3 Try.results17 _ _ _ 27 (bk L (U cs.length)) (0, 0) _ rfl ((World.putObj_heap_other (by omega)).trans hres) Try.underlying27 rfl (by kernel_rfl), HR.out.symm, putObj_below (set8_below HB5.out L (U cs.length) (by omega)) (by omega)⟩
        · have HR : Hd (barR L (U cs.length) = .returned (.tuple #[.agg (bk zf zf), .int .i64 (failsV L (U cs.length)).1, .int .i64 (failsV L (U cs.length)).2])) := ⟨by rw [barR, if_neg hz0]⟩
          obtain ⟨kd, hkd⟩ : ∃ k, (failsV L (U cs.length)).1 = k := ⟨_, rfl⟩
          obtain ⟨er, her⟩ : ∃ k, (failsV L (U cs.length)).2 = k := ⟨_, rfl⟩
          rw [hkd, her] at HR ⊢
          rw [her] at hz0
          clear hkd her
          gi_wp2_with fail
          have hres := bk_setall zf zf HRE5.out
          have hD' := (set8_other zf zf (g := w.heap.size + 1) (x := w1.heap.size + 2) (W := w5) (by omega)).trans HD5.out
          refine ⟨by simp, .inl ⟨_, _, rfl, run_takeDeferred hD', ?_⟩⟩
          refine ⟨_, results_cell_row3 Try.results17 _ _ _ 27 (bk zf zf) (0, 0) _ rfl ((World.putObj_heap_other (by omega)).trans hres) Try.underlying27 rfl (by kernel_rfl), HR.out.symm, putObj_below (set8_below HB5.out zf zf (by omega)) (by omega)⟩
    · exact hW.elim
end Go.Proofs.Ytppfhcocmpmadaa
