/- Walk of quota.Sum. -/
import Derived.Test.YtppfhcocmpmadaaA4
import Derived.Test.YtppfhcocmpmadaaCells
namespace Go.Proofs.Ytppfhcocmpmadaa
open Go.RowKit Go.Shelf
attribute [local go_sem] Oper.semAt_some
set_option linter.unusedVariables false

theorem useK_zero (U : Nat → Int) (cs : List (Int × Int)) : useK U cs 0 = U := by funext j; simp [useK]
theorem useK_succ (U : Nat → Int) (cs : List (Int × Int)) (k : Nat) (h : k < cs.length) (j : Nat) : useK U cs (k + 1) j = useK U cs k j + if cs[k].1 = (j : Int) then cs[k].2 else 0 := by
  unfold useK
  rw [List.take_succ_eq_append_getElem h, List.map_append, List.sum_append]
  simp
  omega
theorem useK_step (U : Nat → Int) (cs : List (Int × Int)) (k : Nat) (h : k < cs.length) (j : Nat) (_ : j < 4) (hj : cs[k].1 = j) : upd (useK U cs k) j (useK U cs k j + cs[k].2) = useK U cs (k + 1) := by
  funext i
  rw [useK_succ U cs k h i, hj]
  unfold upd
  by_cases e : i = j
  · rw [if_pos e, e, if_pos rfl]
  · rw [if_neg e, if_neg (by omega)]; omega
theorem useK_bound (U : Nat → Int) (cs : List (Int × Int)) (hok : ∀ x ∈ cs, okC x = true) (hl : cs.length ≤ 4096) (hU : ∀ j, j < 4 → -1099511627776 ≤ U j ∧ U j ≤ 1099511627776) :
    ∀ k j, k ≤ cs.length → j < 4 → -9007199254740992 ≤ useK U cs k j ∧ useK U cs k j ≤ 9007199254740992 := by
  have key : ∀ k j, k ≤ cs.length → j < 4 → -(1099511627776 * ((k : Int) + 1)) ≤ useK U cs k j ∧ useK U cs k j ≤ 1099511627776 * ((k : Int) + 1) := by
    intro k
    induction k with
    | zero => intro j _ hj; rw [useK_zero]; have := hU j hj; omega
    | succ k ih =>
      intro j hk hj
      have h1 := ih j (by omega) hj
      have h2 := (okC_iff cs[k]).1 (hok _ (List.getElem_mem (by omega)))
      rw [useK_succ U cs k (by omega) j]
      split <;> omega
  intro k j hk hj
  have := key k j hk hj
  omega
theorem chk_ok {cs : List (Int × Int)} (h : chkV cs = 0) : cs.length ≤ 4096 ∧ ∀ x ∈ cs, okC x = true := by
  unfold chkV at h
  by_cases h1 : 4096 < cs.length
  · rw [if_pos h1] at h; exact absurd h (by decide)
  · rw [if_neg h1] at h
    by_cases h2 : cs.all okC = true
    · exact ⟨by omega, by simpa using h2⟩
    · rw [if_neg h2] at h; exact absurd h (by decide)

def zf : Nat → Int := fun _ => 0
def Unt (W : World) (g : Nat) (o : Obj) : Prop := W.heap[g]? = some o

theorem two_new (w : World) (o1 o2 : Obj) : ((w.alloc o1).alloc o2).heap[w.heap.size + 1]? = some o2 := by
  have := World.alloc_heap_new (w.alloc o1) o2
  rwa [World.size_alloc] at this
/-- Four numbers, stored one by one. -/
@[reducible] def set4 (W : World) (g : Nat) (f : Nat → Int) : World := (((W.setCell ⟨g, 0, none⟩ (.int .i64 (f 0))).setCell ⟨g, 1, none⟩ (.int .i64 (f 1))).setCell ⟨g, 2, none⟩ (.int .i64 (f 2))).setCell ⟨g, 3, none⟩ (.int .i64 (f 3))
/-- What stands in Sum's loop. -/
structure SumI (w w1 : World) (l : Value) (r : Loop) (U : Nat → Nat → Int) (j k : Nat) (W : World) : Prop where
  res : W.heap[w.heap.size]? = some (.cells (ar zf) 25 (0, 0))
  out : W.heap[w.heap.size + 1]? = some (.cells (ar (U j)) 25 (0, 0))
  use : W.heap[w1.heap.size]? = some (.cells (ar (U k)) 25 (0, 0))
  box : W.heap[w1.heap.size + 1]? = some (.cells #[l] 28 (0, 0))
  dfr : W.heap[w1.heap.size + 2]? = some (.deferred (some []))
  lp : W.heap[w1.heap.size + 3]? = some (.loop r)
  bel : Below w.heap.size w W
theorem SumI.grown {w w1 : World} {l : Value} {r : Loop} {U : Nat → Nat → Int} {j k : Nat} {W W' : World} (h : SumI w w1 l r U j k W) (hz : w.heap.size + 2 ≤ w1.heap.size) (hg : W.grownBy W' (some w1.heap.size))
    (hG : W'.heap[w1.heap.size]? = some (.cells (ar (U (k + 1))) 25 (0, 0))) : SumI w w1 l r U j (k + 1) W' := by
  have lt : ∀ {g : Nat} {o : Obj}, W.heap[g]? = some o → g < W.heap.size := fun h => (Array.getElem?_eq_some_iff.1 h).1
  have mv : ∀ {g : Nat} {o : Obj}, W.heap[g]? = some o → g ≠ w1.heap.size → W'.heap[g]? = some o := fun h hne => (hg.block _ (lt h) (by simpa using hne)).trans h
  refine ⟨mv h.res (by omega), mv h.out (by omega), hG, mv h.box (by omega), mv h.dfr (by omega), mv h.lp (by omega), ?_⟩
  exact h.bel.trans ⟨hg.os, hg.tape, hg.output, hg.size, fun i hi => hg.block i (Nat.lt_of_lt_of_le hi h.bel.size) (by simp; omega)⟩

theorem lt_of_heap {W : World} {g : Nat} {o : Obj} (h : W.heap[g]? = some o) : g < W.heap.size := (Array.getElem?_eq_some_iff.1 h).1
theorem set4_other {W : World} {g x : Nat} (a b c d : Value) (i j k l : Nat) (h : x ≠ g) : ((((W.setCell ⟨g, i, none⟩ a).setCell ⟨g, j, none⟩ b).setCell ⟨g, k, none⟩ c).setCell ⟨g, l, none⟩ d).heap[x]? = W.heap[x]? := by
  rw [Below.heap_setCell _ _ _ _ h, Below.heap_setCell _ _ _ _ h, Below.heap_setCell _ _ _ _ h, Below.heap_setCell _ _ _ _ h]
theorem set4_size {W : World} {g : Nat} (a b c d : Value) (i j k l : Nat) : ((((W.setCell ⟨g, i, none⟩ a).setCell ⟨g, j, none⟩ b).setCell ⟨g, k, none⟩ c).setCell ⟨g, l, none⟩ d).heap.size = W.heap.size := by
  simp [World.setCell]
theorem set4_below {B : Nat} {w W : World} (hB : Below B w W) {g : Nat} (a b c d : Value) (i j k l : Nat) (h : B ≤ g) : Below B w ((((W.setCell ⟨g, i, none⟩ a).setCell ⟨g, j, none⟩ b).setCell ⟨g, k, none⟩ c).setCell ⟨g, l, none⟩ d) :=
  (((hB.setCell h _).setCell h _).setCell h _).setCell h _

set_option maxRecDepth 100000 in
set_option maxHeartbeats 4000000 in
theorem sum_no (v : Value) (cs : List (Int × Int)) (w : World) (hs : SrcC w v cs) (hc : ¬ chkV cs = 0) : Calls Try.prog 18 #[v] w fun e w' => e = .returned (.tuple #[.agg (ar zf), .int .i64 (chkV cs)]) ∧ Below w.heap.size w w' := by
  have HS := Hd.mk hs
  obtain ⟨n, hn⟩ : ∃ n, chkV cs = n := ⟨_, rfl⟩
  rw [hn] at hc ⊢
  have HN := Hd.mk hn
  clear hs hn
  go_enter Try.func18, Try.ntmps18
  go_wp2_with fail
  refine (check_src v cs _ (HS.out.below ?_)).mono ?_
  · exact ((Below.refl _ _).alloc (Nat.le_refl _) _).alloc (by simp) _
  rintro e w1 ⟨rfl, hB⟩
  rw [HN.out]
  have hb0 : w1.heap[w.heap.size]? = some (.cells (ar zf) 25 (0, 0)) := (hB.block _ (by simp; omega)).trans ((Below.heap_alloc _ _ _ (by simp)).trans (World.alloc_heap_new w _))
  have hb1 : w1.heap[w.heap.size + 1]? = some (.cells (ar zf) 25 (0, 0)) := (hB.block _ (by simp)).trans (two_new w _ _)
  have HB1 := Hd.mk ((((Below.refl _ _).alloc (Nat.le_refl _) _).alloc (by simp) _).trans (hB.mono (by simp; omega)))
  obtain ⟨⟨c0, c1, c2, c3⟩, ⟨f0, f1, f2, f3⟩⟩ := ar_cells hb0
  obtain ⟨⟨d0, d1, d2, d3⟩, -⟩ := ar_cells hb1
  have HB0 := Hd.mk hb0
  clear hb0 hb1 hB
  go_wp2_with fail
  refine bodyPost_ret (results_cell_row2 Try.results18 _ _ _ 25 (ar zf) (0, 0) _ rfl (ar_setall zf HB0.out) Try.underlying25 rfl (by kernel_rfl)) rfl ?_
  exact ⟨rfl, set4_below HB1.out _ _ _ _ _ _ _ _ (Nat.le_refl _)⟩

theorem SumI.body {w w1 : World} {l : Value} {r : Loop} {U : Nat → Nat → Int} {k : Nat} {W : World} (h : SumI w w1 l r U k (k + 1) W) (hz : w.heap.size + 2 ≤ w1.heap.size) (o : Obj) :
    (set4 (busyW (W.alloc o) (w1.heap.size + 3) r) (w.heap.size + 1) (U (k + 1))).heap[w1.heap.size + 3]? = some (.loop { r with state := .busy }) ∧
    SumI w w1 l r U (k + 1) (k + 1) (readyW (set4 (busyW (W.alloc o) (w1.heap.size + 3) r) (w.heap.size + 1) (U (k + 1))) (w1.heap.size + 3) r) := by
  have hl := lt_of_heap h.lp
  have hal : ∀ x, x < W.heap.size → x ≠ w1.heap.size + 3 → (busyW (W.alloc o) (w1.heap.size + 3) r).heap[x]? = W.heap[x]? := fun x hx hne =>
    (World.putObj_heap_other (by omega)).trans (Below.heap_alloc _ _ _ hx)
  have hal' : (busyW (W.alloc o) (w1.heap.size + 3) r).heap[w1.heap.size + 3]? = some (.loop { r with state := .busy }) :=
    World.putObj_heap_same (by simp; omega)
  have hm : ∀ x, x < W.heap.size → x ≠ w1.heap.size + 3 → x ≠ w.heap.size + 1 → (set4 (busyW (W.alloc o) (w1.heap.size + 3) r) (w.heap.size + 1) (U (k + 1))).heap[x]? = W.heap[x]? := fun x hx h1 h2 => by
    rw [set4, set4_other _ _ _ _ _ _ _ _ h2]; exact hal x hx h1
  have hb : (set4 (busyW (W.alloc o) (w1.heap.size + 3) r) (w.heap.size + 1) (U (k + 1))).heap[w1.heap.size + 3]? = some (.loop { r with state := .busy }) := by
    rw [set4, set4_other _ _ _ _ _ _ _ _ (by omega)]; exact hal'
  have hm' : ∀ x, x < W.heap.size → x ≠ w1.heap.size + 3 → x ≠ w.heap.size + 1 → (readyW (set4 (busyW (W.alloc o) (w1.heap.size + 3) r) (w.heap.size + 1) (U (k + 1))) (w1.heap.size + 3) r).heap[x]? = W.heap[x]? := fun x hx h1 h2 =>
    (World.putObj_heap_other (by omega)).trans (hm x hx h1 h2)
  refine ⟨hb, ?_, ?_, ?_, ?_, ?_, ?_, ?_⟩
  · rw [hm' _ (lt_of_heap h.res) (by omega) (by omega)]; exact h.res
  · refine (World.putObj_heap_other (by omega)).trans ?_
    refine ar_setall (f := U k) _ ?_
    rw [hal _ (lt_of_heap h.out) (by omega)]; exact h.out
  · rw [hm' _ (lt_of_heap h.use) (by omega) (by omega)]; exact h.use
  · rw [hm' _ (lt_of_heap h.box) (by omega) (by omega)]; exact h.box
  · rw [hm' _ (lt_of_heap h.dfr) (by omega) (by omega)]; exact h.dfr
  · exact World.putObj_heap_same (lt_of_heap hb)
  · refine putObj_below ?_ (by omega)
    exact set4_below (putObj_below (h.bel.alloc h.bel.size _) (by omega)) _ _ _ _ _ _ _ _ (by omega)

set_option maxRecDepth 100000 in
set_option maxHeartbeats 1000000 in
theorem sum_yes (v : Value) (cs : List (Int × Int)) (w : World) (hs : SrcC w v cs) (hc : chkV cs = 0) : Calls Try.prog 18 #[v] w fun e w' => e = .returned (.tuple #[.agg (ar (useK zf cs cs.length)), .int .i64 0]) ∧ Below w.heap.size w w' := by
  obtain ⟨hlen, hok⟩ := chk_ok hc
  obtain ⟨a, c, rfl⟩ := hs.shape
  have HS := Hd.mk hs
  have HC := Hd.mk hc
  have HOK := Hd.mk hok
  clear hs hc hok
  obtain ⟨U, hU⟩ : ∃ U, U = useK zf cs := ⟨_, rfl⟩
  have HUS : Hd (∀ k (h : k < cs.length) (j : Nat), j < 4 → cs[k].1 = j → upd (U k) j (U k j + cs[k].2) = U (k + 1)) := ⟨by rw [hU]; exact useK_step zf cs⟩
  have HUB : Hd (∀ k j, k ≤ cs.length → j < 4 → -9007199254740992 ≤ U k j ∧ U k j ≤ 9007199254740992) := ⟨by rw [hU]; exact useK_bound zf cs HOK.out hlen (fun j _ => by simp [zf])⟩
  have HU0 : Hd (zf = U 0) := ⟨by rw [hU, useK_zero]⟩
  rw [← hU]
  clear hU
  refine (callsIn_wide (n := 0)).1 ?_
  refine callsIn_of_wp_marks Try.func18 rfl trivial ?_
  simp only [Try.ntmps18, List.size_toArray, List.length_cons, List.length_nil, Nat.reduceAdd, Nat.reduceSub, Array.replicate_succ, Array.replicate_zero, List.push_toArray, List.append_toArray, List.nil_append, List.cons_append]
  gi_wp2_with fail
  refine (callsIn_wide.2 (check_src _ cs _ (HS.out.below ?_))).mono ?_
  · exact ((Below.refl _ _).alloc (Nat.le_refl _) _).alloc (by simp) _
  rintro e w1 ⟨rfl, hB⟩
  rw [HC.out]
  have hb0 : w1.heap[w.heap.size]? = some (.cells (ar zf) 25 (0, 0)) := (hB.block _ (by simp; omega)).trans ((Below.heap_alloc _ _ _ (by simp)).trans (World.alloc_heap_new w _))
  have hb1 : w1.heap[w.heap.size + 1]? = some (.cells (ar zf) 25 (0, 0)) := (hB.block _ (by simp)).trans (two_new w _ _)
  have HB1 := Hd.mk ((((Below.refl _ _).alloc (Nat.le_refl _) _).alloc (by simp) _).trans (hB.mono (by simp; omega)))
  have HZ : Hd (w.heap.size + 2 ≤ w1.heap.size) := ⟨by have := hB.size; simp at this; omega⟩
  obtain ⟨⟨d0, d1, d2, d3⟩, -⟩ := ar_cells hb1
  have HBk0 := Hd.mk hb0
  have HBk1 := Hd.mk hb1
  clear hb0 hb1 hB
  gi_wp2_with fail
  refine (callsIn_wide.2 (way_any zf _ _ _ _)).mono ?_
  rintro e w2 ⟨rfl, rfl⟩
  gi_wp2_with fail
  refine range_enter 44 #[.pointer (some ⟨w1.heap.size + 1, 0, none⟩), .pointer (some ⟨w1.heap.size, 0, none⟩)] rfl (enters_of Try.func44 (by kernel_rfl) rfl) ?_
  intro r hr
  simp only [World.size_alloc]
  have H0 : SumI w w1 (.slice a cs.length c) r U 0 0 ((((w1.alloc (.cells (ar zf) 25)).alloc (.cells #[.slice a cs.length c] 28)).alloc (.deferred (some []))).alloc (.loop r)) := by
    have hz := HZ.out
    have e1 : ∀ (w : World) (o : Obj), (w.alloc o).heap = w.heap.push o := fun _ _ => rfl
    refine ⟨?_, ?_, ?_, ?_, ?_, ?_, ?_⟩
    · simp only [e1, Array.getElem?_push, Array.size_push]
      rw [if_neg (by omega), if_neg (by omega), if_neg (by omega), if_neg (by omega)]; exact HBk0.out
    · simp only [e1, Array.getElem?_push, Array.size_push]
      rw [if_neg (by omega), if_neg (by omega), if_neg (by omega), if_neg (by omega), ← HU0.out]; exact HBk1.out
    · simp only [e1, Array.getElem?_push, Array.size_push]
      rw [if_neg (by omega), if_neg (by omega), if_neg (by omega), if_pos trivial, ← HU0.out]
    · simp only [e1, Array.getElem?_push, Array.size_push]
      rw [if_neg (by omega), if_neg (by omega), if_pos trivial]
    · simp only [e1, Array.getElem?_push, Array.size_push]
      rw [if_neg (by omega), if_pos trivial]
    · simp only [e1, Array.getElem?_push, Array.size_push]
      rw [if_pos trivial]
    · exact (((HB1.out.alloc (by omega) _).alloc (by simp; omega) _).alloc (by simp; omega) _).alloc (by simp; omega) _
  refine (way1 w1.heap.size (w1.heap.size + 1) (w1.heap.size + 3) a c cs U (fun k W => SumI w w1 (.slice a cs.length c) r U k k W) (fun _ => False)
    (fun k W h => ⟨h.use, h.box, HS.out.below h.bel⟩) HOK.out hlen HUB.out HUS.out ?_ _ H0).mono ?_
  · intro k W W' hk hI hg hG
    have hI' := hI.grown HZ.out hg hG
    simp only [ar]
    refine yield_at hr hI'.lp rfl ?_
    have HI := Hd.mk hI'
    have hz := HZ.out
    have hlp := lt_of_heap hI'.lp
    obtain ⟨Wa, hWa⟩ : ∃ Wa, Wa = W'.alloc (.cells #[.int .i64 (U (k + 1) 0), .int .i64 (U (k + 1) 1), .int .i64 (U (k + 1) 2), .int .i64 (U (k + 1) 3)] 25) := ⟨_, rfl⟩
    have hl : Wa.heap[w1.heap.size + 3]? = some (.loop r) := by rw [hWa]; exact (Below.heap_alloc _ _ _ hlp).trans hI'.lp
    have ho : (busyW Wa (w1.heap.size + 3) r).heap[w.heap.size + 1]? = some (.cells (ar (U k)) 25 (0, 0)) :=
      (World.putObj_heap_other (by omega)).trans (by rw [hWa]; exact (Below.heap_alloc _ _ _ (by omega)).trans hI'.out)
    have hn : (busyW Wa (w1.heap.size + 3) r).heap[W'.heap.size]? = some (.cells (ar (U (k + 1))) 25 (0, 0)) :=
      (World.putObj_heap_other (by omega)).trans (by rw [hWa]; exact World.alloc_heap_new _ _)
    have HL := Hd.mk hl
    have HOUT := Hd.mk ho
    have HNEW := Hd.mk hn
    have HFIN := Hd.mk (HI.out.body hz (.cells #[.int .i64 (U (k + 1) 0), .int .i64 (U (k + 1) 1), .int .i64 (U (k + 1) 2), .int .i64 (U (k + 1) 3)] 25))
    rw [← hWa] at HFIN
    have HWA := Hd.mk hWa
    clear hI hI' hg hG ho hn hl hWa d0 d1 d2 d3 hlp
    gi_wp2_with fail
    rw [← HWA.out]
    refine ⟨HL.out, ?_⟩
    obtain ⟨Wb, hWb⟩ : ∃ Wb, Wb = busyW Wa (w1.heap.size + 3) r := ⟨_, rfl⟩
    rw [← hWb] at HOUT HNEW HFIN ⊢
    obtain ⟨⟨c0, c1, c2, c3⟩, ⟨f0, f1, f2, f3⟩⟩ := ar_cells HOUT.out
    obtain ⟨⟨e0, e1, e2, e3⟩, -⟩ := ar_cells HNEW.out
    clear hWb HL HWA
    gi_wp2_with fail
    exact ⟨HFIN.out.1, rfl, HFIN.out.2⟩
  · rintro e W ⟨hv, hW | hW⟩
    · refine ⟨hv, .ready, none, by simp, ?_, ?_⟩
      · rw [hW.lp, hr.same]
      · have hz := HZ.out
        have ho : (W.putObj (w1.heap.size + 3) (.loop { r with state := .exhausted, pending := none })).heap[w.heap.size + 1]? = some (.cells (ar (U cs.length)) 25 (0, 0)) := (World.putObj_heap_other (by omega)).trans hW.out
        have hre : (W.putObj (w1.heap.size + 3) (.loop { r with state := .exhausted, pending := none })).heap[w.heap.size]? = some (.cells (ar zf) 25 (0, 0)) := (World.putObj_heap_other (by omega)).trans hW.res
        have hD : BlockIs (W.putObj (w1.heap.size + 3) (.loop { r with state := .exhausted, pending := none })) (w1.heap.size + 2) (.deferred (some [])) := (World.putObj_heap_other (by omega)).trans hW.dfr
        have hB : Below w.heap.size w (W.putObj (w1.heap.size + 3) (.loop { r with state := .exhausted, pending := none })) := putObj_below hW.bel (by omega)
        generalize W.putObj (w1.heap.size + 3) (.loop { r with state := .exhausted, pending := none }) = W2 at ho hre hD hB ⊢
        obtain ⟨⟨c0, c1, c2, c3⟩, -⟩ := ar_cells ho
        obtain ⟨⟨e0, e1, e2, e3⟩, ⟨f0, f1, f2, f3⟩⟩ := ar_cells hre
        have HRE := Hd.mk hre
        have HB := Hd.mk hB
        clear ho hre d0 d1 d2 d3 hB hW
        have hD' := (set4_other (W := W2) (g := w.heap.size) (x := w1.heap.size + 2) (.int .i64 (U cs.length 0)) (.int .i64 (U cs.length 1)) (.int .i64 (U cs.length 2)) (.int .i64 (U cs.length 3)) 0 1 2 3 (by omega)).trans hD
        have HD := Hd.mk hD'
        clear hD hD'
        simp only [Act.marked]
        gi_wp2_with fail
        refine ⟨by simp, .inl ⟨_, _, rfl, run_takeDeferred HD.out, ?_⟩⟩
        refine ⟨_, results_cell_row2 Try.results18 _ _ _ 25 (ar (U cs.length)) (0, 0) _ rfl ?_ Try.underlying25 rfl (by kernel_rfl), rfl, putObj_below (set4_below HB.out _ _ _ _ _ _ _ _ (Nat.le_refl _)) (by omega)⟩
        exact (World.putObj_heap_other (by omega)).trans (ar_setall _ HRE.out)
    · exact hW.elim
end Go.Proofs.Ytppfhcocmpmadaa
