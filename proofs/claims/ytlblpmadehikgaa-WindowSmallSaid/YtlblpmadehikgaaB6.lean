/- slices.AppendSeq and Collect over the windows: the walks. -/
import Derived.Test.YtlblpmadehikgaaB5
namespace Go.Proofs.Ytlblpmadehikgaa
open Go.RowKit Go.Shelf
attribute [local go_sem] Oper.semAt_some
set_option linter.unusedVariables false

theorem winsL_len (ah h : Int) : ∀ (S : List Int) (o : Option (Int × Int)), (winsL ah h o S).length ≤ S.length
  | [], _ => by simp [winsL]
  | t :: ts, o => by
    rw [winsL]
    split
    · simp
    · split
      · exact Nat.le_trans (winsL_len ah h ts o) (by simp)
      · simpa using winsL_len ah h ts _
theorem AppW.start {w : World} {r : Loop} {X : List (Int × Int)} {W : World} (hB : Below (((w.alloc (.cells #[.slice none 0 0] 35)).alloc (.deferred (some []))).alloc (.loop r)).heap.size (((w.alloc (.cells #[.slice none 0 0] 35)).alloc (.deferred (some []))).alloc (.loop r)) W) : AppW w r X W.heap.size 0 W := by
  have e1 : ∀ (w : World) (o : Obj), (w.alloc o).heap = w.heap.push o := fun _ _ => rfl
  have hsz := hB.size
  simp only [World.size_alloc] at hsz
  have hb : ∀ x, x < w.heap.size + 3 → W.heap[x]? = _ := fun x hx => hB.block x (by simp only [World.size_alloc]; omega)
  refine ⟨⟨.slice none 0 0, ?_, OwnC.nil _ _ _⟩, ?_, ?_, ?_, by omega, Nat.le_refl _⟩
  · rw [hb _ (by omega)]
    simp only [e1, Array.getElem?_push, Array.size_push]
    rw [if_neg (by omega), if_neg (by omega), if_pos trivial]
  · show (_ : Option Obj) = _
    rw [hb _ (by omega)]
    simp only [e1, Array.getElem?_push, Array.size_push]
    rw [if_neg (by omega), if_pos trivial]
  · rw [hb _ (by omega)]
    simp only [e1, Array.getElem?_push, Array.size_push]
    rw [if_pos trivial]
  · exact (bl_alloc (bl_alloc (bl_alloc (Below.refl _ _)))).trans ⟨hB.os, hB.tape, hB.output, hB.size, fun x hx => hB.block x (by simp only [World.size_alloc]; omega)⟩
theorem AppW.keep {w : World} {r : Loop} {X : List (Int × Int)} {Nn k : Nat} {W W' : World} (h : AppW w r X Nn k W) (hg : W.grownBy W' (some (w.heap.size + 3))) (hn : w.heap.size + 3 < Nn) : AppW w r X Nn k W' := by
  obtain ⟨v, hv, ho⟩ := h.out
  have hne : ∀ x, x < w.heap.size + 3 → W'.heap[x]? = W.heap[x]? := fun x hx => hg.block x (by have := h.hi; omega) (by intro e; cases e; omega)
  refine ⟨⟨v, (hne _ (by omega)).trans hv, OwnC.kept ho hg (ownc_ne ho hn)⟩, (hne _ (by omega)).trans h.dfr, (hne _ (by omega)).trans h.lp, h.bel.trans ⟨hg.os, hg.tape, hg.output, hg.size, fun x hx => hne x (by omega)⟩, h.lo, Nat.le_trans h.hi hg.size⟩

set_option maxRecDepth 100000 in
set_option maxHeartbeats 1000000 in
theorem appseq_wins (T HZ AH : Nat) (a : Option Addr) (c : Nat) (l S : List Int) (ah h : Int) (w : World)
    (hT : w.heap[T]? = some (.cells #[.slice a l.length c] 24 (0, 0))) (hH : w.heap[HZ]? = some (.cells #[.int .i64 h] 3 (0, 0))) (hA : w.heap[AH]? = some (.cells #[.int .i64 ah] 3 (0, 0)))
    (hs : SrcI w (.slice a l.length c) l) (hl : l.length ≤ 100000) (hsort : S.Pairwise (· ≤ ·)) (hperm : l.Perm S) (hah : aheadB ah = true) (hh : horB h = true) (hall : ∀ t ∈ S, timeB t = true) :
    Calls Try.prog 50 #[.slice none 0 0, .func (.func 47) #[] #[.pointer (some ⟨T, 0, none⟩), .pointer (some ⟨HZ, 0, none⟩), .pointer (some ⟨AH, 0, none⟩)]] w fun e w' =>
      ∃ v', e = .returned v' ∧ OwnC w' w.heap.size 28 v' (winsL ah h none S) ∧ Below w.heap.size w w' := by
  have HT := Hd.mk hT
  have HH := Hd.mk hH
  have HA := Hd.mk hA
  have HS := Hd.mk hs
  have HLL : Hd ((winsL ah h none S).length ≤ 100000) := ⟨by have := winsL_len ah h S none; have := hperm.length_eq; omega⟩
  clear hT hH hA hs
  refine (callsIn_wide (n := 0)).1 ?_
  refine callsIn_of_wp_marks Try.func50 rfl trivial ?_
  simp only [Try.ntmps50, List.size_toArray, List.length_cons, List.length_nil, Nat.reduceAdd, Nat.reduceSub, Array.replicate_succ, Array.replicate_zero, List.push_toArray, List.append_toArray, List.nil_append, List.cons_append]
  gi_wp2_with fail
  refine range_enter 47 #[.pointer (some ⟨T, 0, none⟩), .pointer (some ⟨HZ, 0, none⟩), .pointer (some ⟨AH, 0, none⟩)] rfl (enters_of Try.func47 (by kernel_rfl) rfl) ?_
  intro r hr
  simp only [World.size_alloc]
  have hB0 : Below w.heap.size w (((w.alloc (.cells #[.slice none 0 0] 35)).alloc (.deferred (some []))).alloc (.loop r)) := bl_alloc (bl_alloc (bl_alloc (Below.refl _ _)))
  have tH := lt_of_heap HH.out
  have tA := lt_of_heap HA.out
  have tT := lt_of_heap HT.out
  refine (wins1 T HZ AH (w.heap.size + 2) a c l S ah h _ (fun Nn k W => AppW w r (winsL ah h none S) Nn k W) (fun _ => False) ((hB0.block T tT).trans HT.out) ((hB0.block HZ tH).trans HH.out) ((hB0.block AH tA).trans HA.out)
    (HS.out.below hB0) hl hsort hperm hah hh hall (fun W hB => AppW.start hB) (fun Nn k W W' hI hg hn => hI.keep (by simpa using hg) (by simpa using hn)) (fun Nn k W hI => ⟨(hI.bel.block HZ tH).trans HH.out, (hI.bel.block AH tA).trans HA.out, hI.hi⟩) ?_).mono ?_
  · intro Nn k W hk hI
    refine yield_at hr hI.lp rfl ?_
    have HI := Hd.mk hI
    have HLP := Hd.mk hI.lp
    rcases hX : (winsL ah h none S)[k] with ⟨p, q⟩
    obtain ⟨v, v', w2, h0, h1, hn, hrun, h2, h3, h4, h5, h6, ⟨a', n', c', rfl⟩, ⟨a2, n2, c2, rfl⟩⟩ := hI.step hk HLL.out p q hX
    have H0 := Hd.mk h0
    have H1 := Hd.mk h1
    have HN := Hd.mk hn
    have HRUN := Hd.mk hrun
    have HL4 := Hd.mk h4
    have HFIN := Hd.mk h5
    have HOLD := Hd.mk h6
    clear hI hX h0 h1 hn hrun h4 h5 h6
    gi_wp2_with fail
    refine ⟨H0.out, ?_⟩
    have h1 := H1.out
    have hn := HN.out
    have hrun := HRUN.out
    obtain ⟨Wb, hWb⟩ : ∃ Wb, busyW (W.alloc (.cells #[.int .i64 p, .int .i64 q] 28)) (w.heap.size + 2) r = Wb := ⟨_, rfl⟩
    rw [hWb] at h1 hn hrun ⊢
    have c0 := cells_cell h1 0
    have n0 := cells_cell hn 0
    have n1 := cells_cell hn 1
    clear hWb H1 HN HRUN h1 hn
    gi_wp2_with (gi_at_builtin; refine wpListIn_append_run rfl _ _ _ rfl rfl rfl hrun ?_; clear hrun)
    exact ⟨HL4.out, rfl, HFIN.out, fun x hx hn => HOLD.out x (by simpa using hx) hn⟩
  · rintro e W ⟨hv, ⟨Nn, hW⟩ | hW⟩
    · refine ⟨hv, .ready, none, by simp, ?_, ?_⟩
      · rw [hW.lp, hr.same]
      · obtain ⟨v, hv1, ho⟩ := hW.out
        have hlo := hW.lo
        rw [List.take_length] at ho
        have hgb : W.grownBy (W.putObj (w.heap.size + 2) (.loop { r with state := .exhausted, pending := none })) (some (w.heap.size + 2)) := busy_grown _ _ _
        have hv2 : (W.putObj (w.heap.size + 2) (.loop { r with state := .exhausted, pending := none })).heap[w.heap.size]? = some (.cells #[v] 35 (0, 0)) := (World.putObj_heap_other (by omega)).trans hv1
        have ho2 : OwnC (W.putObj (w.heap.size + 2) (.loop { r with state := .exhausted, pending := none })) Nn 28 v (winsL ah h none S) := OwnC.kept ho hgb (ownc_ne ho (by omega))
        have hD : BlockIs (W.putObj (w.heap.size + 2) (.loop { r with state := .exhausted, pending := none })) (w.heap.size + 1) (.deferred (some [])) := (World.putObj_heap_other (by omega)).trans hW.dfr
        have hBb : Below w.heap.size w (W.putObj (w.heap.size + 2) (.loop { r with state := .exhausted, pending := none })) := putObj_below hW.bel (by omega)
        generalize W.putObj (w.heap.size + 2) (.loop { r with state := .exhausted, pending := none }) = W2 at hv2 ho2 hD hBb ⊢
        have c0 := cells_cell hv2 0
        have HO := Hd.mk ho2
        have HD := Hd.mk hD
        have HBb := Hd.mk hBb
        have HLO := Hd.mk hlo
        clear hv1 ho hgb hv2 ho2 hD hBb hW hlo
        simp only [Act.marked]
        gi_wp2_with fail
        refine ⟨by simp, .inl ⟨_, _, rfl, run_takeDeferred HD.out, ?_⟩⟩
        have hg3 : ∀ o, W2.grownBy (W2.putObj (w.heap.size + 1) o) (some (w.heap.size + 1)) := fun o => busy_grown _ _ _
        have hfin : OwnC (W2.putObj (w.heap.size + 1) (.deferred none)) w.heap.size 28 v (winsL ah h none S) := OwnC.lower (OwnC.kept HO.out (hg3 _) (ownc_ne HO.out (by have := HLO.out; omega))) (by have := HLO.out; omega)
        have hbf : Below w.heap.size w (W2.putObj (w.heap.size + 1) (.deferred none)) := putObj_below HBb.out (by omega)
        exact ⟨_, results_tmp rfl _ _ _, v, rfl, hfin, hbf⟩
    · exact hW.elim

theorem collect_wins (T HZ AH : Nat) (a : Option Addr) (c : Nat) (l S : List Int) (ah h : Int) (w : World)
    (hT : w.heap[T]? = some (.cells #[.slice a l.length c] 24 (0, 0))) (hH : w.heap[HZ]? = some (.cells #[.int .i64 h] 3 (0, 0))) (hA : w.heap[AH]? = some (.cells #[.int .i64 ah] 3 (0, 0)))
    (hs : SrcI w (.slice a l.length c) l) (hl : l.length ≤ 100000) (hsort : S.Pairwise (· ≤ ·)) (hperm : l.Perm S) (hah : aheadB ah = true) (hh : horB h = true) (hall : ∀ t ∈ S, timeB t = true) :
    Calls Try.prog 35 #[.func (.func 47) #[] #[.pointer (some ⟨T, 0, none⟩), .pointer (some ⟨HZ, 0, none⟩), .pointer (some ⟨AH, 0, none⟩)]] w fun e w' =>
      ∃ v', e = .returned v' ∧ OwnC w' w.heap.size 28 v' (winsL ah h none S) ∧ Below w.heap.size w w' := by
  have HX := Hd.mk (appseq_wins T HZ AH a c l S ah h w hT hH hA hs hl hsort hperm hah hh hall)
  clear hT hH hA hs
  go_enter Try.func35, Try.ntmps35
  go_wp2_with fail
  refine HX.out.mono ?_
  rintro e w1 ⟨v', rfl, hO, hB⟩
  have HO := Hd.mk hO
  have HB := Hd.mk hB
  clear hO hB
  go_wp2_with fail
  go_ret
  exact ⟨_, rfl, HO.out, HB.out⟩
end Go.Proofs.Ytlblpmadehikgaa
