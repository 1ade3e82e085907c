/- Walk of picks.before. -/
import Derived.Test.YtmahjgffadbdcaaA4
namespace Go.Proofs.Ytmahjgffadbdcaa
open Go.RowKit Go.Shelf
attribute [local go_sem] Oper.semAt_some
set_option linter.unusedVariables false

theorem cnt_take_succ {S : List Int} {i : Nat} (h : i < S.length) (p : Int) : cntL (S.take (i + 1)) p = cntL (S.take i) p + if S[i] < p then 1 else 0 := by
  rw [List.take_succ_eq_append_getElem h, cntL_append, cntL_cons]; simp [cntL_nil]
theorem take_bound (S : List Int) (i : Nat) (p : Int) (h : S.length ≤ 100) : cntL (S.take i) p ≤ 100 := by
  have := cntL_le (S.take i) p
  rw [List.length_take] at this; omega

set_option maxRecDepth 100000 in
set_option maxHeartbeats 1000000 in
theorem before_any (G : Nat) (S : List Int) (p : Int) (hS : asc S) (hr : ∀ p ∈ S, 1 ≤ p ∧ p ≤ 16) (w : World) (hG : w.heap[G]? = some (.cells (lf S) 51 (0, 0))) :
    Calls Try.prog 44 #[.pointer (some ⟨G, 0, none⟩), .int .i64 p] w fun e w' => e = .returned (.int .i64 (cntL S p)) ∧ Below w.heap.size w w' := by
  have hlen : S.length ≤ 100 := by have := (OkO.len ⟨hr, hS.nodup⟩ : S.length ≤ 16); omega
  obtain ⟨z, hz⟩ : ∃ z, cntL S p = z := ⟨_, rfl⟩
  rw [hz]
  have HZ := Hd.mk hz
  clear hz
  have HS := Hd.mk hS
  have HR := Hd.mk hr
  have HG := Hd.mk hG
  have HGL := Hd.mk (cells_lt hG)
  have HLN := Hd.mk hlen
  clear hS hr hG hlen
  refine (callsIn_wide (n := 0)).1 ?_
  refine callsIn_of_wp_marks Try.func44 rfl trivial ?_
  simp only [Try.ntmps44, List.size_toArray, List.length_cons, List.length_nil, Nat.reduceAdd, Nat.reduceSub, Array.replicate_succ, Array.replicate_zero, List.push_toArray, List.append_toArray, List.nil_append, List.cons_append]
  gi_wp2_with fail
  refine (callsIn_wide.2 (all_any _ _)).mono ?_
  rintro e w2 ⟨rfl, rfl⟩
  gi_wp2_with fail
  have hgl := HGL.out
  obtain ⟨w2, hw2⟩ : ∃ w2, w2 = ((w.alloc (.cells #[.int .i64 p] 3)).alloc (.cells #[.int .i64 0] 3)).alloc (.cells #[.pointer (some ⟨G, 0, none⟩)] 69) := ⟨_, rfl⟩
  have hsz : w2.heap.size = w.heap.size + 3 := by rw [hw2]; simp
  have hB2 : Below w.heap.size w w2 := by rw [hw2]; exact (((Below.refl _ _).alloc (Nat.le_refl _) _).alloc (by simp) _).alloc (by simp; omega) _
  have hP2 : w2.heap[w.heap.size]? = some (.cells #[.int .i64 p] 3 (0, 0)) := by rw [hw2]; exact (Below.heap_alloc _ _ _ (by simp; omega)).trans ((Below.heap_alloc _ _ _ (by simp)).trans (World.alloc_heap_new w _))
  have hN2 : w2.heap[w.heap.size + 1]? = some (.cells #[.int .i64 0] 3 (0, 0)) := by rw [hw2]; exact (Below.heap_alloc _ _ _ (by simp)).trans (two_new w _ _)
  have hX2 : w2.heap[w.heap.size + 1 + 1]? = some (.cells #[.pointer (some ⟨G, 0, none⟩)] 69 (0, 0)) := by rw [hw2]; have := two_new (w.alloc (.cells #[.int .i64 p] 3)) (.cells #[.int .i64 0] 3) (.cells #[.pointer (some ⟨G, 0, none⟩)] 69); rwa [World.size_alloc] at this
  rw [← hw2]
  clear hw2
  have HLT := Hd.mk (show w.heap.size + 2 < w2.heap.size by omega)
  have HB2 := Hd.mk hB2
  have HGG := Hd.mk ((hB2.block _ hgl).trans HG.out)
  have HP2 := Hd.mk hP2
  have HN2 := Hd.mk hN2
  have HX2 := Hd.mk hX2
  clear hB2 hP2 hN2 hX2 hsz
  refine range_all G (w.heap.size + 1 + 1) S HS.out HR.out .ret rfl HGG.out HX2.out
    (fun i W => Below w.heap.size w W ∧ W.heap[w.heap.size]? = some (.cells #[.int .i64 p] 3 (0, 0)) ∧ W.heap[w.heap.size + 1]? = some (.cells #[.int .i64 (cntL (S.take i) p : Nat)] 3 (0, 0)))
    (fun W => False) ?_ ?_ ?_ ?_
  all_goals obtain ⟨D, hD⟩ : ∃ D, w2.heap.size = D := ⟨_, rfl⟩
  · intro o o'
    have := HLT.out
    exact ⟨(HB2.out.alloc (by omega) _).alloc (by simp; omega) _, ((Below.heap_alloc _ _ _ (by simp; omega)).trans (Below.heap_alloc _ _ _ (by omega))).trans HP2.out, ((Below.heap_alloc _ _ _ (by simp; omega)).trans (Below.heap_alloc _ _ _ (by omega))).trans HN2.out⟩
  · rintro r hr i W hi hF ⟨hB, hP, hN⟩
    have HCS := Hd.mk (cnt_take_succ hi p)
    have htb := take_bound S i p HLN.out
    obtain ⟨x, hx⟩ : ∃ x, S[i] = x := ⟨_, rfl⟩
    obtain ⟨m, hm⟩ : ∃ m, cntL (S.take i) p = m := ⟨_, rfl⟩
    rw [hx, hm] at HCS
    rw [hx]
    rw [hm] at hN htb
    rw [hD] at HLT hF ⊢
    have hsz := HLT.out
    refine yield_at hr hF.lp rfl ?_
    have HF := Hd.mk hF
    have HB := Hd.mk hB
    have HPP := Hd.mk hP
    have HNN := Hd.mk hN
    clear hF hB hP hN hx hm hD hsz
    gi_wp2_with fail
    refine ⟨HF.out.lp, ?_⟩
    have hsz := HLT.out
    have hlp : (busyW W (D + 1) r).heap[D + 1]? = some (.loop { r with state := .busy }) := World.putObj_heap_same (cells_lt HF.out.lp)
    have hdf : (busyW W (D + 1) r).heap[D]? = some (.deferred (some [])) := (busy_other (by omega)).trans HF.out.dfr
    have hbp : (busyW W (D + 1) r).heap[w.heap.size]? = some (.cells #[.int .i64 p] 3 (0, 0)) := (busy_other (by omega)).trans HPP.out
    have hbn : (busyW W (D + 1) r).heap[w.heap.size + 1]? = some (.cells #[.int .i64 (m : Int)] 3 (0, 0)) := (busy_other (by omega)).trans HNN.out
    have hbe : Below w.heap.size w (busyW W (D + 1) r) := putObj_below HB.out (by omega)
    have hbl : (busyW W (D + 1) r).heap[G]? = some (.cells (lf S) 51 (0, 0)) := (busy_other (by have := HGL.out; omega)).trans HF.out.left
    have hbx : (busyW W (D + 1) r).heap[w.heap.size + 1 + 1]? = some (.cells #[.pointer (some ⟨G, 0, none⟩)] 69 (0, 0)) := (busy_other (by omega)).trans HF.out.box
    generalize busyW W (D + 1) r = Wb at hlp hdf hbp hbn hbe hbl hbx ⊢
    have hc := cells_cell hbp 0
    have hc2 := cells_cell hbn 0
    have hf2 := cells_free hbn 0
    have HLP := Hd.mk hlp
    have HDF := Hd.mk hdf
    have HBP := Hd.mk hbp
    have HBN := Hd.mk hbn
    have HBE := Hd.mk hbe
    have HBL := Hd.mk hbl
    have HBX := Hd.mk hbx
    clear hlp hdf hbp hbn hbe hbl hbx HF HB HPP HNN hsz
    by_cases hlt : x < p
    · have hd : decide (x < p) = true := decide_eq_true hlt
      have HCS2 : Hd (cntL (S.take (i + 1)) p = m + 1) := ⟨by rw [HCS.out, if_pos hlt]⟩
      have hw : IntKind.i64.wrap ((m : Int) + 1) = ((m + 1 : Nat) : Int) := by rw [IntWalk.i64_in _ ⟨by omega, by omega⟩]; omega
      clear HCS
      gi_wp2_with fail
      have hsz := HLT.out
      have hg := HGL.out
      have so : ∀ {k : Nat} {o : Obj}, k ≠ w.heap.size + 1 → Wb.heap[k]? = some o → (Wb.setCell ⟨w.heap.size + 1, 0, none⟩ (.int .i64 ((m : Int) + 1))).heap[k]? = some o := fun hk h => (Below.heap_setCell _ _ _ _ hk).trans h
      have hl' := so (by omega) HLP.out
      refine ⟨hl', rfl, FrA.ready (by omega) (by omega) (so (by omega) HBL.out) (so (by omega) HBX.out) (so (by omega) HDF.out) hl', putObj_below (HBE.out.setCell (by simp) _) (by omega), (ready_other (by omega)).trans (so (by omega) HBP.out), ?_⟩
      rw [HCS2.out]
      exact (ready_other (by omega)).trans (cells_set HBN.out _)
    · have hd : decide (x < p) = false := decide_eq_false hlt
      have HCS2 : Hd (cntL (S.take (i + 1)) p = m) := ⟨by rw [HCS.out, if_neg hlt]; rfl⟩
      clear HCS
      gi_wp2_with fail
      have hsz := HLT.out
      have hg := HGL.out
      refine ⟨HLP.out, rfl, FrA.ready (by omega) (by omega) HBL.out HBX.out HDF.out HLP.out, putObj_below HBE.out (by omega), (ready_other (by omega)).trans HBP.out, ?_⟩
      rw [HCS2.out]
      exact (ready_other (by omega)).trans HBN.out
  · rintro r W hF ⟨hB, hP, hN⟩
    rw [List.take_length, HZ.out] at hN
    rw [hD] at HLT hF ⊢
    have hsz := HLT.out
    have hdf : (W.putObj (D + 1) (.loop { r with state := .exhausted, pending := none })).heap[D]? = some (.deferred (some [])) := (World.putObj_heap_other (by omega)).trans hF.dfr
    have hbn : (W.putObj (D + 1) (.loop { r with state := .exhausted, pending := none })).heap[w.heap.size + 1]? = some (.cells #[.int .i64 (z : Int)] 3 (0, 0)) := (World.putObj_heap_other (by omega)).trans hN
    have hbe : Below w.heap.size w (W.putObj (D + 1) (.loop { r with state := .exhausted, pending := none })) := putObj_below hB (by omega)
    generalize W.putObj (D + 1) (.loop { r with state := .exhausted, pending := none }) = Wb at hdf hbn hbe ⊢
    have hc := cells_cell hbn 0
    have HDF := Hd.mk hdf
    have HBE := Hd.mk hbe
    clear hdf hbn hbe hF hB hP hN hD hsz
    simp only [Act.marked]
    gi_wp2_with fail
    have hsz := HLT.out
    refine ⟨by simp, .inl ⟨_, _, rfl, run_takeDeferred HDF.out, ?_⟩⟩
    exact ⟨_, by simp [results, Try.results44], rfl, putObj_below HBE.out (by omega)⟩
  · rintro r W hD1 hJ
    exact hJ.elim
end Go.Proofs.Ytmahjgffadbdcaa
