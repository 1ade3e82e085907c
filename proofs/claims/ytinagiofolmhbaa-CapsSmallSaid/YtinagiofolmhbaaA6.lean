/- maps.Keys, slices.Collect and slices.Sorted over the table's map. -/
import Derived.Test.YtinagiofolmhbaaA5
import Derived.BigRegionIn
import Derived.Maps.OwnIn
namespace Go.Proofs.Ytinagiofolmhbaa
open Go.RowKit Go.Shelf
attribute [local go_sem] Oper.semAt_some
set_option linter.unusedVariables false
set_option linter.unusedSimpArgs false

section
variable {P : Program} {ops : Array Oper} {rest : List Oper} {o : Oper} {a : Act} {Q : Exit → Act → World → Prop}
/-- A step of a range over a map of handles. -/
theorem wpList_next_h {w : World} {r b : Nat} {L dn : List (Int × Hn)} (hg : o.guard = none) (it : Operand) (hop : o.op = Op.next it false) (hit : a.eval it = .pointer (some ⟨r, 0, none⟩))
    (h : RangeL kI hV w r b L dn)
    (hDone : (∀ p ∈ L, p ∈ dn) → wpList P ops Q rest (a.put o.dst (.tuple #[.bool false])) w)
    (hMore : ∀ (k : Int) (x : Hn) (w' : World), (k, x) ∈ L → (k, x) ∉ dn → RangeL kI hV w' r b L ((k, x) :: dn) → w.grownBy w' (some r) → w'.heap.size = w.heap.size →
      (Instr.entry (.pointer (some ⟨r, 0, none⟩))).run P w' = .ok (.tuple #[.int .i64 k, .agg #[.int .i64 x.ser, .int .i64 x.par, .int .i64 x.port, .int .i64 x.hol, h8 x.rts]]) w' → wpList P ops Q rest (a.put o.dst (.tuple #[.bool true, .int .i64 k, .agg #[.int .i64 x.ser, .int .i64 x.par, .int .i64 x.port, .int .i64 x.hol, h8 x.rts]])) w') :
    wpList P ops Q (o :: rest) a w := by
  refine wpList_plain hg fun K' hK' => ?_
  unfold Oper.wp
  rcases h.next (P := P) o.type with ⟨hall, hrun⟩ | ⟨p, w', h1, h2, hrun, h3, h4, h5, h6⟩
  · simp [execOp, hop, hit, hrun, Result.andThen]
    exact hK' _ _ (hDone hall)
  · simp [execOp, hop, hit, hrun, Result.andThen]
    exact hK' _ _ (hMore p.1 p.2 w' h1 h2 h3 h4 h5 h6)
theorem wpListIn_next_h {F : Fence} {nF : Nat} {w : World} {r b : Nat} {L dn : List (Int × Hn)} (hg : o.guard = none) (it : Operand) (hop : o.op = Op.next it false) (hit : a.eval it = .pointer (some ⟨r, 0, none⟩))
    (h : RangeL kI hV w r b L dn)
    (hDone : (∀ p ∈ L, p ∈ dn) → wpListIn F nF P ops Q rest (a.put o.dst (.tuple #[.bool false])) w)
    (hMore : ∀ (k : Int) (x : Hn) (w' : World), (k, x) ∈ L → (k, x) ∉ dn → RangeL kI hV w' r b L ((k, x) :: dn) → w.grownBy w' (some r) → w'.heap.size = w.heap.size →
      (Instr.entry (.pointer (some ⟨r, 0, none⟩))).run P w' = .ok (.tuple #[.int .i64 k, .agg #[.int .i64 x.ser, .int .i64 x.par, .int .i64 x.port, .int .i64 x.hol, h8 x.rts]]) w' → wpListIn F nF P ops Q rest (a.put o.dst (.tuple #[.bool true, .int .i64 k, .agg #[.int .i64 x.ser, .int .i64 x.par, .int .i64 x.port, .int .i64 x.hol, h8 x.rts]])) w') :
    wpListIn F nF P ops Q (o :: rest) a w := by
  refine wpListIn_plain hg fun K hK' => ?_
  unfold Oper.wpIn
  refine ⟨?_, ?_⟩
  · simp [Oper.about, hop, Sem.run_pure]
  · rw [Oper.semAt_plain F _ _ (by rw [hop]; intro c hc'; cases hc')]
    rcases h.next (P := P) o.type with ⟨hall, hrun⟩ | ⟨p, w', h1, h2, hrun, h3, h4, h5, h6⟩
    · simp [execOp, hop, hit, hrun, Result.andThen]
      exact hK' _ _ (hDone hall)
    · simp [execOp, hop, hit, hrun, Result.andThen]
      exact hK' _ _ (hMore p.1 p.2 w' h1 h2 h3 h4 h5 h6)
end
theorem RangeL.dns {α β : Type} {ek : α → Value} {ev : β → Value} {w : World} {r b : Nat} {L dn : List (α × β)} (h : RangeL ek ev w r b L dn) : dn.Nodup ∧ ∀ p ∈ dn, p ∈ L := by
  obtain ⟨es, clock, seen, since, c0, h1, h2, hS, hE, hn, hold, hsc, hscl, hsz, hdn, hsub, hco⟩ := h
  exact ⟨hdn, hsub⟩
/-- maps.Keys. -/
theorem keys_any (mb : Nat) (w : World) : Calls Try.prog 41 #[.map (some mb)] w fun e w' =>
    e = .returned (.func (.func 57) #[] #[.pointer (some ⟨w.heap.size, 0, none⟩)]) ∧ w' = w.alloc (.cells #[.map (some mb)] 66) := by
  go_enter Try.func41, Try.ntmps41
  go_wp2_with fail
  go_ret
  exact ⟨rfl, rfl⟩

set_option maxRecDepth 100000 in
set_option maxHeartbeats 4000000 in
/-- The iterator over a map's keys: R is its own block. -/
theorem keys1 (B Lp mb R : Nat) (L : List (Int × Hn)) (I : List (Int × Hn) → World → Prop) (W0 : World) (hR : W0.heap.size = R)
    (hb : W0.heap[B]? = some (.cells #[.map (some mb)] 66 (0, 0))) (hm : MapL Try.prog 3 kI hV W0 mb L)
    (hI : ∀ dn W, I dn W → W.heap[mb]? = W0.heap[mb]?)
    (h0 : ∀ W, W0.grownBy W none → W.heap.size = R + 1 → I [] W)
    (hkeep : ∀ dn W W', I dn W → W.grownBy W' (some R) → W'.heap.size = W.heap.size → I dn W')
    (hY : ∀ p dn W, p ∈ L → p ∉ dn → I dn W →
      YieldAt Fence.wide 0 Try.prog Lp #[.int .i64 p.1] W (fun e W'' => e = .returned (.bool true) ∧ I (p :: dn) W'' ∧ W''.heap[R]? = W.heap[R]?)) :
    Calls Try.prog 57 #[.func (.yield Lp) #[] #[], .pointer (some ⟨B, 0, none⟩)] W0 fun e W' => (∃ v, e = .returned v) ∧ ∃ dn, I dn W' ∧ dn.Nodup ∧ (∀ p ∈ dn, p ∈ L) ∧ ∀ p ∈ L, p ∈ dn := by
  have HI := Hd.mk hI
  have HY := Hd.mk hY
  have HKE := Hd.mk hkeep
  obtain ⟨W1, hrun, hr1, hg1, hs1⟩ := hm.range Try.underlying66
  rw [hR] at hrun hr1 hs1
  have HS : Hd (I [] W1 ∧ RangeL kI hV W1 R mb L []) := ⟨h0 W1 hg1 hs1, hr1⟩
  have HM0 := Hd.mk hm
  have hb0 := cells_cell hb 0
  clear hI hY h0 hkeep hm hr1 hg1 hs1 hb
  refine (callsIn_wide (n := 0)).1 ?_
  refine callsIn_of_wp Try.func57 rfl trivial ?_
  simp only [Try.ntmps57, List.size_toArray, List.length_cons, List.length_nil, Nat.reduceAdd, Nat.reduceSub, Array.replicate_succ, Array.replicate_zero, List.push_toArray, List.append_toArray, List.nil_append, List.cons_append]
  gi_wp2_with fail
  clear hb0 hrun hR
  gi_loopw [] (fun W => ∃ dn, Hd (I dn W ∧ RangeL kI hV W R mb L dn)) (fun W => L.length - (W.iterSeen R).size)
  case atStart => exact ⟨[], HS⟩
  case round =>
    obtain ⟨dn, HD⟩ := hrel
    have hseen := HD.out.2.seen
    have HSEEN := Hd.mk hseen
    clear hseen
    gi_wp2_with (gi_at_next; refine wpListIn_next_h rfl _ rfl rfl HD.out.2 ?_ ?_)
    · intro hall
      have HALL := Hd.mk hall
      clear hall
      gi_wp2_with fail
      go_end0
      exact ⟨⟨_, rfl⟩, dn, HD.out.1, HD.out.2.dns.1, HD.out.2.dns.2, fun p hp => HALL.out p.1 p.2 hp⟩
    · intro k x w' h1 h2 h3 h4 h5 hent
      have hy0 := HY.out (k, x) dn w' h1 h2 (HKE.out dn wr w' HD.out.1 h4 h5)
      obtain ⟨fn, tmps, asg, body, hy, hR⟩ := hy0
      have HRR := Hd.mk hR
      have HR3 := Hd.mk h3
      have HW' := Hd.mk (HI.out dn w' (HKE.out dn wr w' HD.out.1 h4 h5))
      have HH1 := Hd.mk h1
      clear hR h1 h2 h3 h4 h5
      gi_wp2_with fail
      refine HRR.out.mono ?_
      rintro e W2 ⟨rfl, hI2, hk2⟩
      have HR2 : Hd (RangeL kI hV W2 R mb L ((k, x) :: dn)) := ⟨HR3.out.same ((HI.out _ _ hI2).trans HW'.out.symm) hk2⟩
      have HI2 := Hd.mk hI2
      clear hI2 hk2 HRR hy hent
      gi_wp2_with fail
      go_roundw
      case rel => exact ⟨(k, x) :: dn, ⟨HI2.out, HR2.out⟩⟩
      case measure =>
        have e1 := HSEEN.out
        have e2 := HR2.out.seen
        have e3 := HR2.out.fits
        rw [e1, e2]
        simp only [List.length_cons] at e3 ⊢
        omega
end Go.Proofs.Ytinagiofolmhbaa
