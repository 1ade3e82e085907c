/- Walk of picks.Order. -/
import Derived.Test.YtmahjgffadbdcaaA9
namespace Go.Proofs.Ytmahjgffadbdcaa
open Go.RowKit Go.Shelf
attribute [local go_sem] Oper.semAt_some
set_option linter.unusedVariables false

theorem wpListIn_store_row {F : Fence} {nF : Nat} {P : Program} {ops : Array Oper} {rest : List Oper} {o : Oper} {a : Act} {Q : Exit → Act → World → Prop} {w : World} (hgd : o.guard = none) (ty : TypeId) (x y : Operand) (ho : o.op = .store ty x y)
    (g : Nat) (cells : Array Value) (hx : a.eval x = .pointer (some ⟨g, 0, none⟩)) (hy : a.eval y = .agg cells)
    (t : TypeId) (old : Array Value) (hg : w.heap[g]? = some (.cells old t (0, 0))) (hi : (P.info? ty).map (·.size) = some cells.size)
    (hold : old.size = cells.size) (h1 : cells.all (·.oneCell') = true)
    (h : wpListIn F nF P ops Q rest (a.put o.dst undef) (w.setRow g cells)) : wpListIn F nF P ops Q (o :: rest) a w := by
  refine wpListIn_plain hgd fun K' hK' => ?_
  unfold Oper.wpIn
  refine ⟨by simp [Oper.about, ho], ?_⟩
  rw [Oper.semAt_plain F _ _ (by rw [ho]; intro c hc'; cases hc')]
  simp only [execOp, ho, hx, hy, Instr.storeAt, Instr.sureAddr, Sem.run_bind, Sem.run_pure, Result.andThen_ok, run_storeVar_row w g t ty old cells hg hi hold h1]
  exact hK' _ _ h

theorem results14 (tmps : Array Value) (W : World) : (results Try.f14 tmps).run Try.prog W = .ok (.tuple #[tmps.getD 4 undef, tmps.getD 5 undef, tmps.getD 6 undef, tmps.getD 7 undef]) W := by
  simp [results, Try.results14]

set_option maxRecDepth 100000 in
set_option maxHeartbeats 1000000 in
theorem order_no (v pv : Value) (l ps : List Int) (w : World) (h : SrcI w v l) (hp : SrcI w pv ps) (hn : oE l ps ≠ 0) : Calls Try.prog 14 #[v, pv] w fun e w' =>
    e = .returned (.tuple #[.slice none 0 0, .int .i64 0, .int .i64 0, .int .i64 (oE l ps)]) ∧ Below w.heap.size w w' := by
  have hsm := hp.small
  have H := Hd.mk h
  have HP := Hd.mk hp
  have HN := Hd.mk hn
  obtain ⟨a, c, rfl⟩ := h.shape
  obtain ⟨pa, pc, rfl⟩ := hp.shape
  clear h hp hn
  go_enter Try.func14, Try.ntmps14
  go_wp2_with fail
  refine (right_any _ l _ H.out).mono ?_
  rintro e w1 ⟨rfl, hB⟩
  cases hr : rightB l
  · have HE : Hd (oE l ps = 2) := ⟨by rw [oE, hr]; rfl⟩
    clear hr
    go_wp2_with fail
    refine bodyPost_ret (results14 _ _) rfl ?_
    exact ⟨by rw [HE.out]; rfl, hB⟩
  · have HE : Hd (oE l ps = 5) := ⟨by
      have := HN.out
      rw [oE, hr] at this ⊢
      simp only [if_true] at this ⊢
      split
      · rfl
      · rename_i h; rw [if_neg h] at this; exact absurd rfl this⟩
    have hlt : (65536 : Int) < (ps.length : Int) := by
      have := HE.out
      rw [oE, hr] at this
      simp only [if_true] at this
      split at this
      · omega
      · omega
    clear hr
    go_wp2_with fail
    refine bodyPost_ret (results14 _ _) rfl ?_
    exact ⟨by rw [HE.out]; rfl, hB⟩

end Go.Proofs.Ytmahjgffadbdcaa
