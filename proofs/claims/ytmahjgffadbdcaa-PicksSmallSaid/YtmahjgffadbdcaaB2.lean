/- Walk of picks.Order where the processes are ready ones. -/
import Derived.Test.YtmahjgffadbdcaaB1
namespace Go.Proofs.Ytmahjgffadbdcaa
open Go.RowKit Go.Shelf
attribute [local go_sem] Oper.semAt_some
set_option linter.unusedVariables false

theorem wpListIn_append_run {F : Fence} {nF : Nat} {P : Program} {ops : Array Oper} {rest : List Oper} {o : Oper} {a : Act} {Q : Exit → Act → World → Prop} {w w' : World} {v sv v' : Value} (hg : o.guard = none) (s x : Operand) (t : TypeId)
    (ho : o.op = .call { callee := .builtin .append, args := #[s, x], argTypes := #[t, t] }) (hs : a.eval s = v) (hx : a.eval x = sv)
    (hr : (Builtin.append_ #[t, t] o.type #[v, sv]).run P w = .ok v' w') (h : wpListIn F nF P ops Q rest (a.put o.dst v') w') : wpListIn F nF P ops Q (o :: rest) a w := by
  refine wpListIn_plain hg fun K hK' => ?_
  unfold Oper.wpIn
  refine ⟨?_, ?_⟩
  · simp [Oper.about, ho, resolve, Target.leads, Sem.run_pure]
  · rw [Oper.semAt_plain F _ _ (by rw [ho]; intro c hc'; cases hc')]
    simp [execOp, ho, resolve, invoke, builtin, hs, hx, hr, Result.andThen]
    exact hK' _ _ h

theorem app_block {w : World} {base : Nat} {v : Value} {xs : List Int} (h : AppI w base v xs) {g : Nat} (hg : v.ownBlock = some g) : ∃ c, w.heap[g]? = some (.cells c 3 (0, 0)) := by
  rcases h.2 with ⟨rfl, _⟩ | ⟨g', cap, cur, rfl, _, hh, _⟩
  · cases hg
  · simp only [Value.ownBlock, Option.some.injEq] at hg
    subst hg
    exact ⟨cur, hh⟩
theorem KeepD.grown {w w' : World} {base : Nat} {v : Value} {xs : List Int} (h : AppI w base v xs) (hg : w.grownBy w' v.ownBlock) : KeepD w w' := fun r hr =>
  (hg.block r (cells_lt hr) (fun e => by
    obtain ⟨c, hc⟩ := app_block h e.symm
    rw [hc] at hr; cases hr)).trans hr

/-- What stands in Order's loop. -/
structure OF (w : World) (G N n : Nat) (S out : List Int) (vo : Value) (ds : List Deferred) (W : World) : Prop where
  len : S.length = n
  asc : asc S
  rng : ∀ p ∈ S, 1 ≤ p ∧ p ≤ 16
  left : W.heap[G]? = some (.cells (lf S) 51 (0, 0))
  own : AppI W w.heap.size vo out
  outl : out.length + n = N
  bel : Below w.heap.size w W
  mks : Mks w.heap.size ds W
theorem OF.below {w : World} {G N n : Nat} {S out : List Int} {vo : Value} {ds : List Deferred} {W W' : World} (h : OF w G N n S out vo ds W) (hb : Below W.heap.size W W') : OF w G N n S out vo ds W' :=
  ⟨h.len, h.asc, h.rng, (hb.block _ (cells_lt h.left)).trans h.left, OwnE.below h.own hb, h.outl, h.bel.trans (hb.mono h.bel.size), h.mks.keep (KeepD.below hb)⟩
theorem OF.mark {w : World} {G N n : Nat} {S out : List Int} {vo : Value} {ds : List Deferred} {W W' : World} (h : OF w G N n S out vo ds W) (hb : Below W.heap.size W W') {D : Nat} (hD : W.heap.size ≤ D) (hn : W'.heap[D]? = some (.deferred (some []))) :
    OF w G N n S out vo (Ytmahjgffadbdcaa.mark D :: ds) W' := by
  have h' := h.below hb
  exact ⟨h'.len, h'.asc, h'.rng, h'.left, h'.own, h'.outl, h'.bel, h.mks.cons (KeepD.below hb) hD (Nat.le_trans h.bel.size hD) hn⟩
theorem OF.tail {w : World} {G N n : Nat} {S out : List Int} {vo : Value} {ds : List Deferred} {W : World} (h : OF w G N (n + 1) S out vo ds W) (hG : w.heap.size ≤ G) (hN : N ≤ 16) {i q : Nat} (hi : i < S.length) (hq : S[i] = (q : Int)) :
    ∃ v' w2, (Builtin.append_ #[24, 24] 24 #[vo, .slice (some ⟨(W.setCell ⟨G, q, none⟩ (.bool false)).heap.size, 0, none⟩) 1 1]).run Try.prog ((W.setCell ⟨G, q, none⟩ (.bool false)).alloc (.cells #[.int .i64 (q : Int)] 3)) = .ok v' w2 ∧
      OF w G N n (S.eraseIdx i) (out ++ [(q : Int)]) v' ds w2 := by
  have hne : vo.ownBlock ≠ some G := fun e => by
    obtain ⟨c, hc⟩ := app_block h.own e
    rw [h.left] at hc; cases hc
  have hq17 : q < 17 := by have := h.rng _ (List.getElem_mem hi); rw [hq] at this; omega
  have hG1 : W.grownBy (W.setCell ⟨G, q, none⟩ (.bool false)) (some G) :=
    ⟨rfl, rfl, rfl, by simp [World.setCell], fun k hk hne => Below.heap_setCell _ _ _ _ (by rintro rfl; exact hne rfl)⟩
  have hown : AppI (W.setCell ⟨G, q, none⟩ (.bool false)) w.heap.size vo out := OwnE.kept h.own hG1 (.inr hne)
  have hB1 : Below w.heap.size w (W.setCell ⟨G, q, none⟩ (.bool false)) := h.bel.setCell hG _
  obtain ⟨v', w2, hr, ho, hB2, hg2⟩ := push_i (q : Int) hown hB1 (by simpa [World.setCell] using h.bel.size) (by have := h.outl; omega)
  refine ⟨v', w2, hr, ?_, (h.asc).erase i, fun p hp => h.rng p (List.mem_of_mem_eraseIdx hp), ?_, ho, by rw [List.length_append]; have := h.outl; simp; omega, hB2, ?_⟩
  · rw [List.length_eraseIdx, if_pos hi]; have := h.len; omega
  · have hl : (W.setCell ⟨G, q, none⟩ (.bool false)).heap[G]? = some (.cells (lf (S.eraseIdx i)) 51 (0, 0)) := by
      rw [← lf_set q hq17 false (has_del (T := S.eraseIdx i) fun p => by rw [← hq]; exact erase_mem h.asc.nodup i hi p)]
      exact cells_set h.left _
    refine (hg2.block G ?_ ?_).trans ((Below.heap_alloc _ _ _ (cells_lt hl)).trans hl)
    · rw [World.size_alloc]; have := cells_lt hl; omega
    · exact fun e => hne e.symm
  · exact h.mks.keep ((KeepD.setCell h.left _).trans ((KeepD.alloc _ _).trans (KeepD.grown (OwnE.alloc hown _) hg2)))

end Go.Proofs.Ytmahjgffadbdcaa
