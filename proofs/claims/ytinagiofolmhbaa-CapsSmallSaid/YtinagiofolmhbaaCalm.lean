/- A drawn region inside a fence, a round in it or not, whose operations call nothing: it may be walked as one outside. -/
import Derived.Test.YtinagiofolmhbaaOwn
import Derived.Deep.RegionHeld
import Derived.OrdersIn
namespace Go.Proofs.Ytinagiofolmhbaa
set_option linter.unusedVariables false
set_option linter.unusedSimpArgs false

def CalmS (s : Sem Next) : Prop := ∀ P w, (∃ v w', s.run P w = .ok (.value v) w') ∨ ∃ e w', s.run P w = .halt e w'
theorem CalmS.pure (v : Value) : CalmS (Pure.pure (Next.value v)) := fun P w => .inl ⟨v, w, rfl⟩
theorem CalmS.bind {α : Type} (s : Sem α) {f : α → Sem Next} (h : ∀ x, CalmS (f x)) : CalmS (s >>= f) := by
  intro P w
  simp only [Sem.run_bind]
  cases hs : s.run P w with
  | ok x w' => exact h x P w'
  | halt e w' => exact .inr ⟨e, w', rfl⟩
theorem CalmS.halt (e : Halt) : CalmS (Sem.halt e) := fun P w => .inr ⟨e, w, rfl⟩

theorem CalmS.panic (v : Value) : CalmS (goPanic v) := fun P w => .inr ⟨_, _, rfl⟩

def calmOp : Op → Bool
  | .move _ | .assign _ | .load _ _ | .binOp _ _ _ _ _ | .unOp _ _ _ | .fieldAddr _ _ _ | .field _ _ _ | .indexAddr _ _ _ | .lookup _ _ _ _ | .extract _ _ | .convert _ _ _ | .slice _ _ _ _ _ => true
  | .nilCheck _ => true
  | _ => false

theorem calm_exec {o : Oper} (hc : calmOp o.op = true) (ρ : Operand → Value) : CalmS (execOp ρ o) := by
  unfold execOp
  cases ho : o.op <;> rw [ho] at hc <;> simp only [calmOp, Bool.false_eq_true] at hc <;> simp only []
  case nilCheck x =>
    split
    · exact CalmS.bind _ fun x => .panic _
    · exact CalmS.bind _ fun x => .panic _
    · exact CalmS.bind _ fun x => .panic _
    · split
      · exact CalmS.bind _ fun x => .panic _
      · refine CalmS.bind _ fun x => ?_
        refine CalmS.bind _ fun y => ?_
        split
        · exact CalmS.bind _ fun x => .pure _
        · exact .pure _
      · exact .pure _
    · exact .pure _
  all_goals first
    | exact .pure _
    | exact CalmS.bind _ fun x => .pure _

theorem calm_about {o : Oper} (hc : calmOp o.op = true) (P : Program) (w : World) (ρ : Operand → Value) : o.about P w ρ = none := by
  unfold Oper.about
  cases ho : o.op <;> rw [ho] at hc <;> simp only [calmOp, Bool.false_eq_true] at hc <;> rfl

theorem calm_defer {o : Oper} (hc : calmOp o.op = true) : ∀ c, o.op ≠ .defer c := by
  intro c e
  rw [e] at hc
  cases hc

/-- Only the plain end counts. -/
def onlyN (Q : Exit → Act → World → Prop) : Exit → Act → World → Prop := fun e a w => e = .normal ∧ Q e a w

theorem calm_any {F : Fence} {n : Nat} {P : Program} {md : Region.Mode} {ops : Array Oper} {Q : Exit → Act → World → Prop} (hc : ∀ (i : Nat) o, ops[i]? = some o → calmOp o.op = true) :
    ∀ fuel listed a w, wpAny P md ops (onlyN Q) fuel listed a w → wpAnyIn F n P md ops Q fuel listed a w := by
  intro fuel
  induction fuel with
  | zero => intro listed a w h; exact ⟨h.1, h.2.2⟩
  | succ fuel ih =>
    intro listed a w h
    refine ⟨fun h0 => (h.1 h0).2, fun i hi => ?_⟩
    have h1 := h.2 i hi
    unfold wpOp at h1
    unfold wpOpIn
    cases ho : ops[i]? with
    | none => rw [ho] at h1; exact ih _ _ _ h1
    | some o =>
      rw [ho] at h1
      have hco := hc i o ho
      have hab : ∀ f, o.about P w a.eval = some f → F.fn f := by
        intro f hf
        rw [calm_about hco P w a.eval] at hf
        cases hf
      simp only at h1 ⊢
      split
      · rename_i hw
        simp only [hw, if_true] at h1
        rcases h1 with h1 | ⟨_, h2⟩
        · refine ⟨hab, ?_⟩
          unfold Oper.wp at h1
          rw [Oper.semAt_eq _ _ _ (calm_defer hco)]
          rcases calm_exec hco a.eval P w with ⟨v, w', e⟩ | ⟨e, w', he⟩
          · rw [e] at h1 ⊢
            exact ih _ _ _ h1
          · rw [he] at h1 ⊢
            cases e <;> first | exact False.elim h1 | (exact absurd h1.1 (by intro e; cases e))
        · obtain ⟨_, _, h3, _⟩ := h2
          cases h3
      · rename_i hw
        simp only [hw] at h1
        exact ⟨hab, ih _ _ _ h1⟩

/-- The beginning: a drawn region that reads, inside any fence, walked by 'wpAnyH_take'. -/
theorem wpIn_region_calm {F : Fence} {n : Nat} {P : Program} {id : Nat} {ops : Array Oper} {Q : Exit → Act → World → Prop} {a : Act} {w : World} {S : World → Prop} (hc : ops.all (fun o => calmOp o.op) = true) (hm : P.follows .mixedOrders = true) (hS : S w.drew)
    (h : S w.drew → wpAnyH P .any ops (onlyN Q) S ops.size (Array.replicate ops.size false) a w.drew) : (Code.region id ops true).wpIn F n P Q a w := by
  refine wpIn_region_any hm (calm_any ?_ _ _ _ _ (wpAny_of_held _ _ _ _ (h hS)))
  intro i o ho
  obtain ⟨hi, ho'⟩ := Array.getElem?_eq_some_iff.1 ho
  have := (Array.all_eq_true.1 hc) i hi
  rw [ho'] at this
  exact this
/-- 'wpAnyH_take', the operation read off the list, its guard decided. -/
theorem takeW {P : Program} {md : Region.Mode} {ops : Array Oper} {Q : Exit → Act → World → Prop} {S : World → Prop} (i : Nat) {oi : Oper} (v : Value) {fuel : Nat} {listed : Array Bool} {a : Act} {w : World} (hi : ops.toList[i]? = some oi)
    (hs : Region.noSelect ops = true) (hf : Region.free md ops listed i = true) (hr : (Region.ready md ops listed).contains i = true)
    (hQ : ∀ c a w, Q (.panic c) (a.put oi.dst v) w → Q (.panic c) a w) (hw : Region.wanted oi (yielded ops a.tmps) = true) (hy : ∀ w, S w → (execOp a.eval oi).run P w = .ok (.value v) w) (hS : S w)
    (h : wpAnyH P md ops Q S fuel (listed.setIfInBounds i true) (a.put oi.dst v) w) : wpAnyH P md ops Q S (fuel + 1) listed a w :=
  wpAnyH_take (by rw [← Array.getElem?_toList]; exact hi) hs hf hr hQ (Or.inl ⟨hw, hy⟩) hS h
theorem onlyN_panic {Q : Exit → Act → World → Prop} {dst : Option Tmp} {v : Value} : ∀ c a w, onlyN Q (.panic c) (a.put dst v) w → onlyN Q (.panic c) a w := by
  rintro c a w ⟨h, _⟩; cases h
end Go.Proofs.Ytinagiofolmhbaa
