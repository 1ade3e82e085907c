/- A range over a function: the statement, and a call of yield, by the loop's record in the heap. -/
import Derived.RangeFuncNested
import Derived.RangeFuncBound
import Derived.RangeFuncCalls
import Derived.RangeFuncLeaves
import Derived.Shelf.Abstract
import Derived.OwnWalkIn
import Derived.TacticsInMore
import Derived.LoopNIn
import Derived.LoopIn
namespace Go.Proofs.Ytinagiofolmhbaa
open Go.RowKit Go.Shelf
variable {P : Program}

/-- The activation behind the statement: the mark of its block for deferred calls is laid. -/
def Act.marked (a : Act) (D : Nat) : Act := { a with defers := { target := .collected D, args := #[] } :: a.defers }

/-- What is asked when the iterator has returned. -/
def rangeQ (P : Program) (l : Nat) (r : Loop) (Q : Exit → Act → World → Prop) (a : Act) (e : Ending) (W : World) : Prop :=
  (∃ v, e = .returned v) ∧ ∃ st pe, st ≠ LoopState.busy ∧ W.heap[l]? = some (.loop { r with state := st, pending := pe }) ∧
    (match pe with
     | none => Q .normal a (W.putObj l (.loop { r with state := .exhausted, pending := none }))
     | some c => c.wpIn Fence.wide 0 P Q a (W.putObj l (.loop { r with state := .exhausted, pending := some c })))

/-- The record of a loop, laid when the statement began. -/
structure IsRec (r : Loop) (tmps : Array Value) (ps : Array Tmp) (assign body : Code) : Prop where
  st : r.state = .ready
  pe : r.pending = none
  tm : r.tmps = tmps
  pa : r.params = ps
  asg : r.assign = assign
  bod : r.body = body

theorem IsRec.same {r : Loop} {tmps : Array Value} {ps : Array Tmp} {assign body : Code} (h : IsRec r tmps ps assign body) : ({ r with state := .ready, pending := none } : Loop) = r := by
  obtain ⟨h1, h2, _, _, _, _⟩ := h
  cases r; simp_all

theorem range_enter {g : Operand} {ps : Array Tmp} {assign body : Code} {Q : Exit → Act → World → Prop} {a : Act} {w : World} (gf : Nat) (lb : Array Value)
    (hg : a.eval g = .func (.func gf) #[] lb) (eg : ∀ args w, (callFunc gf args).run P w = .ok (.enter gf args) w)
    (h : ∀ (r : Loop), IsRec r a.tmps ps assign body →
      Calls P gf (#[.func (.yield (w.heap.size + 1)) #[] #[]] ++ lb) ((w.alloc (.deferred (some []))).alloc (.loop r))
        (rangeQ P (w.heap.size + 1) r Q (Act.marked a w.heap.size))) :
    (Code.rangeFunc g ps assign body).wpIn Fence.wide 0 P Q a w := by
  refine wpIn_rangeFunc ?_
  intro fn _
  obtain ⟨r, hr⟩ : ∃ r : Loop, r = { state := .ready, pending := none, fn, tmps := a.tmps, params := ps, assign, body, defers := w.heap.size } := ⟨_, rfl⟩
  obtain ⟨W1, hW1⟩ : ∃ W1, (w.alloc (.deferred (some []))).alloc (.loop r) = W1 := ⟨_, rfl⟩
  have h' := h r ⟨by rw [hr], by rw [hr], by rw [hr], by rw [hr], by rw [hr], by rw [hr]⟩
  rw [hW1] at h'
  refine ⟨w.heap.size + 1, [{ target := .collected w.heap.size, args := #[] }], W1, { target := .fn (.func gf) lb, args := #[.func (.yield (w.heap.size + 1)) #[] #[]] }, W1, gf,
    #[.func (.yield (w.heap.size + 1)) #[] #[]] ++ lb, W1, ?_, ?_, fun _ _ => trivial, ?_, fun h => by simp [Fence.wide] at h, ?_⟩
  · rw [← hW1, hr]; exact run_enterLoop_outer _ _ _ _ _
  · simp only [resolve, hg]
    simp [go_sem]
  · simp [invoke, go_sem, eg]
  · refine (callsIn_wide.2 h').mono ?_
    rintro e W ⟨⟨v, rfl⟩, st, pe, hst, hl, hq⟩
    refine ⟨pe, _, run_endLoop hl hst, ?_⟩
    cases pe with
    | none => exact hq
    | some c => exact hq

/-- Block l is o: a fact that the walk does not look into. -/
def BlockIs (W : World) (l : Nat) (o : Obj) : Prop := W.heap[l]? = some o
/-- The world in which a round's body runs: the record is busy. -/
def busyW (W : World) (l : Nat) (r : Loop) : World := W.putObj l (.loop { r with state := .busy })
/-- The world behind a round that goes on. -/
def readyW (W : World) (l : Nat) (r : Loop) : World := W.putObj l (.loop r)
/-- The world behind a round that leaves by a jump. -/
def doneW (W : World) (l : Nat) (r : Loop) (c : Code) : World := W.putObj l (.loop { r with state := .done, pending := some c })

/-- What is asked where a round ends. -/
def roundQ (l : Nat) (r : Loop) (R : Ending → World → Prop) : Exit → Act → World → Prop
  | .normal, _, W => W.heap[l]? = some (.loop { r with state := .busy }) ∧ R (.returned (.bool true)) (readyW W l r)
  | .ret, _, W => W.heap[l]? = some (.loop { r with state := .busy }) ∧ R (.returned (.bool false)) (doneW W l r .ret)
  | .exit id, _, W => W.heap[l]? = some (.loop { r with state := .busy }) ∧ R (.returned (.bool false)) (doneW W l r (.exit id))
  | .goto t, _, W => W.heap[l]? = some (.loop { r with state := .busy }) ∧ R (.returned (.bool false)) (doneW W l r (.goto t))
  | .panic _, _, _ => False
  | .outgrown, _, _ => False

theorem yield_at {l : Nat} {r : Loop} {tmps : Array Value} {ps : Array Tmp} {assign body : Code} (hr : IsRec r tmps ps assign body) {args : Array Value} {W : World} {R : Ending → World → Prop} (hl : W.heap[l]? = some (.loop r))
    (hsz : args.size = ps.size)
    (h : assign.wpIn (Fence.wide.inRound l) 0 P (Exit.then (fun a₁ W₁ => BlockIs W₁ l (.loop r) ∧
        body.wpIn (Fence.wide.inRound l) 0 P (roundQ l r R) a₁ (busyW W₁ l r)) (fun _ _ _ => False))
      { tmps := (ps.zip args).foldl (fun tmps (t, a) => tmps.setIfInBounds t a) tmps, defers := [] } W) :
    YieldAt Fence.wide 0 P l args W R := by
  obtain ⟨hst, hpe, htm, hpa, has, hbo⟩ := hr
  subst htm hpa has hbo
  refine ⟨_, _, _, _, run_yield hl hsz, roundIn_of_wpIn trivial (wpIn_mono h ?_)⟩
  rintro e a₁ W₁ hq
  cases e with
  | normal =>
    obtain ⟨hl1, hb⟩ := hq
    refine ⟨_, run_beginRound hl1 hst, wpIn_mono hb ?_⟩
    rintro e2 a2 W2 hq2
    have hr : ({ r with state := .ready, pending := none } : Loop) = r := by cases r; simp_all
    cases e2 with
    | normal =>
      obtain ⟨h1, h2⟩ := hq2
      refine ⟨_, _, run_endRound none h1, ?_⟩
      simp only [Option.isNone_none, if_true]
      rw [hr]; exact h2
    | ret => obtain ⟨h1, h2⟩ := hq2; exact ⟨_, _, run_endRound (some .ret) h1, h2⟩
    | exit id => obtain ⟨h1, h2⟩ := hq2; exact ⟨_, _, run_endRound (some (.exit id)) h1, h2⟩
    | goto t => obtain ⟨h1, h2⟩ := hq2; exact ⟨_, _, run_endRound (some (.goto t)) h1, h2⟩
    | panic c => exact hq2.elim
    | outgrown => exact hq2.elim
  | exit id => exact hq.elim
  | goto t => exact hq.elim
  | ret => exact hq.elim
  | panic chain => exact hq.elim
  | outgrown => exact hq.elim

theorem cells_set {W : World} {b o : Nat} {c : Array Value} {e : TypeId} {f : Nat × Nat} (h : W.heap[b]? = some (.cells c e f)) (v : Value) :
    (W.setCell ⟨b, o, none⟩ v).heap[b]? = some (.cells (c.setIfInBounds o v) e f) := by
  obtain ⟨hlt, hk⟩ := Array.getElem?_eq_some_iff.1 h
  show (W.heap.modify b _)[b]? = _
  rw [Array.getElem?_eq_getElem (by rw [Array.size_modify]; exact hlt), Array.getElem_modify_self, hk]
  rfl
theorem cells_cell {W : World} {b : Nat} {c : Array Value} {e : TypeId} {f : Nat × Nat} (h : W.heap[b]? = some (.cells c e f)) (o : Nat) : W.cell? ⟨b, o, none⟩ = c[o]? := by
  simp [World.cell?, h]
theorem cells_free {W : World} {b : Nat} {c : Array Value} {e : TypeId} (h : W.heap[b]? = some (.cells c e (0, 0))) (o : Nat) : W.frozen? ⟨b, o, none⟩ = false := by
  simp [World.frozen?, h]
theorem putObj_below {B l : Nat} {w W : World} {o : Obj} (h : Below B w W) (hl : B ≤ l) : Below B w (W.putObj l o) :=
  h.trans ⟨rfl, rfl, rfl, by simp, fun k hk => World.putObj_heap_other (by omega)⟩
end Go.Proofs.Ytinagiofolmhbaa
