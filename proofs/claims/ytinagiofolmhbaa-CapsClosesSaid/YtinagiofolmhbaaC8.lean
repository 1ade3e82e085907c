/- Two tables, one beside the other (for CapsCloses). -/
import Derived.Test.YtinagiofolmhbaaC7
import Derived.Test.YtinagiofolmhbaaPL4
namespace Go.Proofs.Ytinagiofolmhbaa
open Go.RowKit
set_option linter.unusedVariables false
set_option linter.unusedSimpArgs false


/-- A copy stands while all that was laid since stands. -/
theorem beside2 {w w' : World} {pr : Nat → Prop} {M : Nat} {st : St} (h : TabAt w' (fun k => k < w.heap.size) M st) : Held (grow pr w w') w' (fun W => TabAt W (fun k => k < w.heap.size) M st) := by
  intro W hW
  obtain ⟨y, h⟩ := h
  refine ⟨y, h.frame (fun k hk => hW.block k (.inr ?_)) (fun k hk => Nat.lt_of_lt_of_le (h.prs k hk) hW.size) (fun k hk => (h.foot k hk).1)⟩
  have h1 := h.foot k hk
  exact ⟨Nat.le_of_not_lt h1.1, h1.2⟩
/-- All but a table's own blocks, protected. -/
theorem TabL.wide {y : Lay} {w : World} {pr : Nat → Prop} {M : Nat} {st : St} (h : TabL y w pr M st) : TabL y w (fun k => k < w.heap.size ∧ ¬ Foot y M k) M st :=
  h.frame (fun _ _ => rfl) (fun k hk => hk.1) (fun k hk hp => hp.2 hk)
/-- Two tables apart: the one as a fact beside the other. -/
theorem swap {y2 : Lay} {A : World} {p1 p2 : Nat → Prop} {M M2 : Nat} {st st2 : St} (h1 : TabAt A p1 M st) (h2 : TabL y2 A p2 M2 st2) (hin : ∀ k, Foot y2 M2 k → p1 k) : Held (fun k => k < A.heap.size ∧ ¬ Foot y2 M2 k) A (fun W => TabAt W (fun _ => False) M st) := by
  intro W hW
  obtain ⟨y, h⟩ := h1
  refine ⟨y, h.frame (fun k hk => hW.block k ⟨(h.foot k hk).2, fun hf => (h.foot k hk).1 (hin k hf)⟩) (fun k hk => hk.elim) (fun k hk hp => hp)⟩
theorem rowH_wide {y2 : Lay} {A : World} {M2 base : Nat} {v : Value} {l : List Hn} (h : OwnN hL A base 34 v l) (hf : ∀ k, Foot y2 M2 k → k < base) : Held (fun k => k < A.heap.size ∧ ¬ Foot y2 M2 k) A (fun W => OwnN hL W base 34 v l) := by
  intro W hW
  refine OwnN.same h fun g hv => hW.block g ?_
  have h1 := OwnN.lt h hv
  exact ⟨h1.2, fun h2 => by have := hf g h2; omega⟩
theorem rowI_wide {y2 : Lay} {A : World} {M2 base : Nat} {v : Value} {l : List Int} (h : AppI A base v l) (hf : ∀ k, Foot y2 M2 k → k < base) : Held (fun k => k < A.heap.size ∧ ¬ Foot y2 M2 k) A (fun W => AppI W base v l) := by
  intro W hW
  refine OwnE.same h fun g cur fr hg hv => hW.block g ?_
  have h1 := World.ownsRow.lt h g hv
  exact ⟨h1.2, fun h2 => by have := hf g h2; omega⟩

end Go.Proofs.Ytinagiofolmhbaa
