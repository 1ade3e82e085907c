/- The reference's memory as it lies in the world: rows of rows that are only read. -/
import Derived.Test.YtnhkadknibinfaaE4
namespace Go.Proofs.Ytnhkadknibinfaa
open Go.RowKit
set_option linter.unusedVariables false

/-- A slice in protected blocks, whose elements read as xs. -/
def PList {α : Type} (R : Value → α → Prop) (pr : Nat → Prop) (W : World) (v : Value) (xs : List α) : Prop :=
  (xs = [] ∧ ∃ a c, v = .slice a 0 c ∧ c ≤ maxLen ∧ (a = none → c = 0)) ∨
  ∃ b off c, ∃ vs : Nat → Value, v = .slice (some ⟨b, off, none⟩) xs.length c ∧ xs.length ≤ c ∧ c ≤ maxLen ∧ pr b ∧ b < W.heap.size ∧ ∀ k (hk : k < xs.length), W.cell? ⟨b, off + k, none⟩ = some (vs k) ∧ R (vs k) xs[k]
theorem PList.mono {α : Type} {R R' : Value → α → Prop} {pr pr' : Nat → Prop} {W W' : World} {v : Value} {xs : List α} (h : PList R pr W v xs) (hR : ∀ v x, R v x → R' v x) (hp : ∀ k, pr k → k < W.heap.size → pr' k)
    (hk : ∀ k, pr k → k < W.heap.size → W'.heap[k]? = W.heap[k]?) (hs : W.heap.size ≤ W'.heap.size) : PList R' pr' W' v xs := by
  rcases h with h | ⟨b, off, c, vs, h1, h2, h3, h4, h5, h6⟩
  · exact .inl h
  · refine .inr ⟨b, off, c, vs, h1, h2, h3, hp b h4 h5, Nat.lt_of_lt_of_le h5 hs, fun k hk' => ⟨?_, hR _ _ (h6 k hk').2⟩⟩
    rw [← (h6 k hk').1]
    unfold World.cell?
    rw [hk b h4 h5]
theorem PList.shape {α : Type} {R : Value → α → Prop} {pr : Nat → Prop} {W : World} {v : Value} {xs : List α} (h : PList R pr W v xs) : ∃ a c, v = .slice a xs.length c ∧ xs.length ≤ c ∧ c ≤ 9223372036854775807 := by
  rcases h with ⟨rfl, a, c, h, hc, _⟩ | ⟨b, off, c, vs, h1, h2, h3, _⟩
  · exact ⟨a, c, h, by simp, by simp only [maxLen] at hc; omega⟩
  · exact ⟨_, c, h1, h2, by simp only [maxLen] at h3; omega⟩
theorem PList.at {α : Type} {R : Value → α → Prop} {pr : Nat → Prop} {W : World} {a : Option Addr} {n c : Nat} {xs : List α} (h : PList R pr W (.slice a n c) xs) (k : Nat) (hk : k < xs.length) :
    ∃ b off vk, a = some ⟨b, off, none⟩ ∧ pr b ∧ b < W.heap.size ∧ W.cell? ⟨b, off + k, none⟩ = some vk ∧ R vk xs[k] := by
  rcases h with ⟨rfl, h⟩ | ⟨b, off, c', vs, h1, h2, h3, h4, h5, h6⟩
  · simp at hk
  · simp only [Value.slice.injEq] at h1
    exact ⟨b, off, vs k, h1.1, h4, h5, h6 k hk⟩
theorem PList.take {α : Type} {R : Value → α → Prop} {pr : Nat → Prop} {W : World} {a : Option Addr} {n c : Nat} {xs : List α} (h : PList R pr W (.slice a n c) xs) (m : Nat) (hm : m ≤ xs.length) : PList R pr W (.slice a m c) (xs.take m) := by
  have hl : (xs.take m).length = m := by simp; omega
  rcases h with ⟨rfl, a', c', h, hc⟩ | ⟨b, off, c', vs, h1, h2, h3, h4, h5, h6⟩
  · simp at hm
    subst hm
    simp only [Value.slice.injEq] at h
    obtain ⟨rfl, _, rfl⟩ := h
    exact .inl ⟨rfl, a, c, rfl, hc⟩
  · simp only [Value.slice.injEq] at h1
    obtain ⟨rfl, _, rfl⟩ := h1
    refine .inr ⟨b, off, c, vs, by rw [hl], by omega, h3, h4, h5, fun k hk => ?_⟩
    rw [hl] at hk
    have := h6 k (by omega)
    exact ⟨this.1, by rw [List.getElem_take]; exact this.2⟩
/-- The values of the elements. -/
theorem PList.src {α : Type} {R : Value → α → Prop} {pr : Nat → Prop} {W : World} {v : Value} {xs : List α} (h : PList R pr W v xs) : ∃ vs : List Value, vs.length = xs.length ∧ SrcE id W v vs ∧ ∀ k (hk : k < xs.length) (hv : k < vs.length), R vs[k] xs[k] := by
  rcases h with ⟨rfl, a, c, rfl, hc, ha⟩ | ⟨b, off, c, vs, h1, h2, h3, h4, h5, h6⟩
  · refine ⟨[], rfl, ?_, fun k hk => by simp at hk⟩
    cases a with
    | none => rw [ha rfl]; exact .inl ⟨rfl, rfl⟩
    | some d => exact .inr ⟨d, c, rfl, by simp, hc, fun j hj => by simp at hj⟩
  · refine ⟨(List.range xs.length).map vs, by simp, .inr ⟨⟨b, off, none⟩, c, by simp [h1], by simp; exact h2, h3, fun j hj => ?_⟩, fun k hk hv => ?_⟩
    · have hj' : j < xs.length := by simpa using hj
      rw [plain_add, (h6 j hj').1]; simp
    · simp only [List.getElem_map, List.getElem_range]; exact (h6 k hk).2
/-- A row of the call's own, read. -/
theorem PList.ofOwn {α : Type} {R : Value → α → Prop} {pr : Nat → Prop} {W : World} {base e : Nat} {v : Value} {vs : List Value} {xs : List α} (h : OwnE id W base e v vs) (hl : vs.length = xs.length) (hR : ∀ k (hk : k < xs.length) (hv : k < vs.length), R vs[k] xs[k]) (hp : ∀ b, base ≤ b → b < W.heap.size → pr b) : PList R pr W v xs := by
  rcases h.cases with ⟨rfl, h2⟩ | ⟨g, cap, hv, hg, hs, hc, hm, hcell, _⟩
  · refine .inl ⟨List.length_eq_zero_iff.1 (by rw [← hl, h2]; rfl), none, 0, rfl, by simp [maxLen], fun _ => rfl⟩
  · refine .inr ⟨g, 0, cap, fun k => vs.getD k undef, by rw [← hl]; exact hv, by omega, hm, hp g hg hs, hs, fun k hk => ?_⟩
    have hk' : k < vs.length := by omega
    have := hcell k hk'
    simp only [id] at this
    rw [Nat.zero_add, this]
    simp only [List.getD_eq_getElem?_getD, List.getElem?_eq_getElem hk', Option.getD_some, true_and]
    exact hR k hk hk'

def PRow (pr : Nat → Prop) (W : World) (v : Value) (l : List Int) : Prop := PList (fun v n => v = iv n) pr W v l
def PRows (pr : Nat → Prop) (W : World) (v : Value) (a : List (List Int)) : Prop := PList (PRow pr W) pr W v a
def PMarks (pr : Nat → Prop) (W : World) (v : Value) (m : List (List (List Int))) : Prop := PList (PRows pr W) pr W v m
section
variable {pr pr' : Nat → Prop} {W W' : World} {v : Value}
theorem PRow.mono {l : List Int} (h : PRow pr W v l) (hp : ∀ k, pr k → k < W.heap.size → pr' k) (hk : ∀ k, pr k → k < W.heap.size → W'.heap[k]? = W.heap[k]?) (hs : W.heap.size ≤ W'.heap.size) : PRow pr' W' v l :=
  PList.mono h (fun _ _ h => h) hp hk hs
theorem PRows.mono {a : List (List Int)} (h : PRows pr W v a) (hp : ∀ k, pr k → k < W.heap.size → pr' k) (hk : ∀ k, pr k → k < W.heap.size → W'.heap[k]? = W.heap[k]?) (hs : W.heap.size ≤ W'.heap.size) : PRows pr' W' v a :=
  PList.mono h (fun _ _ h => PRow.mono h hp hk hs) hp hk hs
theorem PMarks.mono {m : List (List (List Int))} (h : PMarks pr W v m) (hp : ∀ k, pr k → k < W.heap.size → pr' k) (hk : ∀ k, pr k → k < W.heap.size → W'.heap[k]? = W.heap[k]?) (hs : W.heap.size ≤ W'.heap.size) : PMarks pr' W' v m :=
  PList.mono h (fun _ _ h => PRows.mono h hp hk hs) hp hk hs
theorem PRow.src {l : List Int} (h : PRow pr W v l) : SrcI W v l := by
  rcases h with ⟨rfl, a, c, rfl, hc, ha⟩ | ⟨b, off, c, vs, h1, h2, h3, h4, h5, h6⟩
  · cases a with
    | none => rw [ha rfl]; exact .inl ⟨rfl, rfl⟩
    | some d => exact .inr ⟨d, c, rfl, by simp, hc, fun j hj => by simp at hj⟩
  · refine .inr ⟨⟨b, off, none⟩, c, h1, h2, h3, fun k hk => ?_⟩
    rw [plain_add, (h6 k hk).1, (h6 k hk).2]; rfl
end
/-- The reference's memory: what is now, and the marks. -/
structure RefAt (pr : Nat → Prop) (W : World) (v1 v2 : Value) (st : St) : Prop where
  now : PRows pr W v1 st.now
  marks : PMarks pr W v2 st.marks
section
variable {pr pr' : Nat → Prop} {w w' : World} {v1 v2 : Value} {st : St}
theorem RefAt.mono (h : RefAt pr w v1 v2 st) (hp : ∀ k, pr k → k < w.heap.size → pr' k) (hk : ∀ k, pr k → k < w.heap.size → w'.heap[k]? = w.heap[k]?) (hs : w.heap.size ≤ w'.heap.size) : RefAt pr' w' v1 v2 st :=
  ⟨h.now.mono hp hk hs, h.marks.mono hp hk hs⟩
theorem RefAt.step (h : RefAt pr w v1 v2 st) (s : Step pr w pr' w') : RefAt pr' w' v1 v2 st := h.mono (fun k hk _ => s.more k hk) (fun k hk _ => s.kept.block k hk) s.kept.size
theorem RefAt.below (h : RefAt pr w v1 v2 st) (hB : Below w.heap.size w w') : RefAt pr w' v1 v2 st := h.mono (fun k hk _ => hk) (fun k _ hl => hB.block k hl) hB.size
theorem PRows.below {v : Value} {a : List (List Int)} (h : PRows pr w v a) (hB : Below w.heap.size w w') : PRows pr w' v a := h.mono (fun k hk _ => hk) (fun k _ hl => hB.block k hl) hB.size
theorem PRow.below {v : Value} {a : List Int} (h : PRow pr w v a) (hB : Below w.heap.size w w') : PRow pr w' v a := h.mono (fun k hk _ => hk) (fun k _ hl => hB.block k hl) hB.size
end

/-! ### A memory, and the reference's box beside it -/
def withR (pr : Nat → Prop) (R : Nat) : Nat → Prop := fun k => pr k ∨ k = R
structure Sys (w : World) (pr : Nat → Prop) (R M : Nat) (st : St) (v1 v2 : Value) : Prop where
  mem : MemAt w (withR pr R) M st
  box : w.heap[R]? = some (.cells #[v1, v2] 86 (0, 0))
  nr : ¬ pr R
section
variable {w w' : World} {pr : Nat → Prop} {R M : Nat} {st st' : St} {v1 v2 a b : Value}
theorem Sys.prs (h : Sys w pr R M st v1 v2) : ∀ k, pr k → k < w.heap.size := fun k hk => h.mem.prs k (.inl hk)
theorem Sys.below (h : Sys w pr R M st v1 v2) (hB : Below w.heap.size w w') : Sys w' (grow pr w w') R M st v1 v2 ∧ Step pr w (grow pr w w') w' := by
  have hR := lt_of_heap h.box
  refine ⟨⟨(h.mem.protect hB).less ?_, (hB.block R hR).trans h.box, ?_⟩, Step.grow h.prs hB⟩
  · rintro k ((hk | hk) | hk)
    · exact .inl (.inl hk)
    · exact .inr hk
    · exact .inl (.inr hk)
  · rintro (hk | ⟨hk, _⟩)
    · exact h.nr hk
    · omega
theorem Sys.mut (h : Sys w pr R M st v1 v2) (hm : MemAt w' (withR pr R) M st') (hs : Step (withR pr R) w (withR pr R) w') : Sys w' pr R M st' v1 v2 ∧ Step pr w pr w' :=
  ⟨⟨hm, (hs.kept.block R (.inr rfl)).trans h.box, h.nr⟩, ⟨hs.kept.mono fun k hk => .inl hk, fun _ h => h⟩⟩
theorem Sys.put (h : Sys w pr R M st v1 v2) (a b : Value) : Sys ((w.setCell ⟨R, 0, none⟩ a).setCell ⟨R, 1, none⟩ b) pr R M st a b ∧ Step pr w pr ((w.setCell ⟨R, 0, none⟩ a).setCell ⟨R, 1, none⟩ b) := by
  have hg := grown_trans (grown_cell w R 0 a) (grown_cell (w.setCell ⟨R, 0, none⟩ a) R 1 b)
  have hsz : ((w.setCell ⟨R, 0, none⟩ a).setCell ⟨R, 1, none⟩ b).heap.size = w.heap.size := by simp [World.setCell]
  have hpr := h.mem.prs
  have hoth : ∀ k, k ≠ R → ((w.setCell ⟨R, 0, none⟩ a).setCell ⟨R, 1, none⟩ b).heap[k]? = w.heap[k]? := fun k hk => (setCell_other hk).trans (setCell_other hk)
  obtain ⟨y, hy⟩ := h.mem
  refine ⟨⟨⟨y, hy.frame (fun k hk => hoth k fun e => (hy.foot k hk).1 (.inr e)) (fun k hk => by rw [hsz]; exact hpr k hk) (fun k hk => (hy.foot k hk).1)⟩, ?_, h.nr⟩, ⟨Kept.grown hg (fun k hk => hpr k (.inl hk)) (fun k hk hp => by cases hk; exact h.nr hp), fun _ h => h⟩⟩
  have h1 := cells_set (o := 0) h.box a
  exact cells_set (o := 1) h1 b
end
end Go.Proofs.Ytnhkadknibinfaa
