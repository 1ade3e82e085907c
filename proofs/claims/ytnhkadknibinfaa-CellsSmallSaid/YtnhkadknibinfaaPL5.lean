/- Plain laws of CellsKeep: the changes are in order, and of cells whose values are others. -/
import Derived.Test.YtnhkadknibinfaaD3
namespace Go.Proofs.Ytnhkadknibinfaa
open Go.RowKit
set_option linter.unusedVariables false

def chLt (c d : Ch) : Prop := c.1 < d.1 ∨ (c.1 = d.1 ∧ c.2.1 < d.2.1)
theorem ch1_place {s a : List (List Int)} {i k : Nat} {c : Ch} (h : ch1 s a i k = some c) : c.1 = (i : Int) + 1 ∧ c.2.1 = (k : Int) := by
  unfold ch1 at h
  split at h
  · split at h
    · cases h
    · cases h; exact ⟨rfl, rfl⟩
  · cases h
theorem rowC_sorted (s a : List (List Int)) (i : Nat) : ∀ n, (rowC s a i n).Pairwise chLt ∧ ∀ c ∈ rowC s a i n, c.1 = (i : Int) + 1 ∧ c.2.1 < (n : Int) := by
  intro n
  induction n with
  | zero => simp [rowC_zero]
  | succ n ih =>
    rw [rowC_succ]
    have hl : ∀ c ∈ (ch1 s a i n).toList, c.1 = (i : Int) + 1 ∧ c.2.1 = (n : Int) := by
      intro c hc
      exact ch1_place (by simpa using hc)
    refine ⟨List.pairwise_append.2 ⟨ih.1, by cases ch1 s a i n <;> simp, ?_⟩, ?_⟩
    · intro x hx y hy
      have h1 := ih.2 x hx
      have h2 := hl y hy
      exact .inr ⟨h1.1.trans h2.1.symm, by omega⟩
    · intro c hc
      rcases List.mem_append.1 hc with hc | hc
      · have := ih.2 c hc; omega
      · have := hl c hc; omega
theorem chgK_sorted (s a : List (List Int)) : ∀ n, n ≤ a.length → (chgK s a n).Pairwise chLt ∧ ∀ c ∈ chgK s a n, c.1 ≤ (n : Int) := by
  intro n
  induction n with
  | zero => intro _; simp [chgK_zero]
  | succ n ih =>
    intro hn
    obtain ⟨h1, h2⟩ := ih (by omega)
    rw [chgK_succ _ _ n (by omega)]
    have h3 := rowC_sorted s a n a[n].length
    refine ⟨List.pairwise_append.2 ⟨h1, h3.1, ?_⟩, ?_⟩
    · intro x hx y hy
      have := h2 x hx
      have := h3.2 y hy
      exact .inl (by omega)
    · intro c hc
      rcases List.mem_append.1 hc with hc | hc
      · have := h2 c hc; omega
      · have := h3.2 c hc; omega
theorem chgV_next {s a : List (List Int)} {k : Nat} {c d : Ch} (h1 : (chgV s a)[k]? = some c) (h2 : (chgV s a)[k + 1]? = some d) : chLt c d := by
  obtain ⟨hk1, rfl⟩ := List.getElem?_eq_some_iff.1 h1
  obtain ⟨hk2, rfl⟩ := List.getElem?_eq_some_iff.1 h2
  exact List.pairwise_iff_getElem.1 (chgK_sorted s a a.length (Nat.le_refl _)).1 k (k + 1) hk1 hk2 (by omega)
theorem chgV_load {s a : List (List Int)} {c : Ch} (h : c ∈ chgV s a) : ldV a c.1 c.2.1 = c.2.2.2 ∧ ldE a c.1 c.2.1 = 0 ∧ c.2.2.1 ≠ c.2.2.2 := by
  obtain ⟨_, h2, h3⟩ := mem_chgV.1 h
  obtain ⟨i, k, hi, hk, e, ex⟩ := at2_some h2
  simp only [Prod.mk.injEq] at e
  refine ⟨by unfold ldV; rw [h2]; rfl, ?_, h3⟩
  unfold ldE
  rw [if_neg (by omega), h2]; rfl

/-- Stores alone change no marks. -/
def Kst (K : List (List (List Int))) (st : St) : Prop := ShOk S9 st ∧ st.marks = K
theorem kst_do {K : List (List (List Int))} (st : St) (c : Sm) (h : Kst K st) : Kst K (doS false 0 st c) := by
  refine doS_ind0 (I := Kst K) ?_ st c h
  intro st o i v h
  refine ⟨store_sh o i v h.1, ?_⟩
  unfold storeS
  split <;> exact h.2
theorem kst_doV {K : List (List (List Int))} (st : St) (cs : List Sm) (h : Kst K st) : Kst K (doV false 0 st cs) := foldl_ind kst_do _ _ h
theorem kst_mark {K : List (List (List Int))} {st : St} (h : Kst K st) (hK : K.length < 64) : Kst (K ++ [st.now]) (markS st) ∧ markE st = 0 ∧ (markS st).now = st.now := by
  have hn : st.marks.length < 64 := by rw [h.2]; exact hK
  have e : markS st = { st with marks := st.marks ++ [st.now] } := by unfold markS; rw [if_neg (by omega)]
  refine ⟨⟨mark_sh h.1, by rw [e]; show st.marks ++ [st.now] = _; rw [h.2]⟩, by unfold markE; rw [if_neg (by omega)], by rw [e]⟩
/-- Keep, of two marks. -/
theorem keep_two {a b : List (List Int)} {st : St} (h : Kst [a, b] st) : keepS st = ⟨st.now, [a]⟩ ∧ popE st = 0 ∧ popN st = (cntD b.flatten st.now.flatten : Nat) := by
  have hne : st.marks ≠ [] := by rw [h.2]; simp
  have hb : baseV st = b := by unfold baseV; rw [h.2]; rfl
  have hs : shape b = shape st.now := h.1.1.shapes b (by rw [h.2]; simp)
  refine ⟨?_, by unfold popE; rw [if_neg hne], ?_⟩
  · unfold keepS; rw [if_neg hne, h.2]; rfl
  · unfold popN changesV; rw [if_neg hne, hb, chgV_cnt hs]
/-- Back, of one. -/
theorem back_one {a n : List (List Int)} (hs : shape a = shape n) : backS ⟨n, [a]⟩ = ⟨a, []⟩ ∧ popE ⟨n, [a]⟩ = 0 ∧ popN ⟨n, [a]⟩ = (cntD a.flatten n.flatten : Nat) ∧ changesV ⟨n, [a]⟩ = chgV a n ∧ (chgV a n).length = cntD a.flatten n.flatten := by
  have hc := chgV_cnt hs
  refine ⟨rfl, rfl, ?_, rfl, hc⟩
  show ((chgV a n).length : Int) = _
  rw [hc]
end Go.Proofs.Ytnhkadknibinfaa
