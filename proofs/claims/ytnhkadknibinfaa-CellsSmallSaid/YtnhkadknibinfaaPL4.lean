/- Plain laws of CellsBack and CellsKeep. -/
import Derived.Test.YtnhkadknibinfaaD2
namespace Go.Proofs.Ytnhkadknibinfaa
open Go.RowKit
set_option linter.unusedVariables false

/-- At how many places two lists differ. -/
def cntD : List Int → List Int → Nat
  | x :: l, y :: m => (if x = y then 0 else 1) + cntD l m
  | _, _ => 0
theorem cntD_append : ∀ (l m l' m' : List Int), l.length = m.length → cntD (l ++ l') (m ++ m') = cntD l m + cntD l' m'
  | [], [], l', m', _ => by simp [cntD]
  | [], y :: m, _, _, h => by simp at h
  | x :: l, [], _, _, h => by simp at h
  | x :: l, y :: m, l', m', h => by
    simp only [List.cons_append, cntD, cntD_append l m l' m' (by simpa using h)]
    omega
theorem cntD_take {l m : List Int} {k : Nat} (h1 : k < l.length) (h2 : k < m.length) : cntD (l.take (k + 1)) (m.take (k + 1)) = cntD (l.take k) (m.take k) + (if l[k] = m[k] then 0 else 1) := by
  rw [List.take_succ_eq_append_getElem h1, List.take_succ_eq_append_getElem h2, cntD_append _ _ _ _ (by simp; omega)]
  simp [cntD]
theorem cntD_le : ∀ (l m : List Int), cntD l m ≤ l.length
  | [], _ => by simp [cntD]
  | x :: l, [] => by simp [cntD]
  | x :: l, y :: m => by
    have := cntD_le l m
    simp only [cntD, List.length_cons]
    split <;> omega
theorem rowC_cnt {s a : List (List Int)} {i : Nat} (hs : i < s.length) (ha : i < a.length) : ∀ n, n ≤ s[i].length → n ≤ a[i].length → (rowC s a i n).length = cntD (s[i].take n) (a[i].take n) := by
  intro n
  induction n with
  | zero => intro _ _; simp [rowC_zero, cntD]
  | succ n ih =>
    intro h1 h2
    rw [rowC_succ, List.length_append, ih (by omega) (by omega), cntD_take (by omega) (by omega)]
    unfold ch1
    rw [at2_get hs (by omega), at2_get ha (by omega)]
    simp only
    split <;> simp
theorem chgK_cnt {s a : List (List Int)} (h : shape s = shape a) : ∀ n, n ≤ a.length → (chgK s a n).length = cntD (s.take n).flatten (a.take n).flatten := by
  intro n
  induction n with
  | zero => intro _; simp [chgK_zero, cntD]
  | succ n ih =>
    intro hn
    have hs : n < s.length := by rw [shape_len h]; omega
    have hl := shape_at h n hs (by omega)
    rw [chgK_succ _ _ n (by omega), List.length_append, ih (by omega), rowC_cnt hs (by omega) _ (by omega) (Nat.le_refl _),
      List.take_succ_eq_append_getElem hs, List.take_succ_eq_append_getElem (show n < a.length by omega), List.flatten_append, List.flatten_append, cntD_append]
    · simp only [List.flatten_cons, List.flatten_nil, List.append_nil, List.take_length]
      rw [← hl, List.take_length]
    · rw [List.length_flatten, List.length_flatten, List.map_take, List.map_take]
      unfold shape at h
      rw [h]
theorem chgV_cnt {s a : List (List Int)} (h : shape s = shape a) : (chgV s a).length = cntD s.flatten a.flatten := by
  unfold chgV
  rw [chgK_cnt h _ (Nat.le_refl _), List.take_of_length_le (Nat.le_refl _), List.take_of_length_le (by rw [shape_len h]; exact Nat.le_refl _)]
theorem cntD_self : ∀ l : List Int, cntD l l = 0
  | [] => rfl
  | x :: l => by simp [cntD, cntD_self l]

/-- The marks below are as they were. -/
def Bott (n : Nat) (K : List (List (List Int))) (st : St) : Prop := ShOk S9 st ∧ st.marks.take n = K ∧ n ≤ st.marks.length
theorem bott_do {n : Nat} {K : List (List (List Int))} (st : St) (c : Sm) (h : Bott n K st) : Bott n K (doS true (n : Int) st c) := by
  refine doS_ind (I := Bott n K) ?_ ?_ ?_ ?_ st c h
  · intro st o i v h
    refine ⟨store_sh o i v h.1, ?_⟩
    unfold storeS
    split <;> exact h.2
  · intro st h
    refine ⟨mark_sh h.1, ?_⟩
    unfold markS
    split
    · exact h.2
    · refine ⟨?_, by simp; have := h.2.2; omega⟩
      show (st.marks ++ [st.now]).take n = K
      rw [List.take_append_of_le_length h.2.2]; exact h.2.1
  · intro st hl h
    refine ⟨back_sh h.1, ?_⟩
    unfold backS
    split
    · exact h.2
    · refine ⟨?_, by simp; omega⟩
      show st.marks.dropLast.take n = K
      rw [List.dropLast_eq_take, List.take_take, Nat.min_eq_left (by omega)]; exact h.2.1
  · intro st hl h
    refine ⟨keep_sh h.1, ?_⟩
    unfold keepS
    split
    · exact h.2
    · refine ⟨?_, by simp; omega⟩
      show st.marks.dropLast.take n = K
      rw [List.dropLast_eq_take, List.take_take, Nat.min_eq_left (by omega)]; exact h.2.1
theorem bott_doV {n : Nat} {K : List (List (List Int))} (st : St) (cs : List Sm) (h : Bott n K st) : Bott n K (doV true (n : Int) st cs) := foldl_ind bott_do _ _ h
theorem bott_back {n : Nat} {K : List (List (List Int))} {st : St} (h : Bott n K st) (hl : n < st.marks.length) : Bott n K (backS st) ∧ (backS st).marks.length + 1 = st.marks.length ∧ popE st = 0 := by
  have hne : st.marks ≠ [] := fun e => by rw [e] at hl; simp at hl
  refine ⟨⟨back_sh h.1, ?_⟩, ?_, by unfold popE; rw [if_neg hne]⟩
  · unfold backS
    rw [if_neg hne]
    refine ⟨?_, by simp; omega⟩
    show st.marks.dropLast.take n = K
    rw [List.dropLast_eq_take, List.take_take, Nat.min_eq_left (by omega)]; exact h.2.1
  · unfold backS
    rw [if_neg hne]
    simp; omega
theorem bott_end {n : Nat} {K : List (List (List Int))} {st : St} (h : Bott n K st) (hl : st.marks.length ≤ n) : st.marks = K := by
  rw [← h.2.1, List.take_of_length_le hl]
theorem mark_bott {st : St} (h : ShOk S9 st) (hn : st.marks.length < 64) : Bott (st.marks.length + 1) (st.marks ++ [st.now]) (markS st) ∧ markN st = st.marks.length + 1 ∧ markE st = 0 ∧ changesV (markS st) = [] ∧ (markS st).now = st.now := by
  have e : markS st = { st with marks := st.marks ++ [st.now] } := by unfold markS; rw [if_neg (by omega)]
  refine ⟨⟨mark_sh h, ?_, ?_⟩, by unfold markN; rw [if_neg (by omega)], by unfold markE; rw [if_neg (by omega)], ?_, by rw [e]⟩
  · rw [e]; show (st.marks ++ [st.now]).take _ = _
    rw [List.take_of_length_le (by simp)]
  · rw [e]; simp
  · rw [e]
    unfold changesV baseV
    simp only [List.getLast?_append, List.getLast?_singleton, Option.some_or, Option.getD_some]
    have := chgV_cnt (s := st.now) (a := st.now) rfl
    rw [cntD_self] at this
    exact List.length_eq_zero_iff.1 this
/-- Back at the mark. -/
theorem back_at {st st3 : St} (h3 : ShOk S9 st3) (h : ShOk S9 st) (hm : st3.marks = st.marks ++ [st.now]) :
    backS st3 = st ∧ popE st3 = 0 ∧ popN st3 = (cntD st.now.flatten st3.now.flatten : Nat) ∧ (changesV st3).length = cntD st.now.flatten st3.now.flatten := by
  have hne : st3.marks ≠ [] := by rw [hm]; simp
  have hb : baseV st3 = st.now := by unfold baseV; rw [hm]; simp
  have hc : (changesV st3).length = cntD st.now.flatten st3.now.flatten := by
    unfold changesV
    rw [hb, chgV_cnt (h.2.trans h3.2.symm)]
  refine ⟨?_, by unfold popE; rw [if_neg hne], by unfold popN; rw [if_neg hne, hc], hc⟩
  unfold backS
  rw [if_neg hne, hb, hm]
  simp
end Go.Proofs.Ytnhkadknibinfaa
