/- The cells' plain law: what is in the cells, the marks, the differences. -/
import Derived.Test.YtnhkadknibinfaaMap
namespace Go.Proofs.Ytnhkadknibinfaa
set_option linter.unusedVariables false
set_option linter.unusedSimpArgs false

/-- What a cell holds: owners from 1 on, indices from 0 on. -/
def at2 (a : List (List Int)) (p : Int × Int) : Option Int := if p.1 < 1 ∨ p.2 < 0 then none else (a[p.1.toNat - 1]?).bind (fun l => l[p.2.toNat]?)
def set2 (a : List (List Int)) (p : Int × Int) (v : Int) : List (List Int) := a.modify (p.1.toNat - 1) (fun l => l.set p.2.toNat v)
def shape (a : List (List Int)) : List Nat := a.map List.length
def diffP (a b : List (List Int)) (p : Int × Int) : Option Int := if at2 a p = at2 b p then none else at2 a p
def zer (a : List (List Int)) : List (List Int) := a.map (fun l => l.map (fun _ => 0))

theorem at2_nat (a : List (List Int)) (i k : Nat) : at2 a ((i : Int) + 1, (k : Int)) = (a[i]?).bind (fun l => l[k]?) := by
  unfold at2
  rw [if_neg (by simp; omega)]
  have : ((i : Int) + 1).toNat - 1 = i := by omega
  simp only [this, Int.toNat_natCast]

theorem at2_some {a : List (List Int)} {p : Int × Int} {x : Int} (h : at2 a p = some x) : ∃ (i k : Nat) (hi : i < a.length) (hk : k < a[i].length), p = ((i : Int) + 1, (k : Int)) ∧ x = a[i][k] := by
  unfold at2 at h
  split at h
  · cases h
  · rename_i hp
    obtain ⟨l, hl, hx⟩ := Option.bind_eq_some_iff.1 h
    obtain ⟨hi, hl'⟩ := List.getElem?_eq_some_iff.1 hl
    subst hl'
    obtain ⟨hk, hx'⟩ := List.getElem?_eq_some_iff.1 hx
    refine ⟨p.1.toNat - 1, p.2.toNat, hi, hk, ?_, hx'.symm⟩
    have : p.1 = ((p.1.toNat - 1 : Nat) : Int) + 1 := by omega
    have h2 : p.2 = (p.2.toNat : Int) := by omega
    exact Prod.ext this h2

theorem at2_get {a : List (List Int)} {i k : Nat} (hi : i < a.length) (hk : k < a[i].length) : at2 a ((i : Int) + 1, (k : Int)) = some a[i][k] := by
  rw [at2_nat]; simp [hi, hk]

theorem shape_set2 (a : List (List Int)) (p : Int × Int) (v : Int) : shape (set2 a p v) = shape a := by
  unfold shape set2
  apply List.ext_getElem?
  intro j
  simp only [List.getElem?_map, List.getElem?_modify]
  split <;> cases a[j]? <;> simp

theorem at2_set2 {a : List (List Int)} {p : Int × Int} (v : Int) (h : (at2 a p).isSome) (q : Int × Int) : at2 (set2 a p v) q = if q = p then some v else at2 a q := by
  obtain ⟨x, hx⟩ := Option.isSome_iff_exists.1 h
  obtain ⟨i, k, hi, hk, rfl, rfl⟩ := at2_some hx
  by_cases hq : q.1 < 1 ∨ q.2 < 0
  · have e1 : at2 (set2 a ((i : Int) + 1, (k : Int)) v) q = none := by unfold at2; rw [if_pos hq]
    have e2 : at2 a q = none := by unfold at2; rw [if_pos hq]
    rw [e1, e2, if_neg]
    intro e; rw [e] at hq; simp at hq; omega
  · obtain ⟨j, m, rfl⟩ : ∃ j m : Nat, q = ((j : Int) + 1, (m : Int)) := ⟨q.1.toNat - 1, q.2.toNat, Prod.ext (by simp only []; omega) (by simp only []; omega)⟩
    rw [at2_nat, at2_nat]
    unfold set2
    have : ((i : Int) + 1).toNat - 1 = i := by omega
    simp only [this, Int.toNat_natCast, List.getElem?_modify, Prod.mk.injEq]
    by_cases hij : i = j
    · subst hij
      simp only [if_true, List.getElem?_eq_getElem hi, Option.map_some, Option.bind_some, List.getElem?_set, hk, true_and]
      by_cases hkm : k = m
      · subst hkm; simp [hk]
      · have : ¬ ((m : Int) = (k : Int)) := by omega
        simp [hkm, this]
    · have : ¬ ((j : Int) + 1 = (i : Int) + 1) := by omega
      simp [hij, this]

theorem shape_len {a b : List (List Int)} (h : shape a = shape b) : a.length = b.length := by
  have := congrArg List.length h; simpa [shape] using this
theorem shape_at {a b : List (List Int)} (h : shape a = shape b) (i : Nat) (hi : i < a.length) (hj : i < b.length) : a[i].length = b[i].length := by
  have := congrArg (fun l => l[i]?) h
  simpa [shape, hi, hj] using this

theorem at2_isSome {a b : List (List Int)} (h : shape a = shape b) (p : Int × Int) : (at2 a p).isSome = (at2 b p).isSome := by
  have key : ∀ {a b : List (List Int)}, shape a = shape b → (at2 a p).isSome = true → (at2 b p).isSome = true := by
    intro a b h h1
    obtain ⟨x, hx⟩ := Option.isSome_iff_exists.1 h1
    obtain ⟨i, k, hi, hk, rfl, rfl⟩ := at2_some hx
    have hj : i < b.length := by rw [← shape_len h]; exact hi
    rw [at2_get hj (by rw [← shape_at h i hi hj]; exact hk)]; rfl
  cases h1 : (at2 a p).isSome <;> cases h2 : (at2 b p).isSome <;> simp
  · have := key h.symm h2; rw [h1] at this; cases this
  · have := key h h1; rw [h2] at this; cases this

theorem ext2 {a b : List (List Int)} (h : shape a = shape b) (he : ∀ p, at2 a p = at2 b p) : a = b := by
  apply List.ext_getElem (shape_len h)
  intro i hi hj
  apply List.ext_getElem (shape_at h i hi hj)
  intro k hk hm
  have := he ((i : Int) + 1, (k : Int))
  rw [at2_get hi hk, at2_get hj hm] at this
  exact Option.some.inj this

theorem shape_zer (a : List (List Int)) : shape (zer a) = shape a := by simp [shape, zer]
theorem at2_zer {a : List (List Int)} {p : Int × Int} {x : Int} (h : at2 a p = some x) : at2 (zer a) p = some 0 := by
  obtain ⟨i, k, hi, hk, rfl, rfl⟩ := at2_some h
  rw [at2_nat]; simp [zer, hi, hk]

/-! ### The changes -/
def ch1 (s a : List (List Int)) (i k : Nat) : Option (Int × Int × Int × Int) :=
  match at2 s ((i : Int) + 1, (k : Int)), at2 a ((i : Int) + 1, (k : Int)) with
  | some x, some y => if x = y then none else some ((i : Int) + 1, (k : Int), x, y)
  | _, _ => none
def rowC (s a : List (List Int)) (i n : Nat) : List (Int × Int × Int × Int) := (List.range n).filterMap (ch1 s a i)
def chgK (s a : List (List Int)) (n : Nat) : List (Int × Int × Int × Int) := (List.range n).flatMap (fun i => rowC s a i (a.getD i []).length)
def chgV (s a : List (List Int)) : List (Int × Int × Int × Int) := chgK s a a.length

theorem rowC_zero (s a : List (List Int)) (i : Nat) : rowC s a i 0 = [] := rfl
theorem rowC_succ (s a : List (List Int)) (i n : Nat) : rowC s a i (n + 1) = rowC s a i n ++ (ch1 s a i n).toList := by
  unfold rowC
  rw [List.range_succ, List.filterMap_append]
  cases h : ch1 s a i n <;> simp [h]
theorem chgK_zero (s a : List (List Int)) : chgK s a 0 = [] := rfl
theorem chgK_succ (s a : List (List Int)) (i : Nat) (hi : i < a.length) : chgK s a (i + 1) = chgK s a i ++ rowC s a i a[i].length := by
  unfold chgK
  rw [List.range_succ, List.flatMap_append]
  simp [hi]

theorem mem_chgV {s a : List (List Int)} {c : Int × Int × Int × Int} : c ∈ chgV s a ↔ at2 s (c.1, c.2.1) = some c.2.2.1 ∧ at2 a (c.1, c.2.1) = some c.2.2.2 ∧ c.2.2.1 ≠ c.2.2.2 := by
  unfold chgV chgK rowC
  simp only [List.mem_flatMap, List.mem_range, List.mem_filterMap]
  constructor
  · rintro ⟨i, hi, k, hk, h⟩
    unfold ch1 at h
    split at h
    · rename_i x y h1 h2
      split at h
      · cases h
      · rename_i hne
        cases h
        exact ⟨h1, h2, hne⟩
    · cases h
  · rintro ⟨h1, h2, h3⟩
    obtain ⟨i, k, hi, hk, e, _⟩ := at2_some h2
    obtain ⟨c1, c2, c3, c4⟩ := c
    simp only [Prod.mk.injEq] at e
    obtain ⟨rfl, rfl⟩ := e
    refine ⟨i, hi, k, by simpa [hi] using hk, ?_⟩
    unfold ch1
    simp only at h1 h2 h3
    rw [h1, h2]
    simp [h3]

theorem chgV_places_nodup (s a : List (List Int)) : ((chgV s a).map (fun c => (c.1, c.2.1))).Nodup := by
  unfold chgV chgK
  have hrow : ∀ i n, ((rowC s a i n).map (fun c => (c.1, c.2.1))).Nodup ∧ ∀ c ∈ rowC s a i n, c.1 = (i : Int) + 1 ∧ c.2.1 < (n : Int) := by
    intro i n
    induction n with
    | zero => exact ⟨by simp [rowC], by simp [rowC]⟩
    | succ n ih =>
      rw [rowC_succ]
      have hlast : ∀ c ∈ (ch1 s a i n).toList, c.1 = (i : Int) + 1 ∧ c.2.1 = (n : Int) := by
        intro c hc
        unfold ch1 at hc
        split at hc
        · split at hc
          · simp at hc
          · simp at hc; subst hc; exact ⟨rfl, rfl⟩
        · simp at hc
      constructor
      · rw [List.map_append]
        refine List.nodup_append.2 ⟨ih.1, ?_, ?_⟩
        · cases ch1 s a i n <;> simp
        · intro x hx y hy e
          obtain ⟨c, hc, rfl⟩ := List.mem_map.1 hx
          obtain ⟨d, hd, rfl⟩ := List.mem_map.1 hy
          have h1 := ih.2 c hc
          have h2 := hlast d hd
          simp only [Prod.mk.injEq] at e
          omega
      · intro c hc
        rcases List.mem_append.1 hc with hc | hc
        · have := ih.2 c hc; omega
        · have := hlast c hc; omega
  have : ∀ n, (((List.range n).flatMap (fun i => rowC s a i (a.getD i []).length)).map (fun c => (c.1, c.2.1))).Nodup ∧ ∀ c ∈ (List.range n).flatMap (fun i => rowC s a i (a.getD i []).length), c.1 ≤ (n : Int) := by
    intro n
    induction n with
    | zero => simp
    | succ n ih =>
      rw [List.range_succ, List.flatMap_append]
      simp only [List.flatMap_cons, List.flatMap_nil, List.append_nil]
      constructor
      · rw [List.map_append]
        refine List.nodup_append.2 ⟨ih.1, (hrow n _).1, ?_⟩
        intro x hx y hy e
        obtain ⟨c, hc, rfl⟩ := List.mem_map.1 hx
        obtain ⟨d, hd, rfl⟩ := List.mem_map.1 hy
        have h1 := ih.2 c hc
        have h2 := (hrow n _).2 d hd
        simp only [Prod.mk.injEq] at e
        omega
      · intro c hc
        rcases List.mem_append.1 hc with hc | hc
        · have := ih.2 c hc; omega
        · have := (hrow n _).2 c hc; omega
  exact (this _).1

/-- How many entries the map at a mark has. -/
theorem len_diff {L : List ((Int × Int) × Int)} {s a : List (List Int)} (hn : (L.map Prod.fst).Nodup) (hs : shape s = shape a) (h : ∀ p, lk L p = diffP s a p) : L.length = (chgV s a).length := by
  have h1 := chgV_places_nodup s a
  have mem : ∀ p, p ∈ L.map Prod.fst ↔ p ∈ (chgV s a).map (fun c => (c.1, c.2.1)) := by
    intro p
    constructor
    · intro hp
      obtain ⟨q, hq, rfl⟩ := List.mem_map.1 hp
      have h2 : lk L q.1 = some q.2 := (lk_some hn).2 hq
      rw [h] at h2
      unfold diffP at h2
      split at h2
      · cases h2
      · rename_i hne
        have h3 := at2_isSome hs q.1
        rw [h2] at h3
        obtain ⟨y, hy⟩ := Option.isSome_iff_exists.1 h3.symm
        refine List.mem_map.2 ⟨(q.1.1, q.1.2, q.2, y), mem_chgV.2 ⟨h2, hy, ?_⟩, rfl⟩
        simp only
        intro e; exact hne (by rw [h2, hy, e])
    · intro hp
      obtain ⟨c, hc, rfl⟩ := List.mem_map.1 hp
      obtain ⟨h2, h3, h4⟩ := mem_chgV.1 hc
      have h5 : lk L (c.1, c.2.1) = some c.2.2.1 := by
        rw [h]; unfold diffP; rw [h2, h3, if_neg (by simpa using h4)]
      exact List.mem_map.2 ⟨_, (lk_some hn).1 h5, rfl⟩
  have e1 := nodup_le _ _ hn (fun x hx => (mem x).1 hx)
  have e2 := nodup_le _ _ h1 (fun x hx => (mem x).2 hx)
  simp only [List.length_map] at e1 e2
  omega

/-! ### The memory -/
structure St where
  now : List (List Int)
  marks : List (List (List Int))

def ldE (a : List (List Int)) (o i : Int) : Int := if o < 1 ∨ (a.length : Int) < o then 211 else if (at2 a (o, i)).isSome then 0 else 212
def ldV (a : List (List Int)) (o i : Int) : Int := (at2 a (o, i)).getD 0
def storeS (st : St) (o i v : Int) : St := if ldE st.now o i = 0 then { st with now := set2 st.now (o, i) v } else st
def markE (st : St) : Int := if 64 ≤ st.marks.length then 5 else 0
def markN (st : St) : Int := if 64 ≤ st.marks.length then 0 else st.marks.length + 1
def markS (st : St) : St := if 64 ≤ st.marks.length then st else { st with marks := st.marks ++ [st.now] }
def baseV (st : St) : List (List Int) := st.marks.getLast?.getD (zer st.now)
def changesV (st : St) : List (Int × Int × Int × Int) := chgV (baseV st) st.now
def popE (st : St) : Int := if st.marks = [] then 213 else 0
def popN (st : St) : Int := if st.marks = [] then 0 else (changesV st).length
def backS (st : St) : St := if st.marks = [] then st else { now := baseV st, marks := st.marks.dropLast }
def keepS (st : St) : St := if st.marks = [] then st else { now := st.now, marks := st.marks.dropLast }

/-- All snapshots are of one shape, within the limits. -/
structure StOk (st : St) : Prop where
  owners : st.now.length ≤ 16
  cells : ∀ l ∈ st.now, l.length ≤ 1024
  shapes : ∀ s ∈ st.marks, shape s = shape st.now
  many : st.marks.length ≤ 64

/-- The snapshot behind mark j: the next mark's, or what is there now. -/
def snapAt (st : St) (j : Nat) : List (List Int) := (st.marks[j]?).getD st.now
theorem snapAt_shape {st : St} (h : StOk st) (j : Nat) : shape (snapAt st j) = shape st.now := by
  unfold snapAt
  cases hj : st.marks[j]? with
  | none => rfl
  | some s => exact h.shapes s (List.mem_of_getElem? hj)

theorem ld_ok {a : List (List Int)} {o i : Int} (h : ldE a o i = 0) : ∃ x, at2 a (o, i) = some x ∧ ldV a o i = x := by
  unfold ldE at h
  split at h
  · cases h
  · split at h
    · rename_i h2
      obtain ⟨x, hx⟩ := Option.isSome_iff_exists.1 h2
      exact ⟨x, hx, by simp [ldV, hx]⟩
    · cases h
theorem ld_bad {a : List (List Int)} {o i : Int} (h : ¬ ldE a o i = 0) : ldV a o i = 0 := by
  unfold ldE at h
  split at h
  · rename_i h1
    have : at2 a (o, i) = none := by
      unfold at2
      split
      · rfl
      · rw [List.getElem?_eq_none (by simp only; omega)]; rfl
    simp [ldV, this]
  · split at h
    · exact absurd rfl h
    · rename_i h2
      have : at2 a (o, i) = none := by cases hx : at2 a (o, i) <;> simp_all
      simp [ldV, this]
theorem ldE_or (a : List (List Int)) (o i : Int) : ldE a o i = 0 ∨ ldE a o i = 211 ∨ ldE a o i = 212 := by
  unfold ldE; split
  · exact .inr (.inl rfl)
  · split
    · exact .inl rfl
    · exact .inr (.inr rfl)

theorem StOk.store {st : St} (h : StOk st) (o i v : Int) : StOk (storeS st o i v) := by
  unfold storeS
  split
  · have hs := shape_set2 st.now (o, i) v
    refine ⟨by rw [show (set2 st.now (o, i) v).length = st.now.length from shape_len hs]; exact h.owners, ?_, fun s hs' => (h.shapes s hs').trans hs.symm, h.many⟩
    intro l hl
    have : l.length ∈ shape st.now := by rw [← hs]; exact List.mem_map_of_mem hl
    obtain ⟨m, hm, e⟩ := List.mem_map.1 this
    rw [← e]; exact h.cells m hm
  · exact h
theorem StOk.mark {st : St} (h : StOk st) : StOk (markS st) := by
  unfold markS
  split
  · exact h
  · refine ⟨h.owners, h.cells, ?_, by simp; omega⟩
    intro s hs
    rcases List.mem_append.1 hs with hs | hs
    · exact h.shapes s hs
    · simp at hs; subst hs; rfl
theorem StOk.keep {st : St} (h : StOk st) : StOk (keepS st) := by
  unfold keepS
  split
  · exact h
  · exact ⟨h.owners, h.cells, fun s hs => h.shapes s ((List.dropLast_sublist _).subset hs), by simp; have := h.many; omega⟩
theorem base_shape {st : St} (h : StOk st) : shape (baseV st) = shape st.now := by
  unfold baseV
  cases hj : st.marks.getLast? with
  | none => exact shape_zer _
  | some s => exact h.shapes s (List.mem_of_getLast? hj)
theorem StOk.back {st : St} (h : StOk st) : StOk (backS st) := by
  unfold backS
  split
  · exact h
  · have hs := base_shape h
    refine ⟨by rw [show (baseV st).length = st.now.length from shape_len hs]; exact h.owners, ?_, fun s hs' => (h.shapes s ((List.dropLast_sublist _).subset hs')).trans hs.symm, by simp; have := h.many; omega⟩
    intro l hl
    have : l.length ∈ shape st.now := by rw [← hs]; exact List.mem_map_of_mem hl
    obtain ⟨m, hm, e⟩ := List.mem_map.1 this
    rw [← e]; exact h.cells m hm
end Go.Proofs.Ytnhkadknibinfaa
