/- Rows of structs of n cells each: read, and the call's own. -/
import Derived.Test.YtinagiofolmhbaaOwn
import Derived.ChangeKeysEq
import Derived.Laws.StructEq
namespace Go.Proofs.Ytinagiofolmhbaa
open Go.RowKit
set_option linter.unusedVariables false
set_option linter.unusedSimpArgs false

/-- How a struct lies in cells. -/
structure Lays (α : Type) where
  sz : Nat
  cs : α → List Value
  len : ∀ x, (cs x).length = sz
  one : ∀ x, ∀ u ∈ cs x, u.oneCell' = true

section
variable {α : Type}
def flatN (L : Lays α) (xs : List α) : List Value := xs.flatMap L.cs
theorem flatN_len (L : Lays α) (xs : List α) : (flatN L xs).length = xs.length * L.sz := by
  induction xs with
  | nil => simp [flatN]
  | cons x xs ih =>
    have e : flatN L (x :: xs) = L.cs x ++ flatN L xs := by simp [flatN]
    rw [e, List.length_append, L.len, ih, List.length_cons, Nat.add_mul]; omega
theorem flatN_app (L : Lays α) (a b : List α) : flatN L (a ++ b) = flatN L a ++ flatN L b := by simp [flatN]
theorem flatN_get (L : Lays α) (xs : List α) : ∀ j (h : j < xs.length) r, r < L.sz → (flatN L xs)[j * L.sz + r]? = (L.cs xs[j])[r]? := by
  induction xs with
  | nil => intro j h; simp at h
  | cons x xs ih =>
    intro j h r hr
    have e : flatN L (x :: xs) = L.cs x ++ flatN L xs := by simp [flatN]
    rw [e]
    cases j with
    | zero => rw [Nat.zero_mul, Nat.zero_add, List.getElem?_append_left (by rw [L.len]; exact hr)]; rfl
    | succ j =>
      rw [List.getElem?_append_right (by rw [L.len, Nat.add_mul]; omega), L.len, show (j + 1) * L.sz + r - L.sz = j * L.sz + r from by rw [Nat.add_mul]; omega]
      exact ih j (by simpa using h) r hr
theorem flatN_one (L : Lays α) (xs : List α) : ∀ u ∈ flatN L xs, u.oneCell' = true := by
  intro u hu
  obtain ⟨x, _, hx⟩ := List.mem_flatMap.1 hu
  exact L.one x u hx

/-- A slice that reads as xs. -/
def SrcN (L : Lays α) (w : World) (v : Value) (xs : List α) : Prop :=
  (xs = [] ∧ ∃ a c, v = .slice a 0 c ∧ (a = none → c = 0)) ∨ ∃ b off c, v = .slice (some ⟨b, off, none⟩) xs.length c ∧ xs.length ≤ c ∧ c ≤ maxLen ∧ b < w.heap.size ∧
    ∀ j (hj : j < xs.length) r u, (L.cs xs[j])[r]? = some u → w.cell? ⟨b, off + j * L.sz + r, none⟩ = some u
theorem SrcN.below {L : Lays α} {w w1 : World} {v : Value} {xs : List α} (h : SrcN L w v xs) (hB : Below w.heap.size w w1) : SrcN L w1 v xs := by
  rcases h with h | ⟨b, off, c, hv, h1, h2, hb, hc⟩
  · exact .inl h
  · refine .inr ⟨b, off, c, hv, h1, h2, Nat.lt_of_lt_of_le hb hB.size, fun j hj r u hr => ?_⟩
    rw [hB.cell (p := ⟨b, off + j * L.sz + r, none⟩) hb]
    exact hc j hj r u hr
theorem SrcN.shape {L : Lays α} {w : World} {v : Value} {xs : List α} (h : SrcN L w v xs) : ∃ a c, v = .slice a xs.length c := by
  rcases h with ⟨rfl, a, c, h, _⟩ | ⟨b, off, c, hv, _⟩
  · exact ⟨a, c, h⟩
  · exact ⟨_, _, hv⟩
theorem SrcN.small {L : Lays α} {w : World} {v : Value} {xs : List α} (h : SrcN L w v xs) : xs.length ≤ 9223372036854775807 := by
  rcases h with ⟨rfl, h⟩ | ⟨b, off, c, hv, h1, h2, _⟩
  · simp
  · simp only [maxLen] at h2; omega
theorem SrcN.nil (L : Lays α) (w : World) : SrcN L w (.slice none 0 0) [] := .inl ⟨rfl, none, 0, rfl, fun _ => rfl⟩
/-- An element of a slice, at its address. -/
theorem SrcN.at {L : Lays α} {w : World} {a : Option Addr} {n c : Nat} {xs : List α} (h : SrcN L w (.slice a n c) xs) (k : Nat) (hk : k < xs.length) :
    ∃ b off, a = some ⟨b, off, none⟩ ∧ b < w.heap.size ∧ ∀ r u, (L.cs xs[k])[r]? = some u → w.cell? ⟨b, off + k * L.sz + r, none⟩ = some u := by
  rcases h with ⟨rfl, h⟩ | ⟨b, off, c, hv, h1, h2, hb, hc⟩
  · simp at hk
  · simp only [Value.slice.injEq] at hv
    exact ⟨b, off, hv.1, hb, fun r u hr => hc k hk r u hr⟩
/-- A slice cut at its end. -/
theorem SrcN.take {L : Lays α} {w : World} {a : Option Addr} {n c : Nat} {xs : List α} (h : SrcN L w (.slice a n c) xs) (k : Nat) (hk : k ≤ xs.length) : SrcN L w (.slice a k c) (xs.take k) := by
  have hl : (xs.take k).length = k := by simp; omega
  rcases h with ⟨rfl, a', c', h, hn⟩ | ⟨b, off, c', hv, h1, h2, hb, hc⟩
  · simp only [Value.slice.injEq] at h
    obtain ⟨rfl, rfl, rfl⟩ := h
    simp at hk
    subst hk
    exact .inl ⟨rfl, a, c, rfl, hn⟩
  · simp only [Value.slice.injEq] at hv
    obtain ⟨rfl, rfl, rfl⟩ := hv
    refine .inr ⟨b, off, c, by rw [hl], by rw [hl]; omega, h2, hb, fun j hj r u hr => ?_⟩
    rw [List.getElem_take] at hr
    exact hc j (by omega) r u hr

/-- v is a slice of the call's own. -/
def OwnN (L : Lays α) (w : World) (base e : Nat) (v : Value) (xs : List α) : Prop := w.ownsRow base e L.sz v xs.length (flatN L xs)
variable {L : Lays α} {w : World} {base e : Nat} {v : Value} {xs : List α}
theorem OwnN.nil (L : Lays α) (w : World) (base e : Nat) : OwnN L w base e (.slice none 0 0) [] := World.ownsRow_nil w base e L.sz
theorem OwnN.made (L : Lays α) (w : World) (base e : Nat) (hb : base ≤ w.heap.size) : OwnN L (w.alloc (.cells #[] e)) base e (.slice (some ⟨w.heap.size, 0, none⟩) 0 0) [] :=
  World.ownsRow_made w #[] 0 hb (by simp) (by simp)
theorem OwnN.kept {w' : World} {row : Option Nat} (h : OwnN L w base e v xs) (hg : w.grownBy w' row) (hne : v.ownBlock = none ∨ v.ownBlock ≠ row) : OwnN L w' base e v xs := World.ownsRow.kept h hg hne
theorem OwnN.alloc (h : OwnN L w base e v xs) (o : Obj) : OwnN L (w.alloc o) base e v xs := World.ownsRow.alloc h o
theorem OwnN.below {w' : World} (h : OwnN L w base e v xs) (hb : Below w.heap.size w w') : OwnN L w' base e v xs :=
  h.kept (row := none) ⟨hb.os, hb.tape, hb.output, hb.size, fun k hk _ => hb.block k hk⟩ (by cases v.ownBlock <;> simp)
theorem OwnN.grown {w0 w' : World} (h : OwnN L w base e v xs) (hB : Below base w0 w) (hb : base ≤ w.heap.size) (hg : w.grownBy w' v.ownBlock) : Below base w0 w' :=
  hB.grown hg hb (fun k hk => (World.ownsRow.lt h k hk).1)
theorem OwnN.lower {base' : Nat} (h : OwnN L w base e v xs) (hb : base' ≤ base) : OwnN L w base' e v xs := by
  obtain ⟨h1, h2⟩ := h
  rcases h2 with h2 | ⟨g, cap, cur, hv, hg, h3⟩
  · exact ⟨h1, .inl h2⟩
  · exact ⟨h1, .inr ⟨g, cap, cur, hv, Nat.le_trans hb hg, h3⟩⟩
theorem OwnN.same {w' : World} (h : OwnN L w base e v xs) (hs : ∀ g, v.ownBlock = some g → w'.heap[g]? = w.heap[g]?) : OwnN L w' base e v xs := by
  obtain ⟨h1, h2⟩ := h
  rcases h2 with h2 | ⟨g, cap, cur, hv, hg, hh, h3⟩
  · exact ⟨h1, .inl h2⟩
  · exact ⟨h1, .inr ⟨g, cap, cur, hv, hg, (hs g (by rw [hv]; rfl)).trans hh, h3⟩⟩
theorem OwnN.lt (h : OwnN L w base e v xs) {g : Nat} (hg : v.ownBlock = some g) : base ≤ g ∧ g < w.heap.size := World.ownsRow.lt h g hg
theorem OwnN.src (h : OwnN L w base e v xs) : SrcN L w v xs := by
  have hc : ∀ g, v.ownBlock = some g → ∀ j u, (flatN L xs)[j]? = some u → w.cell? ((⟨g, 0, none⟩ : Addr).add j) = some u := fun g hg => World.ownsRow.cells h hg
  have hl := World.ownsRow.lt h
  rcases h.2 with ⟨rfl, h0⟩ | ⟨g, cap, cur, rfl, _, _, hn, hm, _, _⟩
  · exact .inl ⟨List.length_eq_zero_iff.1 h0, none, 0, rfl, fun _ => rfl⟩
  · refine .inr ⟨g, 0, cap, rfl, hn, hm, (hl g rfl).2, fun j hj r u hr => ?_⟩
    have hrs : r < L.sz := by rw [← L.len xs[j]]; exact (List.getElem?_eq_some_iff.1 hr).1
    have e1 := hc g rfl _ _ ((flatN_get L xs j hj r hrs).trans hr)
    rw [plain_add] at e1
    rw [← Nat.add_assoc] at e1
    exact e1
theorem OwnN.shape (h : OwnN L w base e v xs) : ∃ a c, v = .slice a xs.length c := h.src.shape
/-- The row's block in sight. -/
theorem OwnN.cur {n c : Nat} {a : Option Addr} (h : OwnN L w base e (.slice a n c) xs) (h0 : 0 < xs.length) :
    ∃ g cur, a = some ⟨g, 0, none⟩ ∧ base ≤ g ∧ w.heap[g]? = some (.cells cur e (0, 0)) ∧ ∀ j (hj : j < xs.length) r, r < L.sz → cur[j * L.sz + r]? = (L.cs xs[j])[r]? := by
  obtain ⟨h1, h2⟩ := id h
  rcases h2 with ⟨hv, h3⟩ | ⟨g, cap, cur, hv, hg, hh, hc, hm, hsz, ht⟩
  · omega
  · simp only [Value.slice.injEq] at hv
    obtain ⟨rfl, rfl, rfl⟩ := hv
    refine ⟨g, cur, rfl, hg, hh, fun j hj r hr => ?_⟩
    have e1 := flatN_get L xs j hj r hr
    rw [← ht, List.getElem?_take] at e1
    have hlt : r < (L.cs xs[j]).length := by rw [L.len]; exact hr
    split at e1
    · simpa using e1
    · rw [List.getElem?_eq_getElem hlt] at e1; cases e1
/-- append(v, y...). -/
theorem OwnN.append {P : Program} (t : TypeId) (i : TypeInfo) (z : Value) (bytes : Nat) (ht : P.underlying t = some (.slice e)) (hi : P.info? e = some i) (hz : i.zero = some z) (hsize : i.size = L.sz) (hby : i.bytes = bytes) (hzs : z.cells.size = L.sz)
    (hpos : 0 < L.sz) (h : OwnN L w base e v xs) (hb : base ≤ w.heap.size) {sv : Value} {ys : List α} (hs : SrcN L w sv ys) (h63 : xs.length + ys.length ≤ maxLen) (hbytes : (xs.length + ys.length) * bytes ≤ 140737488355328) :
    ∃ v' w', (Builtin.append_ #[t, t] t #[v, sv]).run P w = .ok v' w' ∧ OwnN L w' base e v' (xs ++ ys) ∧ w.grownBy w' v.ownBlock := by
  have key : ∀ (ad : Addr) (c : Nat), sv = .slice (some ad) ys.length c → (∀ j u, (flatN L ys)[j]? = some u → w.cell? (ad.add j) = some u) → ∃ v' w', (Builtin.append_ #[t, t] t #[v, sv]).run P w = .ok v' w' ∧ OwnN L w' base e v' (xs ++ ys) ∧ w.grownBy w' v.ownBlock := by
    rintro ad c rfl hc
    obtain ⟨v', w', hr, ho, hg, _⟩ := run_append_own (P := P) w base t t e i z L.sz bytes ht hi hz hsize hby hzs hpos v xs.length (flatN L xs) h ad ys.length c (flatN L ys)
      (flatN_len L ys) hc (flatN_one L ys) h63 hbytes hb
    refine ⟨v', w', hr, ?_, hg⟩
    unfold OwnN
    rw [List.length_append, flatN_app]
    exact ho
  rcases hs with ⟨rfl, a, c, rfl, hac⟩ | ⟨b, off, c, rfl, h1, h2, hbl, hc⟩
  · cases a with
    | none =>
      rw [hac rfl]
      refine ⟨v, w, run_append_owned_none (P := P) w base t t e i L.sz ht hi v xs.length (flatN L xs) h, by rw [List.append_nil]; exact h, ⟨rfl, rfl, rfl, Nat.le_refl _, fun _ _ _ => rfl⟩⟩
    | some ad => exact key ad c rfl (by simp [flatN])
  · refine key ⟨b, off, none⟩ c rfl (fun j u hj => ?_)
    have hjl : j < ys.length * L.sz := by rw [← flatN_len L ys]; exact (List.getElem?_eq_some_iff.1 hj).1
    have hq : j / L.sz < ys.length := Nat.div_lt_of_lt_mul (by rw [Nat.mul_comm]; exact hjl)
    have hr : j % L.sz < L.sz := Nat.mod_lt _ hpos
    have e : j = j / L.sz * L.sz + j % L.sz := by rw [Nat.mul_comm]; exact (Nat.div_add_mod j L.sz).symm
    rw [plain_add]
    have h3 := hc (j / L.sz) hq (j % L.sz) u (by rw [← flatN_get L ys _ hq _ hr, ← e]; exact hj)
    rw [Nat.add_assoc, ← e] at h3
    exact h3
/-- append(v, x): x lies in a block of its own. -/
theorem OwnN.push {P : Program} (t : TypeId) (i : TypeInfo) (z : Value) (bytes : Nat) (ht : P.underlying t = some (.slice e)) (hi : P.info? e = some i) (hz : i.zero = some z) (hsize : i.size = L.sz) (hby : i.bytes = bytes) (hzs : z.cells.size = L.sz)
    (hpos : 0 < L.sz) (h : OwnN L w base e v xs) (hb : base ≤ w.heap.size) (x : α) {X e2 : Nat} (hX : w.heap[X]? = some (.cells (L.cs x).toArray e2 (0, 0))) (h63 : xs.length + 1 ≤ maxLen) (hbytes : (xs.length + 1) * bytes ≤ 140737488355328) :
    ∃ v' w', (Builtin.append_ #[t, t] t #[v, .slice (some ⟨X, 0, none⟩) 1 1]).run P w = .ok v' w' ∧ OwnN L w' base e v' (xs ++ [x]) ∧ w.grownBy w' v.ownBlock := by
  refine OwnN.append t i z bytes ht hi hz hsize hby hzs hpos h hb (ys := [x]) ?_ h63 hbytes
  refine .inr ⟨X, 0, 1, rfl, by simp, by simp [maxLen], (Array.getElem?_eq_some_iff.1 hX).1, fun j hj r u hr => ?_⟩
  obtain rfl : j = 0 := by simpa using hj
  rw [cells_cell hX]
  simpa using hr
end
end Go.Proofs.Ytinagiofolmhbaa
