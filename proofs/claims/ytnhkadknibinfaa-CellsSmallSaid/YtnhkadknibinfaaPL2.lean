/- The plain law of 'do'; rows of small acts. -/
import Derived.Test.YtnhkadknibinfaaC1
namespace Go.Proofs.Ytnhkadknibinfaa
open Go.RowKit
set_option linter.unusedVariables false

abbrev Sm := Nat × Nat × Nat
def smc (c : Sm) : Nat → Value
  | 0 => .int .u8 (c.1 : Int)
  | 1 => .int .u8 (c.2.1 : Int)
  | _ => .int .u8 (c.2.2 : Int)
/-- A slice of small acts that reads as cs. -/
def SrcS (w : World) (v : Value) (cs : List Sm) : Prop :=
  (cs = [] ∧ ∃ a c, v = .slice a 0 c ∧ c ≤ maxLen) ∨ ∃ b off c, v = .slice (some ⟨b, off, none⟩) cs.length c ∧ cs.length ≤ c ∧ c ≤ maxLen ∧ b < w.heap.size ∧ (∀ c ∈ cs, c.1 < 256 ∧ c.2.1 < 256 ∧ c.2.2 < 256) ∧
    ∀ j (hj : j < cs.length) r, r < 3 → w.cell? ⟨b, off + (j * 3 + r), none⟩ = some (smc cs[j] r)
theorem SrcS.same {w w1 : World} {v : Value} {cs : List Sm} (h : SrcS w v cs) (hk : ∀ k, k < w.heap.size → w1.heap[k]? = w.heap[k]?) (hs : w.heap.size ≤ w1.heap.size) : SrcS w1 v cs := by
  rcases h with h | ⟨b, off, c, hv, h1, h2, hb, hx, hc⟩
  · exact .inl h
  · refine .inr ⟨b, off, c, hv, h1, h2, Nat.lt_of_lt_of_le hb hs, hx, fun j hj r hr => ?_⟩
    rw [← hc j hj r hr]
    unfold World.cell?
    rw [hk b hb]
theorem SrcS.below {w w1 : World} {v : Value} {cs : List Sm} (h : SrcS w v cs) (hB : Below w.heap.size w w1) : SrcS w1 v cs := h.same hB.block hB.size
theorem SrcS.shape {w : World} {v : Value} {cs : List Sm} (h : SrcS w v cs) : ∃ a c, v = .slice a cs.length c ∧ cs.length ≤ c ∧ c ≤ 9223372036854775807 := by
  rcases h with ⟨rfl, h⟩ | ⟨b, off, c, hv, h1, h2, _⟩
  · obtain ⟨a, c, h, hm⟩ := h
    exact ⟨a, c, h, by simp, by simp only [maxLen] at hm; omega⟩
  · exact ⟨_, _, hv, h1, by simp only [maxLen] at h2; omega⟩
theorem SrcS.at {w : World} {a : Option Addr} {n c : Nat} {cs : List Sm} (h : SrcS w (.slice a n c) cs) (k : Nat) (hk : k < cs.length) :
    ∃ b off, a = some ⟨b, off, none⟩ ∧ b < w.heap.size ∧ (cs[k].1 < 256 ∧ cs[k].2.1 < 256 ∧ cs[k].2.2 < 256) ∧ w.cell? ⟨b, off + k * 3, none⟩ = some (.int .u8 (cs[k].1 : Int)) ∧ w.cell? ⟨b, off + k * 3 + 1, none⟩ = some (.int .u8 (cs[k].2.1 : Int)) ∧
      w.cell? ⟨b, off + k * 3 + 2, none⟩ = some (.int .u8 (cs[k].2.2 : Int)) := by
  rcases h with ⟨rfl, h⟩ | ⟨b, off, c, hv, h1, h2, hb, hx, hc⟩
  · simp at hk
  · simp only [Value.slice.injEq] at hv
    exact ⟨b, off, hv.1, hb, hx _ (List.getElem_mem hk), hc k hk 0 (by omega), hc k hk 1 (by omega), hc k hk 2 (by omega)⟩

/-! ### What 'do' does -/
def owV (c : Nat) : Int := if 5 ≤ c then 4 else if 2 ≤ c then 2 else 1
def ixV (c : Nat) : Int := if 5 ≤ c then (c : Int) - 5 else if 2 ≤ c then (c : Int) - 2 else (c : Int)
def doS (marks : Bool) (floor : Int) (st : St) (c : Sm) : St :=
  if c.1 % 8 < 5 ∨ marks = false then storeS st (owV (c.2.1 % 9)) (ixV (c.2.1 % 9)) ((c.2.2 % 4 : Nat) : Int)
  else if c.1 % 8 = 5 then markS st
  else if (st.marks.length : Int) ≤ floor then markS st
  else if c.1 % 8 = 6 then backS st else keepS st
def doV (marks : Bool) (floor : Int) (st : St) (cs : List Sm) : St := (cs.take 60).foldl (doS marks floor) st
def doK (marks : Bool) (floor : Int) (st : St) (cs : List Sm) (k : Nat) : St := (cs.take k).foldl (doS marks floor) st
theorem doK_succ (marks : Bool) (floor : Int) (st : St) (cs : List Sm) (k : Nat) (h : k < cs.length) : doK marks floor st cs (k + 1) = doS marks floor (doK marks floor st cs k) cs[k] := by
  unfold doK
  rw [List.take_succ_eq_append_getElem h, List.foldl_append]; rfl
/-- Whatever stands under the five acts stands under 'do'. -/
theorem foldl_ind {α β : Type} {f : α → β → α} {I : α → Prop} (h : ∀ a b, I a → I (f a b)) : ∀ (l : List β) (a : α), I a → I (l.foldl f a)
  | [], a, ha => ha
  | b :: l, a, ha => foldl_ind h l (f a b) (h a b ha)
theorem doS_ind {I : St → Prop} {marks : Bool} {floor : Int} (h1 : ∀ st o i v, I st → I (storeS st o i v)) (h2 : ∀ st, I st → I (markS st)) (h3 : ∀ st, floor < (st.marks.length : Int) → I st → I (backS st)) (h4 : ∀ st, floor < (st.marks.length : Int) → I st → I (keepS st)) :
    ∀ st c, I st → I (doS marks floor st c) := by
  intro st c h
  unfold doS
  split
  · exact h1 _ _ _ _ h
  · split
    · exact h2 _ h
    · split
      · exact h2 _ h
      · rename_i hf
        split
        · exact h3 _ (by omega) h
        · exact h4 _ (by omega) h
/-- Stores alone. -/
theorem doS_ind0 {I : St → Prop} {floor : Int} (h1 : ∀ st o i v, I st → I (storeS st o i v)) : ∀ st c, I st → I (doS false floor st c) := by
  intro st c h
  unfold doS
  rw [if_pos (.inr rfl)]
  exact h1 _ _ _ _ h
def ShOk (s : List Nat) (st : St) : Prop := StOk st ∧ shape st.now = s
theorem store_sh {s : List Nat} {st : St} (o i v : Int) (h : ShOk s st) : ShOk s (storeS st o i v) := by
  refine ⟨h.1.store o i v, ?_⟩
  unfold storeS
  split
  · rw [show shape ({ st with now := set2 st.now (o, i) v } : St).now = shape (set2 st.now (o, i) v) from rfl, shape_set2]; exact h.2
  · exact h.2
theorem mark_sh {s : List Nat} {st : St} (h : ShOk s st) : ShOk s (markS st) := by
  refine ⟨h.1.mark, ?_⟩
  unfold markS; split <;> exact h.2
theorem keep_sh {s : List Nat} {st : St} (h : ShOk s st) : ShOk s (keepS st) := by
  refine ⟨h.1.keep, ?_⟩
  unfold keepS; split <;> exact h.2
theorem back_sh {s : List Nat} {st : St} (h : ShOk s st) : ShOk s (backS st) := by
  refine ⟨h.1.back, ?_⟩
  unfold backS; split
  · exact h.2
  · exact (base_shape h.1).trans h.2
theorem doS_sh {s : List Nat} {marks : Bool} {floor : Int} (st : St) (c : Sm) (h : ShOk s st) : ShOk s (doS marks floor st c) :=
  doS_ind (I := ShOk s) (fun _ o i v h => store_sh o i v h) (fun _ h => mark_sh h) (fun _ _ h => back_sh h) (fun _ _ h => keep_sh h) st c h
theorem doK_sh {s : List Nat} {marks : Bool} {floor : Int} (st : St) (cs : List Sm) (k : Nat) (h : ShOk s st) : ShOk s (doK marks floor st cs k) := foldl_ind doS_sh _ _ h
theorem doV_sh {s : List Nat} {marks : Bool} {floor : Int} (st : St) (cs : List Sm) (h : ShOk s st) : ShOk s (doV marks floor st cs) := foldl_ind doS_sh _ _ h
theorem shape_get {a : List (List Int)} {s : List Nat} (h : shape a = s) (i : Nat) {n : Nat} (hn : s[i]? = some n) : ∃ hi : i < a.length, a[i].length = n := by
  subst h
  unfold shape at hn
  rw [List.getElem?_map] at hn
  obtain ⟨l, hl, e⟩ := Option.map_eq_some_iff.1 hn
  obtain ⟨hi, hl'⟩ := List.getElem?_eq_some_iff.1 hl
  exact ⟨hi, by rw [hl']; exact e⟩
theorem ld_in {a : List (List Int)} {s : List Nat} (h : shape a = s) (r k : Nat) {n : Nat} (hn : s[r]? = some n) (hk : k < n) : ldE a ((r : Int) + 1) (k : Int) = 0 := by
  obtain ⟨hi, hl⟩ := shape_get h r hn
  unfold ldE
  rw [if_neg (by omega), at2_get hi (by omega)]; rfl
def S9 : List Nat := [2, 3, 0, 4]
theorem ld_nine {a : List (List Int)} (h : shape a = S9) (c : Nat) (hc : c < 9) : ldE a (owV c) (ixV c) = 0 := by
  unfold owV ixV
  by_cases h5 : 5 ≤ c
  · rw [if_pos h5, if_pos h5]
    have := ld_in h 3 (c - 5) (n := 4) rfl (by omega)
    rw [show ((c - 5 : Nat) : Int) = (c : Int) - 5 from by omega] at this
    exact this
  · rw [if_neg h5, if_neg h5]
    by_cases h2 : 2 ≤ c
    · rw [if_pos h2, if_pos h2]
      have := ld_in h 1 (c - 2) (n := 3) rfl (by omega)
      rw [show ((c - 2 : Nat) : Int) = (c : Int) - 2 from by omega] at this
      exact this
    · rw [if_neg h2, if_neg h2]
      exact ld_in h 0 c (n := 2) rfl (by omega)
end Go.Proofs.Ytnhkadknibinfaa
