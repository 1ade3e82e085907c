/- Rows of changes (four cells each). -/
import Derived.Test.YtnhkadknibinfaaB4
import Derived.ChangeKeysEq
import Derived.Laws.StructEq
namespace Go.Proofs.Ytnhkadknibinfaa
open Go.RowKit
set_option linter.unusedVariables false
set_option linter.unusedSimpArgs false

abbrev Ch := Int × Int × Int × Int
def chc (c : Ch) : Nat → Value
  | 0 => .int .i64 c.1
  | 1 => .int .i64 c.2.1
  | 2 => .int .i64 c.2.2.1
  | _ => .int .i64 c.2.2.2

def SrcD (w : World) (v : Value) (cs : List Ch) : Prop :=
  (cs = [] ∧ ∃ a c, v = .slice a 0 c ∧ (a = none → c = 0)) ∨ ∃ b off c, v = .slice (some ⟨b, off, none⟩) cs.length c ∧ cs.length ≤ c ∧ c ≤ maxLen ∧ b < w.heap.size ∧
    ∀ j (hj : j < cs.length) r, r < 4 → w.cell? ⟨b, off + j * 4 + r, none⟩ = some (chc cs[j] r)
theorem SrcD.below {w w1 : World} {v : Value} {cs : List Ch} (h : SrcD w v cs) (hB : Below w.heap.size w w1) : SrcD w1 v cs := by
  rcases h with h | ⟨b, off, c, hv, h1, h2, hb, hc⟩
  · exact .inl h
  · refine .inr ⟨b, off, c, hv, h1, h2, Nat.lt_of_lt_of_le hb hB.size, fun j hj r hr => ?_⟩
    rw [hB.cell (p := ⟨b, off + j * 4 + r, none⟩) hb]
    exact hc j hj r hr
theorem SrcD.shape {w : World} {v : Value} {cs : List Ch} (h : SrcD w v cs) : ∃ a c, v = .slice a cs.length c := by
  rcases h with ⟨rfl, a, c, h, _⟩ | ⟨b, off, c, hv, _⟩
  · exact ⟨a, c, h⟩
  · exact ⟨_, _, hv⟩
theorem SrcD.small {w : World} {v : Value} {cs : List Ch} (h : SrcD w v cs) : cs.length ≤ 9223372036854775807 := by
  rcases h with ⟨rfl, h⟩ | ⟨b, off, c, hv, h1, h2, _⟩
  · simp
  · simp only [maxLen] at h2; omega
/-- An element of a slice, at its address. -/
theorem SrcD.at {w : World} {a : Option Addr} {n c : Nat} {cs : List Ch} (h : SrcD w (.slice a n c) cs) (k : Nat) (hk : k < cs.length) :
    ∃ b off, a = some ⟨b, off, none⟩ ∧ b < w.heap.size ∧ w.cell? ⟨b, off + k * 4, none⟩ = some (.int .i64 cs[k].1) ∧ w.cell? ⟨b, off + k * 4 + 1, none⟩ = some (.int .i64 cs[k].2.1) ∧
      w.cell? ⟨b, off + k * 4 + 2, none⟩ = some (.int .i64 cs[k].2.2.1) ∧ w.cell? ⟨b, off + k * 4 + 3, none⟩ = some (.int .i64 cs[k].2.2.2) := by
  rcases h with ⟨rfl, h⟩ | ⟨b, off, c, hv, h1, h2, hb, hc⟩
  · simp at hk
  · simp only [Value.slice.injEq] at hv
    exact ⟨b, off, hv.1, hb, hc k hk 0 (by omega), hc k hk 1 (by omega), hc k hk 2 (by omega), hc k hk 3 (by omega)⟩

def flat4 (cs : List Ch) : List Value := cs.flatMap fun x => [.int .i64 x.1, .int .i64 x.2.1, .int .i64 x.2.2.1, .int .i64 x.2.2.2]
theorem flat4_len (cs : List Ch) : (flat4 cs).length = cs.length * 4 := by
  induction cs with
  | nil => rfl
  | cons x cs ih => simp only [flat4, List.flatMap_cons, List.length_append, List.length_cons, List.length_nil] at *; omega
theorem flat4_app (a b : List Ch) : flat4 (a ++ b) = flat4 a ++ flat4 b := by simp [flat4]
theorem flat4_get (cs : List Ch) : ∀ j (h : j < cs.length) r, r < 4 → (flat4 cs)[j * 4 + r]? = some (chc cs[j] r) := by
  induction cs with
  | nil => intro j h; simp at h
  | cons x cs ih =>
    intro j h r hr
    have e : flat4 (x :: cs) = .int .i64 x.1 :: .int .i64 x.2.1 :: .int .i64 x.2.2.1 :: .int .i64 x.2.2.2 :: flat4 cs := by simp [flat4]
    rw [e]
    cases j with
    | zero =>
      obtain rfl | rfl | rfl | rfl : r = 0 ∨ r = 1 ∨ r = 2 ∨ r = 3 := by omega
      all_goals rfl
    | succ j =>
      have := ih j (by simpa using h) r hr
      rw [show (j + 1) * 4 + r = j * 4 + r + 1 + 1 + 1 + 1 from by omega]
      simpa using this
theorem flat4_one (cs : List Ch) : ∀ u ∈ flat4 cs, u.oneCell' = true := by
  intro u hu
  simp only [flat4, List.mem_flatMap] at hu
  obtain ⟨x, _, hx⟩ := hu
  simp at hx
  rcases hx with rfl | rfl | rfl | rfl <;> rfl

/-- v is a slice of changes of the call's own. -/
def OwnD (w : World) (base e : Nat) (v : Value) (cs : List Ch) : Prop := w.ownsRow base e 4 v cs.length (flat4 cs)
section
variable {w : World} {base e : Nat} {v : Value} {cs : List Ch}
theorem OwnD.nil (w : World) (base e : Nat) : OwnD w base e (.slice none 0 0) [] := World.ownsRow_nil w base e 4
theorem OwnD.kept {w' : World} {row : Option Nat} (h : OwnD w base e v cs) (hg : w.grownBy w' row) (hne : v.ownBlock = none ∨ v.ownBlock ≠ row) : OwnD w' base e v cs := World.ownsRow.kept h hg hne
theorem OwnD.alloc (h : OwnD w base e v cs) (o : Obj) : OwnD (w.alloc o) base e v cs := World.ownsRow.alloc h o
theorem OwnD.below {w' : World} (h : OwnD w base e v cs) (hb : Below w.heap.size w w') : OwnD w' base e v cs :=
  h.kept (row := none) ⟨hb.os, hb.tape, hb.output, hb.size, fun k hk _ => hb.block k hk⟩ (by cases v.ownBlock <;> simp)
theorem OwnD.grown {w0 w' : World} (h : OwnD w base e v cs) (hB : Below base w0 w) (hb : base ≤ w.heap.size) (hg : w.grownBy w' v.ownBlock) : Below base w0 w' :=
  hB.grown hg hb (fun k hk => (World.ownsRow.lt h k hk).1)
theorem OwnD.lower {base' : Nat} (h : OwnD w base e v cs) (hb : base' ≤ base) : OwnD w base' e v cs := by
  obtain ⟨h1, h2⟩ := h
  rcases h2 with h2 | ⟨g, cap, cur, hv, hg, h3⟩
  · exact ⟨h1, .inl h2⟩
  · exact ⟨h1, .inr ⟨g, cap, cur, hv, Nat.le_trans hb hg, h3⟩⟩
theorem OwnD.src (h : OwnD w base e v cs) : SrcD w v cs := by
  have hc : ∀ g, v.ownBlock = some g → ∀ j u, (flat4 cs)[j]? = some u → w.cell? ((⟨g, 0, none⟩ : Addr).add j) = some u := fun g hg => World.ownsRow.cells h hg
  have hl := World.ownsRow.lt h
  rcases h.2 with ⟨rfl, h0⟩ | ⟨g, cap, cur, rfl, _, _, hn, hm, _, _⟩
  · exact .inl ⟨List.length_eq_zero_iff.1 h0, none, 0, rfl, fun _ => rfl⟩
  · refine .inr ⟨g, 0, cap, rfl, hn, hm, (hl g rfl).2, fun j hj r hr => ?_⟩
    have e1 := hc g rfl _ _ (flat4_get cs j hj r hr)
    rw [plain_add] at e1
    rw [← Nat.add_assoc] at e1
    exact e1
end
theorem info39 : ∃ i z, Try.prog.info? 39 = some i ∧ i.zero = some z ∧ z.cells.size = 4 ∧ i.size = 4 ∧ i.bytes = 32 :=
  ⟨_, _, rfl, rfl, by kernel_rfl, by kernel_rfl, by kernel_rfl⟩

/-- append(v, x): x lies in a block of its own. -/
theorem app1d {w : World} {base : Nat} {v : Value} {cs : List Ch} (c : Ch) {X : Nat} (h : OwnD w base 39 v cs) (hX : w.heap[X]? = some (.cells #[.int .i64 c.1, .int .i64 c.2.1, .int .i64 c.2.2.1, .int .i64 c.2.2.2] 39 (0, 0))) (hb : base ≤ w.heap.size) (hl : cs.length ≤ 100000) :
    ∃ v' w', (Builtin.append_ #[31, 31] 31 #[v, .slice (some ⟨X, 0, none⟩) 1 1]).run Try.prog w = .ok v' w' ∧ OwnD w' base 39 v' (cs ++ [c]) ∧ w.grownBy w' v.ownBlock := by
  obtain ⟨i, z, hi, hz, hzs, hsz, hby⟩ := info39
  obtain ⟨v', w', hr, ho, hg, _⟩ := run_append_own (P := Try.prog) w base 31 31 39 i z 4 32 Try.underlying31 hi hz hsz hby hzs (by decide) v cs.length (flat4 cs) h ⟨X, 0, none⟩ 1 1 (flat4 [c])
    (flat4_len [c]) (by
      intro j u hj
      rw [plain_add, Nat.zero_add, cells_cell hX]
      have e : flat4 [c] = [.int .i64 c.1, .int .i64 c.2.1, .int .i64 c.2.2.1, .int .i64 c.2.2.2] := by simp [flat4]
      rw [e] at hj
      simpa using hj) (flat4_one [c]) (by simp only [maxLen]; omega) (by omega) hb
  refine ⟨v', w', hr, ?_, hg⟩
  unfold OwnD
  rw [List.length_append, flat4_app]
  exact ho
end Go.Proofs.Ytnhkadknibinfaa
