/- Rows of windows. (My own texts of another seat, turned to this one.) -/
import Derived.Test.YtlblpmadehikgaaPL1
namespace Go.Proofs.Ytlblpmadehikgaa
open Go.RowKit
set_option linter.unusedVariables false

def SrcC (w : World) (v : Value) (cs : List (Int × Int)) : Prop :=
  (cs = [] ∧ ∃ a c, v = .slice a 0 c ∧ (a = none → c = 0)) ∨ ∃ b off c, v = .slice (some ⟨b, off, none⟩) cs.length c ∧ cs.length ≤ c ∧ c ≤ maxLen ∧ b < w.heap.size ∧
    ∀ j (hj : j < cs.length), w.cell? ⟨b, off + j * 2, none⟩ = some (.int .i64 cs[j].1) ∧ w.cell? ⟨b, off + j * 2 + 1, none⟩ = some (.int .i64 cs[j].2)
theorem SrcC.below {w w1 : World} {v : Value} {cs : List (Int × Int)} (h : SrcC w v cs) (hB : Below w.heap.size w w1) : SrcC w1 v cs := by
  rcases h with h | ⟨b, off, c, hv, h1, h2, hb, hc⟩
  · exact .inl h
  · refine .inr ⟨b, off, c, hv, h1, h2, Nat.lt_of_lt_of_le hb hB.size, fun j hj => ?_⟩
    rw [hB.cell (p := ⟨b, off + j * 2, none⟩) hb, hB.cell (p := ⟨b, off + j * 2 + 1, none⟩) hb]
    exact hc j hj
theorem SrcC.shape {w : World} {v : Value} {cs : List (Int × Int)} (h : SrcC w v cs) : ∃ a c, v = .slice a cs.length c := by
  rcases h with ⟨rfl, a, c, h, _⟩ | ⟨b, off, c, hv, _⟩
  · exact ⟨a, c, h⟩
  · exact ⟨_, _, hv⟩
theorem SrcC.small {w : World} {v : Value} {cs : List (Int × Int)} (h : SrcC w v cs) : cs.length ≤ 9223372036854775807 := by
  rcases h with ⟨rfl, h⟩ | ⟨b, off, c, hv, h1, h2, _⟩
  · simp
  · simp only [maxLen] at h2; omega
/-- An element of a slice, at its address. -/
theorem SrcC.at {w : World} {a : Option Addr} {n c : Nat} {cs : List (Int × Int)} (h : SrcC w (.slice a n c) cs) (k : Nat) (hk : k < cs.length) :
    ∃ b off, a = some ⟨b, off, none⟩ ∧ b < w.heap.size ∧ w.cell? ⟨b, off + k * 2, none⟩ = some (.int .i64 cs[k].1) ∧ w.cell? ⟨b, off + k * 2 + 1, none⟩ = some (.int .i64 cs[k].2) := by
  rcases h with ⟨rfl, h⟩ | ⟨b, off, c, hv, h1, h2, hb, hc⟩
  · simp at hk
  · simp only [Value.slice.injEq] at hv
    exact ⟨b, off, hv.1, hb, hc k hk⟩



def flat (cs : List (Int × Int)) : List Value := cs.flatMap fun x => [.int .i64 x.1, .int .i64 x.2]
theorem flat_len (cs : List (Int × Int)) : (flat cs).length = cs.length * 2 := by
  induction cs with
  | nil => rfl
  | cons x cs ih => simp only [flat, List.flatMap_cons, List.length_append, List.length_cons, List.length_nil] at *; omega
theorem flat_app (a b : List (Int × Int)) : flat (a ++ b) = flat a ++ flat b := by simp [flat]
theorem flat_get (cs : List (Int × Int)) : ∀ j (h : j < cs.length), (flat cs)[j * 2]? = some (.int .i64 cs[j].1) ∧ (flat cs)[j * 2 + 1]? = some (.int .i64 cs[j].2) := by
  induction cs with
  | nil => intro j h; simp at h
  | cons x cs ih =>
    intro j h
    have e : flat (x :: cs) = .int .i64 x.1 :: .int .i64 x.2 :: flat cs := by simp [flat]
    rw [e]
    cases j with
    | zero => exact ⟨rfl, rfl⟩
    | succ j =>
      have := ih j (by simpa using h)
      rw [show (j + 1) * 2 = j * 2 + 1 + 1 from by omega]
      simpa using this
theorem flat_one (cs : List (Int × Int)) : ∀ u ∈ flat cs, u.oneCell' = true := by
  intro u hu
  simp only [flat, List.mem_flatMap] at hu
  obtain ⟨x, _, hx⟩ := hu
  simp at hx
  rcases hx with rfl | rfl <;> rfl

/-- v is a slice of charges of the call's own. -/
def OwnC (w : World) (base e : Nat) (v : Value) (cs : List (Int × Int)) : Prop := w.ownsRow base e 2 v cs.length (flat cs)
section
variable {w : World} {base e : Nat} {v : Value} {cs : List (Int × Int)}
theorem OwnC.nil (w : World) (base e : Nat) : OwnC w base e (.slice none 0 0) [] := World.ownsRow_nil w base e 2
theorem OwnC.made (w : World) (base e : Nat) (hb : base ≤ w.heap.size) : OwnC (w.alloc (.cells #[] e)) base e (.slice (some ⟨w.heap.size, 0, none⟩) 0 0) [] :=
  World.ownsRow_made w #[] 0 hb (by simp [maxLen]) rfl
theorem OwnC.kept {w' : World} {row : Option Nat} (h : OwnC w base e v cs) (hg : w.grownBy w' row) (hne : v.ownBlock = none ∨ v.ownBlock ≠ row) : OwnC w' base e v cs := World.ownsRow.kept h hg hne
theorem OwnC.alloc (h : OwnC w base e v cs) (o : Obj) : OwnC (w.alloc o) base e v cs := World.ownsRow.alloc h o
theorem OwnC.below {w' : World} (h : OwnC w base e v cs) (hb : Below w.heap.size w w') : OwnC w' base e v cs :=
  h.kept (row := none) ⟨hb.os, hb.tape, hb.output, hb.size, fun k hk _ => hb.block k hk⟩ (by cases v.ownBlock <;> simp)
theorem OwnC.grown {w0 w' : World} (h : OwnC w base e v cs) (hB : Below base w0 w) (hb : base ≤ w.heap.size) (hg : w.grownBy w' v.ownBlock) : Below base w0 w' :=
  hB.grown hg hb (fun k hk => (World.ownsRow.lt h k hk).1)
theorem OwnC.src (h : OwnC w base e v cs) : SrcC w v cs := by
  have hc : ∀ g, v.ownBlock = some g → ∀ j u, (flat cs)[j]? = some u → w.cell? ((⟨g, 0, none⟩ : Addr).add j) = some u := fun g hg => World.ownsRow.cells h hg
  have hl := World.ownsRow.lt h
  rcases h.2 with ⟨rfl, h0⟩ | ⟨g, cap, cur, rfl, _, _, hn, hm, _, _⟩
  · exact .inl ⟨List.length_eq_zero_iff.1 h0, none, 0, rfl, fun _ => rfl⟩
  · refine .inr ⟨g, 0, cap, rfl, hn, hm, (hl g rfl).2, fun j hj => ?_⟩
    obtain ⟨h1, h2⟩ := flat_get cs j hj
    have e1 := hc g rfl _ _ h1
    have e2 := hc g rfl _ _ h2
    rw [plain_add] at e1 e2
    exact ⟨e1, e2⟩
end
theorem info28w : ∃ i z, Try.prog.info? 28 = some i ∧ i.zero = some z ∧ z.cells.size = 2 ∧ i.size = 2 ∧ i.bytes = 16 :=
  ⟨_, _, rfl, rfl, by kernel_rfl, by kernel_rfl, by kernel_rfl⟩

/-- append(v, y...) where v is the call's own. -/
theorem append_c {w : World} {base : Nat} {v sv : Value} {cs ys : List (Int × Int)} (h : OwnC w base 28 v cs) (hbase : base ≤ w.heap.size) (hs : SrcC w sv ys) (hl : cs.length + ys.length ≤ 1000000) :
    ∃ v' w', (Builtin.append_ #[35, 35] 35 #[v, sv]).run Try.prog w = .ok v' w' ∧ OwnC w' base 28 v' (cs ++ ys) ∧ w.grownBy w' v.ownBlock := by
  obtain ⟨i, z, hi, hz, hzs, hsz, hby⟩ := info28w
  have go : ∀ (ad : Addr) (c : Nat), (∀ j u, (flat ys)[j]? = some u → w.cell? (ad.add j) = some u) → sv = .slice (some ad) ys.length c →
      ∃ v' w', (Builtin.append_ #[35, 35] 35 #[v, sv]).run Try.prog w = .ok v' w' ∧ OwnC w' base 28 v' (cs ++ ys) ∧ w.grownBy w' v.ownBlock := by
    rintro ad c hcell rfl
    obtain ⟨v', w', hr, ho, hg, _⟩ := run_append_own (P := Try.prog) w base 35 35 28 i z 2 16 Try.underlying35 hi hz hsz hby hzs (by decide) v cs.length (flat cs) h ad ys.length c (flat ys)
      (flat_len ys) hcell (flat_one ys) (by simp only [maxLen]; omega) (by omega) hbase
    refine ⟨v', w', hr, ?_, hg⟩
    unfold OwnC
    rw [List.length_append, flat_app]
    exact ho
  rcases hs with ⟨rfl, a, c, rfl, hac⟩ | ⟨b, off, c, rfl, _, _, _, hcell⟩
  · cases a with
    | none =>
      obtain rfl := hac rfl
      exact ⟨v, w, run_append_owned_none (P := Try.prog) w base 35 35 28 i 2 Try.underlying35 hi v cs.length (flat cs) h, by rw [List.append_nil]; exact h, ⟨rfl, rfl, rfl, Nat.le_refl _, fun _ _ _ => rfl⟩⟩
    | some ad => exact go ad c (fun j u hj => by simp [flat] at hj) rfl
  · refine go ⟨b, off, none⟩ c (fun j u hj => ?_) rfl
    rw [plain_add]
    have hlt : j < ys.length * 2 := by
      rcases Nat.lt_or_ge j (flat ys).length with h | h
      · rwa [flat_len] at h
      · rw [List.getElem?_eq_none h] at hj; cases hj
    obtain ⟨g1, g2⟩ := flat_get ys (j / 2) (by omega)
    obtain ⟨c1, c2⟩ := hcell (j / 2) (by omega)
    by_cases he : j % 2 = 0
    · rw [show j / 2 * 2 = j from by omega] at g1 c1
      rw [g1] at hj; cases hj; exact c1
    · rw [show j / 2 * 2 + 1 = j from by omega] at g2
      rw [show off + j / 2 * 2 + 1 = off + j from by omega] at c2
      rw [g2] at hj; cases hj; exact c2

/-- append(v, x): x lies in a block of its own. -/
theorem app1c {W0 w : World} {base : Nat} {v : Value} {cs : List (Int × Int)} (p q : Int) (h : OwnC w base 28 v cs) (hB : Below base W0 w) (hb : base ≤ w.heap.size) (hl : cs.length ≤ 100000) :
    ∃ v' w', (Builtin.append_ #[35, 35] 35 #[v, .slice (some ⟨w.heap.size, 0, none⟩) 1 1]).run Try.prog (w.alloc (.cells #[.int .i64 p, .int .i64 q] 28)) = .ok v' w' ∧ OwnC w' base 28 v' (cs ++ [(p, q)]) ∧ Below base W0 w' := by
  have hs : SrcC (w.alloc (.cells #[.int .i64 p, .int .i64 q] 28)) (.slice (some ⟨w.heap.size, 0, none⟩) 1 1) [(p, q)] :=
    .inr ⟨w.heap.size, 0, 1, rfl, by simp, by simp [maxLen], by simp, fun j hj => by
      obtain rfl : j = 0 := by simpa using hj
      exact ⟨cells_cell (World.alloc_heap_new w _) 0, cells_cell (World.alloc_heap_new w _) 1⟩⟩
  have ho := h.alloc (.cells #[.int .i64 p, .int .i64 q] 28)
  have hB1 := hB.alloc hb (.cells #[.int .i64 p, .int .i64 q] 28)
  obtain ⟨v', w', hr, ho', hg⟩ := append_c ho (by simp; omega) hs (by simp; omega)
  exact ⟨v', w', hr, ho', ho.grown hB1 (by simp; omega) hg⟩

end Go.Proofs.Ytlblpmadehikgaa
