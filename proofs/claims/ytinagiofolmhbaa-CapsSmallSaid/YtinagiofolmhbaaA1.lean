/- Slices of ints at this seat: what is told of them, append, Clone, Equal, Sort. (My own texts of another seat, turned to this one by port.py.) -/
import Derived.Test.YtinagiofolmhbaaRows
import Derived.Test.YtinagiofolmhbaaCells
import Derived.Test.YtinagiofolmhbaaOwn
import Derived.Test.YtinagiofolmhbaaShelf
import Derived.LoopTactic
import Derived.Outline
import Derived.Handy
import Derived.Laws.Rows
import Derived.Laws.EntriesVeiled
import Derived.Deep.QuietTactic
import Derived.BigQuiet
import Derived.Deep.DeepCutAuto
import Derived.Deep.DrawnRows
import Derived.Deep.WholeRow
import Derived.Laws.CopyOwn
import Derived.BigRegion
import Derived.Sort.OwnSortedInts
import Derived.Laws.IdiomCopy
namespace Go.Proofs.Ytinagiofolmhbaa
open Go.RowKit
set_option linter.unusedVariables false

theorem below_drewN {B : Nat} {a w : World} (h : Below B a w) (n : Nat) : Below B a (w.drewN n) := ⟨h.os, h.tape, h.output, h.size, h.block⟩
theorem ch4 {w w1 w2 : World} (h : Below w.heap.size w w1) (k : Below w1.heap.size w1 w2) : Below w.heap.size w w2 := h.trans (k.mono h.size)
/-- A slice of ints that reads as l. -/
def SrcI (w : World) (v : Value) (l : List Int) : Prop := SrcE (fun n : Int => Value.int .i64 n) w v l
section
variable {w : World} {v : Value} {l : List Int}
theorem SrcI.below {w' : World} (h : SrcI w v l) (hb : Below w.heap.size w w') : SrcI w' v l := SrcE.below h hb
theorem SrcI.shape (h : SrcI w v l) : ∃ a c, v = .slice a l.length c := SrcE.shape h
theorem SrcI.small (h : SrcI w v l) : l.length ≤ 9223372036854775807 := SrcE.small h
theorem SrcI.at {a : Option Addr} {n c : Nat} (h : SrcI w (.slice a n c) l) (k : Nat) (hk : k < l.length) :
    ∃ b off, a = some ⟨b, off, none⟩ ∧ b < w.heap.size ∧ w.cell? ⟨b, off + k, none⟩ = some (.int .i64 l[k]) := SrcE.at h k hk
theorem SrcI.nil (w : World) : SrcI w (.slice none 0 0) [] := .inl ⟨rfl, rfl⟩
/-- A slice of ints of the call's own, whose cells can be written. -/
def OwnI (w : World) (base : Nat) (v : Value) (l : List Int) : Prop :=
  (v = .slice none 0 0 ∧ l = []) ∨ ∃ g cap, v = .slice (some ⟨g, 0, none⟩) l.length cap ∧ base ≤ g ∧ g < w.heap.size ∧ l.length ≤ cap ∧ cap ≤ maxLen ∧
      (∀ j (hj : j < l.length), w.cell? ⟨g, j, none⟩ = some (.int .i64 l[j])) ∧ (∀ j, w.frozen? ⟨g, j, none⟩ = false)
theorem OwnI.src {base : Nat} (h : OwnI w base v l) : SrcI w v l := by
  rcases h with h | ⟨g, cap, hv, _, _, hc, hm, hcell, _⟩
  · exact .inl h
  · exact .inr ⟨⟨g, 0, none⟩, cap, hv, hc, hm, fun j hj => by rw [plain_add, Nat.zero_add]; exact hcell j hj⟩
theorem OwnI.of {base e : Nat} (h : OwnE (fun n : Int => Value.int .i64 n) w base e v l) : OwnI w base v l := h.cases
theorem OwnI.nil (w : World) (base : Nat) : OwnI w base (.slice none 0 0) [] := .inl ⟨rfl, rfl⟩
theorem OwnI.below {base : Nat} {w' : World} (h : OwnI w base v l) (hb : Below w.heap.size w w') : OwnI w' base v l := by
  rcases h with h | ⟨g, cap, hv, hg, hs, hc, hm, hcell, hf⟩
  · exact .inl h
  · exact .inr ⟨g, cap, hv, hg, Nat.lt_of_lt_of_le hs hb.size, hc, hm, fun j hj => (hb.cell hs).trans (hcell j hj), fun j => (hb.frozen hs).trans (hf j)⟩
end
theorem qsame {f : FuncId} {args : Array Value} {w : World} {n : Nat} {v : Value} (h : Calls Try.prog f args (w.drewN n) fun e w' => e = .returned v ∧ w.drewN n = w') : Calls Try.prog f args (w.drewN n) fun e w'' => e = .returned v ∧ ∃ m, w'' = w.drewN m :=
  h.mono fun _ _ ⟨he, hm⟩ => ⟨he, n, hm.symm⟩
theorem nan_any (x : Int) (w : World) : Calls Try.prog 58 #[.int .i64 x] w fun e w' => e = .returned (.bool false) ∧ w = w' := by
  go_enter Try.func58, Try.ntmps58
  go_wp2_with fail
  go_ret
  exact ⟨by simp, rfl⟩
theorem less_any (x y : Int) (w : World) : Calls Try.prog 43 #[.int .i64 x, .int .i64 y] w fun e w' => e = .returned (.bool (decide (x < y))) ∧ w = w' := by
  go_enter Try.func43, Try.ntmps43
  go_wp2_with fail
  refine (nan_any _ _).mono ?_
  rintro e w1 ⟨rfl, rfl⟩
  go_wp2_with fail
  go_ret
  exact ⟨rfl, rfl⟩
/-- A slice of ints of the call's own, that append goes on with. -/
def AppI (w : World) (base : Nat) (v : Value) (l : List Int) : Prop := OwnE (fun n : Int => Value.int .i64 n) w base 3 v l
set_option maxRecDepth 100000 in
theorem info3 : ∃ i z, Try.prog.info? 3 = some i ∧ i.zero = some z ∧ z.cells.size = 1 ∧ i.size = 1 ∧ i.bytes = 8 :=
  ⟨_, _, rfl, rfl, by kernel_rfl, by kernel_rfl, by kernel_rfl⟩
theorem append_i {w : World} {base : Nat} {v sv : Value} {xs ys : List Int} (h : AppI w base v xs) (hbase : base ≤ w.heap.size) (hs : SrcI w sv ys) (hl : xs.length + ys.length ≤ 1000000) :
    ∃ v' w', (Builtin.append_ #[30, 30] 30 #[v, sv]).run Try.prog w = .ok v' w' ∧ AppI w' base v' (xs ++ ys) ∧ w.grownBy w' v.ownBlock := by
  obtain ⟨i, z, hi, hz, hzs, hsz, hby⟩ := info3
  exact OwnE.append (P := Try.prog) 30 30 i z 8 Try.underlying30 hi hz hsz hby hzs (fun x => rfl) h hbase sv ys hs (by simp only [maxLen]; omega) (by omega)
theorem push_i {W0 w : World} {base : Nat} {v : Value} {xs : List Int} (x : Int) (h : AppI w base v xs) (hB : Below base W0 w) (hb : base ≤ w.heap.size) (hl : xs.length ≤ 100000) :
    ∃ v' w', (Builtin.append_ #[30, 30] 30 #[v, .slice (some ⟨w.heap.size, 0, none⟩) 1 1]).run Try.prog (w.alloc (.cells #[.int .i64 x] 3)) = .ok v' w' ∧ AppI w' base v' (xs ++ [x]) ∧ Below base W0 w' ∧ (w.alloc (.cells #[.int .i64 x] 3)).grownBy w' v.ownBlock := by
  have hs : SrcI (w.alloc (.cells #[.int .i64 x] 3)) (.slice (some ⟨w.heap.size, 0, none⟩) 1 1) [x] :=
    .inr ⟨⟨w.heap.size, 0, none⟩, 1, rfl, by simp, by simp [maxLen], fun j hj => by
      obtain rfl : j = 0 := by simpa using hj
      rw [plain_add]; exact cells_cell (World.alloc_heap_new w _) 0⟩
  have ho : AppI (w.alloc (.cells #[.int .i64 x] 3)) base v xs := OwnE.alloc h (.cells #[.int .i64 x] 3)
  have hB1 := hB.alloc hb (.cells #[.int .i64 x] 3)
  obtain ⟨v', w', hr, ho', hg⟩ := append_i ho (by simp; omega) hs (by simp; omega)
  exact ⟨v', w', hr, ho', OwnE.grown ho hB1 (by simp; omega) hg, hg⟩
set_option maxRecDepth 100000 in
set_option maxHeartbeats 400000 in
theorem clone_app (v : Value) (l : List Int) (w : World) (h : SrcI w v l) (hl : l.length ≤ 1000000) : Calls Try.prog 39 #[v] w fun e w' => ∃ v', e = .returned v' ∧ AppI w' w.heap.size v' l ∧ Below w.heap.size w w' := by
  have hsm := h.small
  obtain ⟨a, c, rfl⟩ := h.shape
  cases a with
  | none =>
    have hcs : l = [] ∧ c = 0 := by
      rcases h with ⟨hv, rfl⟩ | ⟨b, off, hv, _⟩
      · simp at hv; exact ⟨rfl, hv⟩
      · simp at hv
    obtain ⟨rfl, rfl⟩ := hcs
    clear h
    have heq : ∀ W : World, (binOp .eql 30 (.slice none 0 0) (.slice none 0 0)).run Try.prog W = .ok (.bool true) W := fun W => run_eql_nil_slice W 30 3 none 0 0 0 0 Try.underlying30
    go_enter Try.func39, Try.ntmps39
    go_wp2_with fail
    go_ret
    exact ⟨_, rfl, OwnE.nil _ _ _ _, Below.refl _ _⟩
  | some ad =>
    have hB := (Below.refl w.heap.size w).alloc (Nat.le_refl _) (.cells #[] 3)
    obtain ⟨v', w', hr, ho, hg⟩ := append_i (OwnE.made _ w w.heap.size 3 (Nat.le_refl _)) (by simp) (h.below hB) (by simpa using hl)
    have HO : Hd (AppI w' w.heap.size v' l) := ⟨by simpa [AppI] using ho⟩
    have HB := Hd.mk (OwnE.grown (OwnE.made (fun n : Int => Value.int .i64 n) w w.heap.size 3 (Nat.le_refl _)) hB (by simp) hg)
    clear h ho hg hB
    have heq : ∀ W : World, (binOp .eql 30 (.slice (some ad) l.length c) (.slice none 0 0)).run Try.prog W = .ok (.bool false) W := fun W => Lib.run_eql_slice_nil W 30 3 (some ad) _ _ 0 0 Try.underlying30
    go_enter Try.func39, Try.ntmps39
    go_wp2_with (at_builtin; refine wpList_append_run rfl _ _ _ rfl rfl rfl hr ?_; clear hr)
    go_ret
    exact ⟨_, rfl, HO.out, HB.out⟩
theorem SrcI.take {w : World} {ad : Addr} {n c : Nat} {l : List Int} (h : SrcI w (.slice (some ad) n c) l) (m : Nat) (hm : m ≤ l.length) : SrcI w (.slice (some ad) m c) (l.take m) := by
  rcases h with ⟨h, _⟩ | ⟨ad', c', hv, hc, hmx, hcell⟩
  · simp at h
  · simp only [Value.slice.injEq, Option.some.injEq] at hv
    obtain ⟨rfl, _, rfl⟩ := hv
    refine .inr ⟨ad, c, by rw [List.length_take, Nat.min_eq_left hm], by rw [List.length_take]; omega, hmx, fun j hj => ?_⟩
    rw [List.length_take] at hj
    rw [hcell j (by omega), List.getElem_take]
theorem SrcI.cap {w : World} {a : Option Addr} {n c : Nat} {l : List Int} (h : SrcI w (.slice a n c) l) : l.length = n ∧ n ≤ c ∧ c ≤ 9223372036854775807 := by
  rcases h with ⟨h, rfl⟩ | ⟨ad', c', hv, hc, hmx, hcell⟩
  · simp only [Value.slice.injEq] at h; obtain ⟨_, rfl, rfl⟩ := h; simp
  · simp only [Value.slice.injEq] at hv
    obtain ⟨_, rfl, rfl⟩ := hv
    simp only [maxLen] at hmx
    exact ⟨rfl, hc, by omega⟩
theorem SrcI.drop {w : World} {b off n c : Nat} {l : List Int} (h : SrcI w (.slice (some ⟨b, off, none⟩) n c) l) (m : Nat) (hm : m < l.length) : SrcI w (.slice (some ⟨b, off + m, none⟩) (l.length - m) (c - m)) (l.drop m) := by
  have hc := h.cap
  refine .inr ⟨⟨b, off + m, none⟩, c - m, by rw [List.length_drop], by rw [List.length_drop]; omega, by have := hc.2.2; simp only [maxLen]; omega, fun j hj => ?_⟩
  rw [plain_add, List.getElem_drop]
  obtain ⟨b', off', hbb, _, hx⟩ := h.at (m + j) (by rw [List.length_drop] at hj; omega)
  obtain ⟨rfl, rfl⟩ : b = b' ∧ off = off' := by simpa using hbb
  rw [Nat.add_assoc]; exact hx
theorem SrcI.takeA {w : World} {a : Option Addr} {n c : Nat} {l : List Int} (h : SrcI w (.slice a n c) l) (m : Nat) (hm : m ≤ l.length) : SrcI w (.slice a m c) (l.take m) := by
  cases a with
  | some ad => exact h.take m hm
  | none =>
    rcases h with ⟨hv, rfl⟩ | ⟨x, c', hv, _⟩
    · simp at hv hm; obtain ⟨_, rfl⟩ := hv; subst hm; exact SrcI.nil _
    · simp at hv
theorem SrcI.empty (w : World) (ad : Addr) (c : Nat) (hc : c ≤ maxLen) : SrcI w (.slice (some ad) 0 c) [] := .inr ⟨ad, c, rfl, by simp, hc, fun j hj => by simp at hj⟩
theorem step_append_run {P : Program} {ops : Array Oper} {o : Oper} {a : Act} {w w' : World} {K : Act → World → Prop} {Q : Exit → Act → World → Prop} {E : Prop} {v sv v' : Value} (hg : o.guard = none) (s x : Operand) (t : TypeId)
    (hop : o.op = .call { callee := .builtin .append, args := #[s, x], argTypes := #[t, t] }) (hs : a.eval s = v) (hx : a.eval x = sv)
    (hr : (Builtin.append_ #[t, t] o.type #[v, sv]).run P w = .ok v' w') (h : K (a.put o.dst v') w') : if Region.wanted o (yielded ops a.tmps) = true then Oper.wp P o a w K Q else E := by
  have hw : Region.wanted o (yielded ops a.tmps) = true := by simp [Region.wanted, hg]
  rw [if_pos hw]
  have e : (execOp a.eval o).run P w = .ok (.value v') w' := by
    simp only [execOp, hop, resolve, Sem.run_bind, Sem.run_pure, Result.andThen, invoke, builtin, List.map_toArray, List.map_cons, List.map_nil, hs, hx, hr]
  unfold Oper.wp
  rw [e]
  exact h
theorem grown_refl (w : World) (r : Option Nat) : w.grownBy w r := ⟨rfl, rfl, rfl, Nat.le_refl _, fun _ _ _ => rfl⟩
theorem grown_trans {w w1 w2 : World} {r : Option Nat} (h : w.grownBy w1 r) (k : w1.grownBy w2 r) : w.grownBy w2 r :=
  ⟨k.os.trans h.os, k.tape.trans h.tape, k.output.trans h.output, Nat.le_trans h.size k.size, fun i hi hn => (k.block i (Nat.lt_of_lt_of_le hi h.size) hn).trans (h.block i hi hn)⟩
theorem grown_setI (w : World) (b i : Nat) (v : Value) : w.grownBy (w.setCell ⟨b, i, none⟩ v) (some b) :=
  ⟨rfl, rfl, rfl, by simp [World.setCell], fun k _ hn => Below.heap_setCell _ _ _ _ (fun e => hn (by rw [e]))⟩
theorem below_grown {B b : Nat} {w w1 : World} (h : w.grownBy w1 (some b)) (hb : B ≤ b) (hs : B ≤ w.heap.size) : Below B w w1 :=
  ⟨h.os, h.tape, h.output, h.size, fun k hk => h.block k (by omega) (fun e => by simp at e; omega)⟩
theorem grown_drewN {w w1 : World} {r : Option Nat} (h : w.grownBy w1 r) (n : Nat) : w.grownBy (w1.drewN n) r := ⟨h.os, h.tape, h.output, h.size, h.block⟩
/-- A row of N ints at the head of block g, that can be written. -/
structure RowF (W : World) (g N : Nat) (f : Nat → Int) : Prop where
  lt : g < W.heap.size
  cell : ∀ j, j < N → W.cell? ⟨g, j, none⟩ = some (.int .i64 (f j))
  free : ∀ j, W.frozen? ⟨g, j, none⟩ = false
theorem RowF.congr {W : World} {g N : Nat} {f f' : Nat → Int} (h : RowF W g N f) (e : ∀ j, j < N → f j = f' j) : RowF W g N f' :=
  ⟨h.lt, fun j hj => by rw [h.cell j hj, e j hj], h.free⟩
theorem RowF.drew {W : World} {g N : Nat} {f : Nat → Int} (h : RowF W g N f) : RowF W.drew g N f := ⟨h.lt, h.cell, h.free⟩
theorem RowF.drewN {W : World} {g N : Nat} {f : Nat → Int} (h : RowF W g N f) (n : Nat) : RowF (W.drewN n) g N f := ⟨h.lt, h.cell, h.free⟩
theorem RowF.below {W W' : World} {g N : Nat} {f : Nat → Int} (h : RowF W g N f) (hb : Below W.heap.size W W') : RowF W' g N f :=
  ⟨Nat.lt_of_lt_of_le h.lt hb.size, fun j hj => (hb.cell h.lt).trans (h.cell j hj), fun j => (hb.frozen h.lt).trans (h.free j)⟩
theorem RowF.set {W : World} {g N : Nat} {f : Nat → Int} (h : RowF W g N f) (i : Nat) (hi : i < N) (x : Int) : RowF (W.setCell ⟨g, i, none⟩ (.int .i64 x)) g N (fun j => if j = i then x else f j) := by
  refine ⟨by simpa using h.lt, fun j hj => ?_, fun j => by simpa using h.free j⟩
  by_cases e : j = i
  · subst e; rw [World.cell?_setCell_same (h := h.cell j hj)]; simp
  · rw [World.cell?_setCell_other (h := by intro h; cases h; exact e rfl), h.cell j hj]; simp [e]
theorem OwnI.row {w : World} {base : Nat} {v : Value} {l : List Int} (h : OwnI w base v l) (hl : 0 < l.length) :
    ∃ g cap, v = .slice (some ⟨g, 0, none⟩) l.length cap ∧ base ≤ g ∧ RowF w g l.length (fun j => l.getD j 0) ∧ l.length ≤ cap ∧ cap ≤ maxLen := by
  rcases h with ⟨_, rfl⟩ | ⟨g, cap, hv, hg, hs, hc, hm, hcell, hf⟩
  · simp at hl
  · exact ⟨g, cap, hv, hg, ⟨hs, fun j hj => by rw [hcell j hj, List.getD_eq_getElem?_getD, List.getElem?_eq_getElem hj, Option.getD_some], hf⟩, hc, hm⟩
theorem RowF.own {W : World} {g N base cap : Nat} {f : Nat → Int} (h : RowF W g N f) {u : List Int} (hu : u.length = N) (e : ∀ j, j < N → f j = u.getD j 0) (hg : base ≤ g) (hc : N ≤ cap) (hm : cap ≤ maxLen) :
    OwnI W base (.slice (some ⟨g, 0, none⟩) N cap) u := by
  subst hu
  refine .inr ⟨g, cap, rfl, hg, h.lt, hc, hm, fun j hj => ?_, h.free⟩
  rw [h.cell j hj, e j hj, List.getD_eq_getElem?_getD, List.getElem?_eq_getElem hj, Option.getD_some]
theorem RowF.kept {W W' : World} {g N : Nat} {f : Nat → Int} {r : Option Nat} (h : RowF W g N f) (hg : W.grownBy W' r) (hne : some g ≠ r) : RowF W' g N f := by
  have hb := hg.block g h.lt hne
  exact ⟨Nat.lt_of_lt_of_le h.lt hg.size, fun j hj => hg.cell (h.cell j hj) hne, fun j => by
    have := h.free j
    simp only [World.frozen?, hb] at this ⊢
    exact this⟩
theorem AppI.mono {w : World} {base base' : Nat} {v : Value} {l : List Int} (h : AppI w base v l) (hb : base' ≤ base) : OwnI w base' v l := by
  rcases OwnI.of h with h | ⟨g, cap, h1, h2, h3⟩
  · exact .inl h
  · exact .inr ⟨g, cap, h1, Nat.le_trans hb h2, h3⟩
structure Bel (B W : World) : Prop where
  b : Below B.heap.size B W
theorem Bel.below {B W W' : World} (h : Bel B W) (hb : Below W.heap.size W W') : Bel B W' := ⟨ch4 h.b hb⟩
theorem Bel.grown {B W W' : World} {g : Nat} (h : Bel B W) (hg : W.grownBy W' (some g)) (hb : B.heap.size ≤ g) : Bel B W' := ⟨h.b.trans (below_grown hg hb h.b.size)⟩
set_option maxRecDepth 100000 in
set_option maxHeartbeats 400000 in
theorem equal_any (v1 v2 : Value) (l m : List Int) (w : World) (h1 : SrcI w v1 l) (h2 : SrcI w v2 m) : Calls Try.prog 33 #[v1, v2] w fun e w' => e = .returned (.bool (decide (l = m))) ∧ Below w.heap.size w w' := by
  have b1 := h1.small
  have b2 := h2.small
  obtain ⟨a1, c1, rfl⟩ := h1.shape
  obtain ⟨a2, c2, rfl⟩ := h2.shape
  have H1 := Hd.mk h1
  have H2 := Hd.mk h2
  clear h1 h2
  by_cases hl : l.length = m.length
  · have HL := Hd.mk hl
    rw [← hl]
    rw [← hl] at H2 b2
    clear hl b2
    go_enter Try.func33, Try.ntmps33
    go_wp2_with fail
    go_loopw [13] (fun i W => ∃ k : Nat, k ≤ l.length ∧ i = .int .i64 k ∧ Hd (l.take k = m.take k) ∧ Below w.heap.size w W) (fun i _ => l.length - (intOf i).toNat)
    case atStart => exact ⟨0, by omega, rfl, ⟨by simp⟩, Below.refl _ _⟩
    case round =>
      obtain ⟨k, hk, rfl, HK, hB⟩ := hrel
      by_cases hlt : k < l.length
      · have hlt2 : k < m.length := by have := HL.out; omega
        obtain ⟨x, offx, rfl, hx, hx1⟩ := (H1.out.below hB).at k hlt
        obtain ⟨y, offy, rfl, hy, hy1⟩ := (H2.out.below hB).at k hlt2
        have HN0 : Hd (l[k] = m[k] → l.take (k + 1) = m.take (k + 1)) := ⟨fun he => by rw [List.take_succ_eq_append_getElem hlt, List.take_succ_eq_append_getElem hlt2, HK.out, he]⟩
        have HN1 : Hd (l[k] ≠ m[k] → decide (l = m) = false) := ⟨fun he => decide_eq_false fun h => he (by subst h; rfl)⟩
        obtain ⟨p, hp⟩ : ∃ p, l[k] = p := ⟨_, rfl⟩
        obtain ⟨q, hq⟩ : ∃ p, m[k] = p := ⟨_, rfl⟩
        rw [hp, hq] at HN0 HN1
        rw [hp] at hx1
        rw [hq] at hy1
        clear hp hq
        have i0 : (0 : Int) ≤ (k : Int) := by omega
        have i1 : (k : Int) < (l.length : Int) := by omega
        by_cases he : p = q
        · have HN := Hd.mk (HN0.out he)
          subst he
          clear HK HN0 HN1
          go_wp2_with fail
          go_quiet (fail)
          go_wp2_with fail
          go_roundw
          case rel => exact ⟨k + 1, by omega, by go_num, HN, below_drewN hB _⟩
          case measure => simp [intOf]; omega
        · have HN := Hd.mk (HN1.out he)
          have hd : decide (p = q) = false := decide_eq_false he
          clear HK HN0 HN1
          go_wp2_with fail
          go_quiet (fail)
          go_wp2_with fail
          go_ret
          exact ⟨by rw [HN.out]; rfl, below_drewN hB _⟩
      · obtain rfl : k = l.length := by omega
        have HN : Hd (decide (l = m) = true) := ⟨decide_eq_true (by have := HK.out; rw [List.take_length, HL.out, List.take_length] at this; exact this)⟩
        clear HK
        go_wp2_with fail
        go_ret
        exact ⟨by rw [HN.out]; rfl, hB⟩
  · have hne : ¬ (l.length : Int) = (m.length : Int) := by omega
    have HN : Hd (decide (l = m) = false) := ⟨decide_eq_false fun h => hl (by rw [h])⟩
    have hd : decide ((l.length : Int) = (m.length : Int)) = false := decide_eq_false hne
    clear hl
    go_enter Try.func33, Try.ntmps33
    go_wp2_with fail
    go_ret
    exact ⟨by rw [HN.out]; rfl, Below.refl _ _⟩
theorem srcLitI (w : World) (l : List Int) (hl : l.length ≤ 100000) : SrcI (w.alloc (.cells (l.map fun n : Int => Value.int .i64 n).toArray 3)) (.slice (some ⟨w.heap.size, 0, none⟩) l.length l.length) l :=
  .inr ⟨⟨w.heap.size, 0, none⟩, l.length, rfl, Nat.le_refl _, by simp only [maxLen]; omega, fun j hj => by
    rw [plain_add, Nat.zero_add, cells_cell (World.alloc_heap_new _ _)]; simp [hj]⟩
theorem equal_at {l m : List Int} {b : Bool} (hb : decide (l = m) = b) {v pv : Value} {w : World} (h : SrcI w v l) (hp : SrcI w pv m) :
    Calls Try.prog 33 #[v, pv] w fun e w' => e = .returned (.bool b) ∧ Below w.heap.size w w' := by
  have := equal_any v pv l m w h hp
  rw [hb] at this; exact this
open Go.Sort in
theorem holds_own {w : World} {base g cap : Nat} {l : List Int} (h : OwnI w base (.slice (some ⟨g, 0, none⟩) l.length cap) l) (hl : 0 < l.length) : Holds (Value.int .i64) w g 0 l.toArray ∧ g < w.heap.size ∧ base ≤ g ∧ l.length ≤ cap ∧ cap ≤ maxLen := by
  obtain ⟨g', cap', hv, hg, hR, h1, h2⟩ := h.row hl
  simp only [Value.slice.injEq, Option.some.injEq, Addr.mk.injEq] at hv
  obtain ⟨⟨rfl, _⟩, _, rfl⟩ := hv
  refine ⟨fun j hj => ⟨?_, hR.free _⟩, hR.lt, hg, h1, h2⟩
  have hj' : j < l.length := by simpa using hj
  rw [Nat.zero_add, hR.cell j hj', List.getD_eq_getElem?_getD, List.getElem?_eq_getElem hj']
  simp [hj']
open Go.Sort in
theorem sort_own {w : World} {base : Nat} {v : Value} {l r : List Int} (h : OwnI w base v l) (hr : r.Pairwise (· ≤ ·)) (hp : l.Perm r) (hl : l.length ≤ 100000) (hb : base ≤ w.heap.size) :
    Calls Try.prog 49 #[v] w fun e w' => (∃ x, e = .returned x) ∧ OwnI w' base v r ∧ Below base w w' := by
  rcases Nat.eq_zero_or_pos l.length with h0 | h0
  · have hl0 : l = [] := List.length_eq_zero_iff.1 h0
    subst hl0
    have hr0 : r = [] := by simpa using hp
    subst hr0
    rcases h with ⟨rfl, _⟩ | ⟨g, cap, rfl, h'⟩
    · refine (Try.slices_Sort_int_none none 0 w).mono ?_
      rintro e w' ⟨rfl, rfl⟩
      exact ⟨⟨_, rfl⟩, OwnI.nil _ _, Below.refl _ _⟩
    · refine (Try.slices_Sort_int_none (some ⟨g, 0, none⟩) cap w).mono ?_
      rintro e w' ⟨rfl, rfl⟩
      exact ⟨⟨_, rfl⟩, .inr ⟨g, cap, rfl, h'⟩, Below.refl _ _⟩
  · obtain ⟨g, cap, rfl, _⟩ := h.row h0
    obtain ⟨hH, hlt, hbg, h1, h2⟩ := holds_own h h0
    refine (Try.slices_Sort_int g 0 cap l w hH hlt (by omega)).mono ?_
    rintro e w' ⟨rfl, n, os, rfl⟩
    have hs : (l.mergeSort fun x y => decide (x ≤ y)) = r := by
      refine List.Perm.eq_of_pairwise (le := fun a b : Int => a ≤ b) ?_ ?_ ?_ ((List.mergeSort_perm _ _).trans hp)
      · intro a b _ _ h1 h2; omega
      · have := List.pairwise_mergeSort (le := fun x y : Int => decide (x ≤ y)) (by intro a b c; simp; omega) (by intro a b; simp; omega) l
        exact this.imp (by intro a b h; simpa using h)
      · exact hr
    rw [hs]
    have hlen : r.length = l.length := hp.length_eq.symm
    have hH2 : Holds (Value.int .i64) (Sort.ahead w n) g 0 l.toArray := hH
    have hP := holds_putRow (Value.int .i64) (Sort.ahead w n) g 0 l.toArray r.toArray hH2 (by simp [hlen])
    have hgs : g < (putRow (Value.int .i64) (Sort.ahead w n) g 0 r.toArray).heap.size := by simpa [putRow, mapBlock, Sort.ahead] using hlt
    refine ⟨⟨_, rfl⟩, .inr ⟨g, cap, by rw [hlen], hbg, ?_, by omega, h2, fun j hj => ?_, fun j => ?_⟩, below_grown (grownBy_sortedI _) hbg hb⟩
    · have := (grownBy_sortedI (w := w) (g := g) (n := n) (os := os) r.toArray).size; omega
    · have := (hP j (by simpa using hj)).1
      rw [cell?_grow _ _ _ hgs]
      rw [Nat.zero_add] at this
      rw [this]; simp [hj]
    · rw [frozen?_grow _ _ _ hgs, frozen?_putRow]
      rcases h with ⟨hv, _⟩ | ⟨g', cap', hv, _, _, _, _, _, hf⟩
      · cases hv
      · simp only [Value.slice.injEq, Option.some.injEq, Addr.mk.injEq] at hv
        obtain ⟨⟨rfl, _⟩, _⟩ := hv
        exact hf j
end Go.Proofs.Ytinagiofolmhbaa
