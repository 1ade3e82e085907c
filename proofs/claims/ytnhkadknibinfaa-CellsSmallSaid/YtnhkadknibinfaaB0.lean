/- Slices of ints and of int64s at this seat. (My own texts of another seat, turned to this one.) -/
import Derived.Test.YtnhkadknibinfaaA7
import Derived.Laws.EntriesVeiled
import Derived.Deep.WholeRow
namespace Go.Proofs.Ytnhkadknibinfaa
open Go.RowKit
set_option linter.unusedVariables false
set_option linter.unusedSimpArgs false

theorem below_drewN {B : Nat} {a w : World} (h : Below B a w) (n : Nat) : Below B a (w.drewN n) := ⟨h.os, h.tape, h.output, h.size, h.block⟩
theorem ch4 {w w1 w2 : World} (h : Below w.heap.size w w1) (k : Below w1.heap.size w1 w2) : Below w.heap.size w w2 := h.trans (k.mono h.size)
/-- A slice of ints that reads as l. -/
theorem step_append_run {P : Program} {ops : Array Oper} {o : Oper} {a : Act} {w w' : World} {K : Act → World → Prop} {Q : Exit → Act → World → Prop} {E : Prop} {v sv v' : Value} (hg : o.guard = none) (s x : Operand) (t : TypeId)
    (hop : o.op = .call { callee := .builtin .append, args := #[s, x], argTypes := #[t, t] }) (hs : a.eval s = v) (hx : a.eval x = sv)
    (hr : (Builtin.append_ #[t, t] o.type #[v, sv]).run P w = .ok v' w') (h : K (a.put o.dst v') w') : if Region.wanted o (yielded ops a.tmps) = true then Oper.wp P o a w K Q else E := by
  have hw : Region.wanted o (yielded ops a.tmps) = true := by simp [Region.wanted, hg]
  rw [if_pos hw]
  have e : (execOp a.eval o).run P w = .ok (.value v') w' := by
    simp only [execOp, hop, resolve, Sem.run_bind, Sem.run_pure, Result.andThen, invoke, builtin, List.map_toArray, List.map_cons, List.map_nil, hs, hx, hr]
  unfold Oper.wp
  rw [e]
  exact h
/-- A slice of ints that reads as l. -/
def SrcI (w : World) (v : Value) (l : List Int) : Prop := SrcE (fun n : Int => Value.int .i64 n) w v l
section
variable {w : World} {v : Value} {l : List Int}
theorem SrcI.below {w' : World} (h : SrcI w v l) (hb : Below w.heap.size w w') : SrcI w' v l := SrcE.below h hb
theorem SrcI.shape (h : SrcI w v l) : ∃ a c, v = .slice a l.length c := SrcE.shape h
theorem SrcI.small (h : SrcI w v l) : l.length ≤ 9223372036854775807 := SrcE.small h
theorem SrcI.at {a : Option Addr} {n c : Nat} (h : SrcI w (.slice a n c) l) (k : Nat) (hk : k < l.length) :
    ∃ b off, a = some ⟨b, off, none⟩ ∧ b < w.heap.size ∧ w.cell? ⟨b, off + k, none⟩ = some (.int .i64 l[k]) := SrcE.at h k hk
theorem SrcI.nil (w : World) : SrcI w (.slice none 0 0) [] := .inl ⟨rfl, rfl⟩
/-- A slice of ints of the call's own, whose cells can be written. -/
def OwnI (w : World) (base : Nat) (v : Value) (l : List Int) : Prop :=
  (v = .slice none 0 0 ∧ l = []) ∨ ∃ g cap, v = .slice (some ⟨g, 0, none⟩) l.length cap ∧ base ≤ g ∧ g < w.heap.size ∧ l.length ≤ cap ∧ cap ≤ maxLen ∧
      (∀ j (hj : j < l.length), w.cell? ⟨g, j, none⟩ = some (.int .i64 l[j])) ∧ (∀ j, w.frozen? ⟨g, j, none⟩ = false)
theorem OwnI.src {base : Nat} (h : OwnI w base v l) : SrcI w v l := by
  rcases h with h | ⟨g, cap, hv, _, _, hc, hm, hcell, _⟩
  · exact .inl h
  · exact .inr ⟨⟨g, 0, none⟩, cap, hv, hc, hm, fun j hj => by rw [plain_add, Nat.zero_add]; exact hcell j hj⟩
theorem OwnI.of {base e : Nat} (h : OwnE (fun n : Int => Value.int .i64 n) w base e v l) : OwnI w base v l := h.cases
theorem OwnI.nil (w : World) (base : Nat) : OwnI w base (.slice none 0 0) [] := .inl ⟨rfl, rfl⟩
theorem OwnI.below {base : Nat} {w' : World} (h : OwnI w base v l) (hb : Below w.heap.size w w') : OwnI w' base v l := by
  rcases h with h | ⟨g, cap, hv, hg, hs, hc, hm, hcell, hf⟩
  · exact .inl h
  · exact .inr ⟨g, cap, hv, hg, Nat.lt_of_lt_of_le hs hb.size, hc, hm, fun j hj => (hb.cell hs).trans (hcell j hj), fun j => (hb.frozen hs).trans (hf j)⟩
end
/-- A slice of ints (of element type e) of the call's own, that append goes on with. -/
def AppI (e : TypeId) (w : World) (base : Nat) (v : Value) (l : List Int) : Prop := OwnE (fun n : Int => Value.int .i64 n) w base e v l
theorem AppI.src {e : TypeId} {w : World} {base : Nat} {v : Value} {l : List Int} (h : AppI e w base v l) : SrcI w v l := OwnE.src h
theorem AppI.below {e : TypeId} {w w' : World} {base : Nat} {v : Value} {l : List Int} (h : AppI e w base v l) (hb : Below w.heap.size w w') : AppI e w' base v l := OwnE.below h hb
theorem info44 : ∃ i z, Try.prog.info? 3 = some i ∧ i.zero = some z ∧ z.cells.size = 1 ∧ i.size = 1 ∧ i.bytes = 8 :=
  ⟨_, _, rfl, rfl, by kernel_rfl, by kernel_rfl, by kernel_rfl⟩
theorem append_i44 {w : World} {base : Nat} {v sv : Value} {xs ys : List Int} (h : AppI 3 w base v xs) (hbase : base ≤ w.heap.size) (hs : SrcI w sv ys) (hl : xs.length + ys.length ≤ 1000000) :
    ∃ v' w', (Builtin.append_ #[44, 44] 44 #[v, sv]).run Try.prog w = .ok v' w' ∧ AppI 3 w' base v' (xs ++ ys) ∧ w.grownBy w' v.ownBlock := by
  obtain ⟨i, z, hi, hz, hzs, hsz, hby⟩ := info44
  exact OwnE.append (P := Try.prog) 44 44 i z 8 Try.underlying44 hi hz hsz hby hzs (fun x => rfl) h hbase sv ys hs (by simp only [maxLen]; omega) (by omega)
theorem push_i44 {W0 w : World} {base : Nat} {v : Value} {xs : List Int} (x : Int) (h : AppI 3 w base v xs) (hB : Below base W0 w) (hb : base ≤ w.heap.size) (hl : xs.length ≤ 100000) :
    ∃ v' w', (Builtin.append_ #[44, 44] 44 #[v, .slice (some ⟨w.heap.size, 0, none⟩) 1 1]).run Try.prog (w.alloc (.cells #[.int .i64 x] 3)) = .ok v' w' ∧ AppI 3 w' base v' (xs ++ [x]) ∧ Below base W0 w' ∧ (w.alloc (.cells #[.int .i64 x] 3)).grownBy w' v.ownBlock := by
  have hs : SrcI (w.alloc (.cells #[.int .i64 x] 3)) (.slice (some ⟨w.heap.size, 0, none⟩) 1 1) [x] :=
    .inr ⟨⟨w.heap.size, 0, none⟩, 1, rfl, by simp, by simp [maxLen], fun j hj => by
      obtain rfl : j = 0 := by simpa using hj
      rw [plain_add]; exact cells_cell (World.alloc_heap_new w _) 0⟩
  have ho : AppI 3 (w.alloc (.cells #[.int .i64 x] 3)) base v xs := OwnE.alloc h (.cells #[.int .i64 x] 3)
  have hB1 := hB.alloc hb (.cells #[.int .i64 x] 3)
  obtain ⟨v', w', hr, ho', hg⟩ := append_i44 ho (by simp; omega) hs (by simp; omega)
  exact ⟨v', w', hr, ho', OwnE.grown ho hB1 (by simp; omega) hg, hg⟩
set_option maxRecDepth 100000 in
set_option maxHeartbeats 400000 in
theorem equal_any44 (v1 v2 : Value) (l m : List Int) (w : World) (h1 : SrcI w v1 l) (h2 : SrcI w v2 m) : Calls Try.prog 23 #[v1, v2] w fun e w' => e = .returned (.bool (decide (l = m))) ∧ Below w.heap.size w w' := by
  have b1 := h1.small
  have b2 := h2.small
  obtain ⟨a1, c1, rfl⟩ := h1.shape
  obtain ⟨a2, c2, rfl⟩ := h2.shape
  have H1 := Hd.mk h1
  have H2 := Hd.mk h2
  clear h1 h2
  by_cases hl : l.length = m.length
  · have HL := Hd.mk hl
    rw [← hl]
    rw [← hl] at H2 b2
    clear hl b2
    go_enter Try.func23, Try.ntmps23
    go_wp2_with fail
    go_loopw [13] (fun i W => ∃ k : Nat, k ≤ l.length ∧ i = .int .i64 k ∧ Hd (l.take k = m.take k) ∧ Below w.heap.size w W) (fun i _ => l.length - (intOf i).toNat)
    case atStart => exact ⟨0, by omega, rfl, ⟨by simp⟩, Below.refl _ _⟩
    case round =>
      obtain ⟨k, hk, rfl, HK, hB⟩ := hrel
      by_cases hlt : k < l.length
      · have hlt2 : k < m.length := by have := HL.out; omega
        obtain ⟨x, offx, rfl, hx, hx1⟩ := (H1.out.below hB).at k hlt
        obtain ⟨y, offy, rfl, hy, hy1⟩ := (H2.out.below hB).at k hlt2
        have HN0 : Hd (l[k] = m[k] → l.take (k + 1) = m.take (k + 1)) := ⟨fun he => by rw [List.take_succ_eq_append_getElem hlt, List.take_succ_eq_append_getElem hlt2, HK.out, he]⟩
        have HN1 : Hd (l[k] ≠ m[k] → decide (l = m) = false) := ⟨fun he => decide_eq_false fun h => he (by subst h; rfl)⟩
        obtain ⟨p, hp⟩ : ∃ p, l[k] = p := ⟨_, rfl⟩
        obtain ⟨q, hq⟩ : ∃ p, m[k] = p := ⟨_, rfl⟩
        rw [hp, hq] at HN0 HN1
        rw [hp] at hx1
        rw [hq] at hy1
        clear hp hq
        have i0 : (0 : Int) ≤ (k : Int) := by omega
        have i1 : (k : Int) < (l.length : Int) := by omega
        by_cases he : p = q
        · have HN := Hd.mk (HN0.out he)
          subst he
          clear HK HN0 HN1
          go_wp2_with fail
          go_quiet (fail)
          go_wp2_with fail
          go_roundw
          case rel => exact ⟨k + 1, by omega, by go_num, HN, below_drewN hB _⟩
          case measure => simp [intOf]; omega
        · have HN := Hd.mk (HN1.out he)
          have hd : decide (p = q) = false := decide_eq_false he
          clear HK HN0 HN1
          go_wp2_with fail
          go_quiet (fail)
          go_wp2_with fail
          go_ret
          exact ⟨by rw [HN.out]; rfl, below_drewN hB _⟩
      · obtain rfl : k = l.length := by omega
        have HN : Hd (decide (l = m) = true) := ⟨decide_eq_true (by have := HK.out; rw [List.take_length, HL.out, List.take_length] at this; exact this)⟩
        clear HK
        go_wp2_with fail
        go_ret
        exact ⟨by rw [HN.out]; rfl, hB⟩
  · have hne : ¬ (l.length : Int) = (m.length : Int) := by omega
    have HN : Hd (decide (l = m) = false) := ⟨decide_eq_false fun h => hl (by rw [h])⟩
    have hd : decide ((l.length : Int) = (m.length : Int)) = false := decide_eq_false hne
    clear hl
    go_enter Try.func23, Try.ntmps23
    go_wp2_with fail
    go_ret
    exact ⟨by rw [HN.out]; rfl, Below.refl _ _⟩
theorem srcLitI44 (w : World) (l : List Int) (hl : l.length ≤ 100000) : SrcI (w.alloc (.cells (l.map fun n : Int => Value.int .i64 n).toArray 3)) (.slice (some ⟨w.heap.size, 0, none⟩) l.length l.length) l :=
  .inr ⟨⟨w.heap.size, 0, none⟩, l.length, rfl, Nat.le_refl _, by simp only [maxLen]; omega, fun j hj => by
    rw [plain_add, Nat.zero_add, cells_cell (World.alloc_heap_new _ _)]; simp [hj]⟩
theorem equal_at44 {l m : List Int} {b : Bool} (hb : decide (l = m) = b) {v pv : Value} {w : World} (h : SrcI w v l) (hp : SrcI w pv m) :
    Calls Try.prog 23 #[v, pv] w fun e w' => e = .returned (.bool b) ∧ Below w.heap.size w w' := by
  have := equal_any44 v pv l m w h hp
  rw [hb] at this; exact this
theorem info28 : ∃ i z, Try.prog.info? 2 = some i ∧ i.zero = some z ∧ z.cells.size = 1 ∧ i.size = 1 ∧ i.bytes = 8 :=
  ⟨_, _, rfl, rfl, by kernel_rfl, by kernel_rfl, by kernel_rfl⟩
theorem append_i28 {w : World} {base : Nat} {v sv : Value} {xs ys : List Int} (h : AppI 2 w base v xs) (hbase : base ≤ w.heap.size) (hs : SrcI w sv ys) (hl : xs.length + ys.length ≤ 1000000) :
    ∃ v' w', (Builtin.append_ #[28, 28] 28 #[v, sv]).run Try.prog w = .ok v' w' ∧ AppI 2 w' base v' (xs ++ ys) ∧ w.grownBy w' v.ownBlock := by
  obtain ⟨i, z, hi, hz, hzs, hsz, hby⟩ := info28
  exact OwnE.append (P := Try.prog) 28 28 i z 8 Try.underlying28 hi hz hsz hby hzs (fun x => rfl) h hbase sv ys hs (by simp only [maxLen]; omega) (by omega)
theorem push_i28 {W0 w : World} {base : Nat} {v : Value} {xs : List Int} (x : Int) (h : AppI 2 w base v xs) (hB : Below base W0 w) (hb : base ≤ w.heap.size) (hl : xs.length ≤ 100000) :
    ∃ v' w', (Builtin.append_ #[28, 28] 28 #[v, .slice (some ⟨w.heap.size, 0, none⟩) 1 1]).run Try.prog (w.alloc (.cells #[.int .i64 x] 2)) = .ok v' w' ∧ AppI 2 w' base v' (xs ++ [x]) ∧ Below base W0 w' ∧ (w.alloc (.cells #[.int .i64 x] 2)).grownBy w' v.ownBlock := by
  have hs : SrcI (w.alloc (.cells #[.int .i64 x] 2)) (.slice (some ⟨w.heap.size, 0, none⟩) 1 1) [x] :=
    .inr ⟨⟨w.heap.size, 0, none⟩, 1, rfl, by simp, by simp [maxLen], fun j hj => by
      obtain rfl : j = 0 := by simpa using hj
      rw [plain_add]; exact cells_cell (World.alloc_heap_new w _) 0⟩
  have ho : AppI 2 (w.alloc (.cells #[.int .i64 x] 2)) base v xs := OwnE.alloc h (.cells #[.int .i64 x] 2)
  have hB1 := hB.alloc hb (.cells #[.int .i64 x] 2)
  obtain ⟨v', w', hr, ho', hg⟩ := append_i28 ho (by simp; omega) hs (by simp; omega)
  exact ⟨v', w', hr, ho', OwnE.grown ho hB1 (by simp; omega) hg, hg⟩
set_option maxRecDepth 100000 in
set_option maxHeartbeats 400000 in
theorem clone_app28 (v : Value) (l : List Int) (w : World) (h : SrcI w v l) (hl : l.length ≤ 1000000) : Calls Try.prog 35 #[v] w fun e w' => ∃ v', e = .returned v' ∧ AppI 2 w' w.heap.size v' l ∧ Below w.heap.size w w' := by
  have hsm := h.small
  obtain ⟨a, c, rfl⟩ := h.shape
  cases a with
  | none =>
    have hcs : l = [] ∧ c = 0 := by
      rcases h with ⟨hv, rfl⟩ | ⟨b, off, hv, _⟩
      · simp at hv; exact ⟨rfl, hv⟩
      · simp at hv
    obtain ⟨rfl, rfl⟩ := hcs
    clear h
    have heq : ∀ W : World, (binOp .eql 28 (.slice none 0 0) (.slice none 0 0)).run Try.prog W = .ok (.bool true) W := fun W => run_eql_nil_slice W 28 2 none 0 0 0 0 Try.underlying28
    go_enter Try.func35, Try.ntmps35
    go_wp2_with fail
    go_ret
    exact ⟨_, rfl, OwnE.nil _ _ _ _, Below.refl _ _⟩
  | some ad =>
    have hB := (Below.refl w.heap.size w).alloc (Nat.le_refl _) (.cells #[] 2)
    obtain ⟨v', w', hr, ho, hg⟩ := append_i28 (OwnE.made _ w w.heap.size 2 (Nat.le_refl _)) (by simp) (h.below hB) (by simpa using hl)
    have HO : Hd (AppI 2 w' w.heap.size v' l) := ⟨by simpa [AppI] using ho⟩
    have HB := Hd.mk (OwnE.grown (OwnE.made (fun n : Int => Value.int .i64 n) w w.heap.size 2 (Nat.le_refl _)) hB (by simp) hg)
    clear h ho hg hB
    have heq : ∀ W : World, (binOp .eql 28 (.slice (some ad) l.length c) (.slice none 0 0)).run Try.prog W = .ok (.bool false) W := fun W => Lib.run_eql_slice_nil W 28 2 (some ad) _ _ 0 0 Try.underlying28
    go_enter Try.func35, Try.ntmps35
    go_wp2_with (at_builtin; refine wpList_append_run rfl _ _ _ rfl rfl rfl hr ?_; clear hr)
    go_ret
    exact ⟨_, rfl, HO.out, HB.out⟩
set_option maxRecDepth 100000 in
set_option maxHeartbeats 400000 in
theorem equal_any28 (v1 v2 : Value) (l m : List Int) (w : World) (h1 : SrcI w v1 l) (h2 : SrcI w v2 m) : Calls Try.prog 18 #[v1, v2] w fun e w' => e = .returned (.bool (decide (l = m))) ∧ Below w.heap.size w w' := by
  have b1 := h1.small
  have b2 := h2.small
  obtain ⟨a1, c1, rfl⟩ := h1.shape
  obtain ⟨a2, c2, rfl⟩ := h2.shape
  have H1 := Hd.mk h1
  have H2 := Hd.mk h2
  clear h1 h2
  by_cases hl : l.length = m.length
  · have HL := Hd.mk hl
    rw [← hl]
    rw [← hl] at H2 b2
    clear hl b2
    go_enter Try.func18, Try.ntmps18
    go_wp2_with fail
    go_loopw [13] (fun i W => ∃ k : Nat, k ≤ l.length ∧ i = .int .i64 k ∧ Hd (l.take k = m.take k) ∧ Below w.heap.size w W) (fun i _ => l.length - (intOf i).toNat)
    case atStart => exact ⟨0, by omega, rfl, ⟨by simp⟩, Below.refl _ _⟩
    case round =>
      obtain ⟨k, hk, rfl, HK, hB⟩ := hrel
      by_cases hlt : k < l.length
      · have hlt2 : k < m.length := by have := HL.out; omega
        obtain ⟨x, offx, rfl, hx, hx1⟩ := (H1.out.below hB).at k hlt
        obtain ⟨y, offy, rfl, hy, hy1⟩ := (H2.out.below hB).at k hlt2
        have HN0 : Hd (l[k] = m[k] → l.take (k + 1) = m.take (k + 1)) := ⟨fun he => by rw [List.take_succ_eq_append_getElem hlt, List.take_succ_eq_append_getElem hlt2, HK.out, he]⟩
        have HN1 : Hd (l[k] ≠ m[k] → decide (l = m) = false) := ⟨fun he => decide_eq_false fun h => he (by subst h; rfl)⟩
        obtain ⟨p, hp⟩ : ∃ p, l[k] = p := ⟨_, rfl⟩
        obtain ⟨q, hq⟩ : ∃ p, m[k] = p := ⟨_, rfl⟩
        rw [hp, hq] at HN0 HN1
        rw [hp] at hx1
        rw [hq] at hy1
        clear hp hq
        have i0 : (0 : Int) ≤ (k : Int) := by omega
        have i1 : (k : Int) < (l.length : Int) := by omega
        by_cases he : p = q
        · have HN := Hd.mk (HN0.out he)
          subst he
          clear HK HN0 HN1
          go_wp2_with fail
          go_quiet (fail)
          go_wp2_with fail
          go_roundw
          case rel => exact ⟨k + 1, by omega, by go_num, HN, below_drewN hB _⟩
          case measure => simp [intOf]; omega
        · have HN := Hd.mk (HN1.out he)
          have hd : decide (p = q) = false := decide_eq_false he
          clear HK HN0 HN1
          go_wp2_with fail
          go_quiet (fail)
          go_wp2_with fail
          go_ret
          exact ⟨by rw [HN.out]; rfl, below_drewN hB _⟩
      · obtain rfl : k = l.length := by omega
        have HN : Hd (decide (l = m) = true) := ⟨decide_eq_true (by have := HK.out; rw [List.take_length, HL.out, List.take_length] at this; exact this)⟩
        clear HK
        go_wp2_with fail
        go_ret
        exact ⟨by rw [HN.out]; rfl, hB⟩
  · have hne : ¬ (l.length : Int) = (m.length : Int) := by omega
    have HN : Hd (decide (l = m) = false) := ⟨decide_eq_false fun h => hl (by rw [h])⟩
    have hd : decide ((l.length : Int) = (m.length : Int)) = false := decide_eq_false hne
    clear hl
    go_enter Try.func18, Try.ntmps18
    go_wp2_with fail
    go_ret
    exact ⟨by rw [HN.out]; rfl, Below.refl _ _⟩
theorem srcLitI28 (w : World) (l : List Int) (hl : l.length ≤ 100000) : SrcI (w.alloc (.cells (l.map fun n : Int => Value.int .i64 n).toArray 2)) (.slice (some ⟨w.heap.size, 0, none⟩) l.length l.length) l :=
  .inr ⟨⟨w.heap.size, 0, none⟩, l.length, rfl, Nat.le_refl _, by simp only [maxLen]; omega, fun j hj => by
    rw [plain_add, Nat.zero_add, cells_cell (World.alloc_heap_new _ _)]; simp [hj]⟩
theorem equal_at28 {l m : List Int} {b : Bool} (hb : decide (l = m) = b) {v pv : Value} {w : World} (h : SrcI w v l) (hp : SrcI w pv m) :
    Calls Try.prog 18 #[v, pv] w fun e w' => e = .returned (.bool b) ∧ Below w.heap.size w w' := by
  have := equal_any28 v pv l m w h hp
  rw [hb] at this; exact this
end Go.Proofs.Ytnhkadknibinfaa
