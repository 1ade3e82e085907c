/- Slices of the call's own, whose elements take one cell: what append leaves. -/
import Derived.Test.YtinagiofolmhbaaU
import Derived.Test.YtinagiofolmhbaaRange
import Derived.OpenShut
namespace Go.Proofs.Ytinagiofolmhbaa
open Go.RowKit

/-- v is a slice of the call's own: nil, or at the head of a block from base on; its elements are xs. -/
def OwnE {α : Type} (enc : α → Value) (w : World) (base e : Nat) (v : Value) (xs : List α) : Prop :=
  w.ownsRow base e 1 v xs.length (xs.map enc)

section
variable {α : Type} {enc : α → Value} {w : World} {base e : Nat} {v : Value} {xs : List α}

theorem OwnE.cases (h : OwnE enc w base e v xs) : (v = .slice none 0 0 ∧ xs = []) ∨
    ∃ g cap, v = .slice (some ⟨g, 0, none⟩) xs.length cap ∧ base ≤ g ∧ g < w.heap.size ∧ xs.length ≤ cap ∧ cap ≤ maxLen ∧
      (∀ j (hj : j < xs.length), w.cell? ⟨g, j, none⟩ = some (enc xs[j])) ∧ (∀ j, w.frozen? ⟨g, j, none⟩ = false) := by
  obtain ⟨h1, h2⟩ := h
  rcases h2 with ⟨h2, h3⟩ | ⟨g, cap, cur, hv, hg, hh, hc, hm, hs, ht⟩
  · exact .inl ⟨h2, List.length_eq_zero_iff.1 h3⟩
  · refine .inr ⟨g, cap, hv, hg, (Array.getElem?_eq_some_iff.1 hh).1, hc, hm, ?_, fun j => cells_free hh j⟩
    intro j hj
    rw [cells_cell hh]
    have e1 : (cur.toList.take (xs.length * 1))[j]? = some (enc xs[j]) := by rw [ht]; simp [hj]
    rw [List.getElem?_take] at e1
    split at e1
    · simpa using e1
    · cases e1

theorem OwnE.nil (enc : α → Value) (w : World) (base e : Nat) : OwnE enc w base e (.slice none 0 0) [] := World.ownsRow_nil w base e 1

/-- An empty slice that was just made. -/
theorem OwnE.made (enc : α → Value) (w : World) (base e : Nat) (hb : base ≤ w.heap.size) : OwnE enc (w.alloc (.cells #[] e)) base e (.slice (some ⟨w.heap.size, 0, none⟩) 0 0) [] :=
  World.ownsRow_made w #[] 0 hb (by simp) rfl

theorem OwnE.kept {w' : World} {row : Option Nat} (h : OwnE enc w base e v xs) (hg : w.grownBy w' row) (hne : v.ownBlock = none ∨ v.ownBlock ≠ row) : OwnE enc w' base e v xs := World.ownsRow.kept h hg hne
theorem OwnE.alloc (h : OwnE enc w base e v xs) (o : Obj) : OwnE enc (w.alloc o) base e v xs := World.ownsRow.alloc h o
theorem OwnE.below {w' : World} (h : OwnE enc w base e v xs) (hb : Below w.heap.size w w') : OwnE enc w' base e v xs :=
  h.kept (row := none) ⟨hb.os, hb.tape, hb.output, hb.size, fun k hk _ => hb.block k hk⟩ (by cases v.ownBlock <;> simp)

/-- A slice that reads as ys, whoever owns it. -/
def SrcE {α : Type} (enc : α → Value) (w : World) (v : Value) (ys : List α) : Prop :=
  (v = .slice none 0 0 ∧ ys = []) ∨ ∃ ad c, v = .slice (some ad) ys.length c ∧ ys.length ≤ c ∧ c ≤ maxLen ∧ ∀ j (hj : j < ys.length), w.cell? (ad.add j) = some (enc ys[j])

theorem plain_add (b off j : Nat) : (⟨b, off, none⟩ : Addr).add j = ⟨b, off + j, none⟩ := by unfold Addr.add; split <;> simp_all

theorem SrcE.cases {ys : List α} (h : SrcE enc w v ys) : (ys = [] ∧ ∃ a c, v = .slice a 0 c) ∨
    ∃ b off c, v = .slice (some ⟨b, off, none⟩) ys.length c ∧ 0 < ys.length ∧ ys.length ≤ c ∧ c ≤ maxLen ∧ b < w.heap.size ∧ ∀ j (hj : j < ys.length), w.cell? ⟨b, off + j, none⟩ = some (enc ys[j]) := by
  rcases h with ⟨rfl, rfl⟩ | ⟨ad, c, rfl, hc, hm, hcell⟩
  · exact .inl ⟨rfl, none, 0, rfl⟩
  · cases ys with
    | nil => exact .inl ⟨rfl, some ad, c, rfl⟩
    | cons y ys =>
      have h0 := hcell 0 (by simp)
      obtain ⟨b, off, spot⟩ := ad
      cases spot with
      | none =>
        refine .inr ⟨b, off, c, rfl, by simp, hc, hm, ?_, fun j hj => by rw [← plain_add]; exact hcell j hj⟩
        have := World.block_lt_of_cell? w _ h0
        rwa [plain_add] at this
      | some s =>
        exfalso
        have : w.cell? ((⟨b, off, some s⟩ : Addr).add 0) = none := by
          unfold World.cell? Addr.add
          simp
          split <;> simp_all
        rw [this] at h0; cases h0

theorem SrcE.below {ys : List α} {w' : World} (h : SrcE enc w v ys) (hb : Below w.heap.size w w') : SrcE enc w' v ys := by
  rcases h with h | ⟨ad, c, hv, hc, hm, hcell⟩
  · exact .inl h
  · refine .inr ⟨ad, c, hv, hc, hm, fun j hj => ?_⟩
    have := hcell j hj
    rw [hb.cell (World.block_lt_of_cell? w _ this)]; exact this

theorem SrcE.shape {ys : List α} (h : SrcE enc w v ys) : ∃ a c, v = .slice a ys.length c := by
  rcases h with ⟨rfl, rfl⟩ | ⟨ad, c, rfl, _⟩
  · exact ⟨none, 0, rfl⟩
  · exact ⟨some ad, c, rfl⟩

theorem SrcE.small {ys : List α} (h : SrcE enc w v ys) : ys.length ≤ 9223372036854775807 := by
  rcases h with ⟨_, rfl⟩ | ⟨ad, c, _, hc, hm, _⟩
  · simp
  · simp only [maxLen] at hm; omega

/-- An element of a slice, at its address. -/
theorem SrcE.at {ys : List α} {a : Option Addr} {n c : Nat} (h : SrcE enc w (.slice a n c) ys) (k : Nat) (hk : k < ys.length) :
    ∃ b off, a = some ⟨b, off, none⟩ ∧ b < w.heap.size ∧ w.cell? ⟨b, off + k, none⟩ = some (enc ys[k]) := by
  rcases h.cases with ⟨rfl, _⟩ | ⟨b, off, c, hv, _, _, _, hb, hcell⟩
  · simp at hk
  · simp only [Value.slice.injEq] at hv
    exact ⟨b, off, hv.1, hb, hcell k hk⟩

theorem OwnE.src (h : OwnE enc w base e v xs) : SrcE enc w v xs := by
  rcases h.cases with h | ⟨g, cap, hv, _, _, hc, hm, hcell, _⟩
  · exact .inl h
  · exact .inr ⟨⟨g, 0, none⟩, cap, hv, hc, hm, fun j hj => by rw [plain_add, Nat.zero_add]; exact hcell j hj⟩

/-- append(v, y...) where v is the call's own. -/
theorem OwnE.append {P : Program} (t ty : TypeId) (i : TypeInfo) (z : Value) (bytes : Nat) (ht : P.underlying t = some (.slice e)) (hi : P.info? e = some i) (hz : i.zero = some z)
    (hsize : i.size = 1) (hby : i.bytes = bytes) (hzs : z.cells.size = 1) (h1 : ∀ x : α, (enc x).oneCell' = true) (h : OwnE enc w base e v xs) (hbase : base ≤ w.heap.size)
    (sv : Value) (ys : List α) (hys : SrcE enc w sv ys) (h63 : xs.length + ys.length ≤ maxLen) (hbytes : (xs.length + ys.length) * bytes ≤ 140737488355328) :
    ∃ v' w', (Builtin.append_ #[t, t] ty #[v, sv]).run P w = .ok v' w' ∧ OwnE enc w' base e v' (xs ++ ys) ∧ w.grownBy w' v.ownBlock := by
  rcases hys with ⟨rfl, rfl⟩ | ⟨ad, c, rfl, _, _, hcell⟩
  · refine ⟨v, w, run_append_owned_none (P := P) w base t ty e i 1 ht hi v xs.length (xs.map enc) h, by rw [List.append_nil]; exact h, ⟨rfl, rfl, rfl, Nat.le_refl _, fun _ _ _ => rfl⟩⟩
  · obtain ⟨v', w', hr, ho, hg, _⟩ := run_append_own (P := P) w base t ty e i z 1 bytes ht hi hz hsize hby hzs (by decide) v xs.length (xs.map enc) h ad ys.length c (ys.map enc)
      (by simp) (by
        intro j x hj
        have hjl : j < ys.length := by
          rcases Nat.lt_or_ge j ys.length with h | h
          · exact h
          · rw [List.getElem?_eq_none (by simpa using h)] at hj; cases hj
        rw [List.getElem?_eq_getElem (by simpa using hjl)] at hj
        rw [hcell j hjl]
        simpa using hj)
      (by intro x hx; obtain ⟨y, _, rfl⟩ := List.mem_map.1 hx; exact h1 y) h63 hbytes hbase
    refine ⟨v', w', hr, ?_, hg⟩
    unfold OwnE
    rw [List.length_append, List.map_append]
    exact ho

/-- An append whose run is known. -/
theorem wpList_append_run {P : Program} {ops : Array Oper} {rest : List Oper} {o : Oper} {a : Act} {Q : Exit → Act → World → Prop} {w w' : World} {v sv v' : Value} (hw : Region.wanted o (yielded ops a.tmps) = true) (s x : Operand) (t : TypeId)
    (ho : o.op = .call { callee := .builtin .append, args := #[s, x], argTypes := #[t, t] }) (hs : a.eval s = v) (hx : a.eval x = sv)
    (hr : (Builtin.append_ #[t, t] o.type #[v, sv]).run P w = .ok v' w') (h : wpList P ops Q rest (a.put o.dst v') w') : wpList P ops Q (o :: rest) a w := by
  unfold wpList
  rw [if_pos hw]
  refine .inl ?_
  have e : (execOp a.eval o).run P w = .ok (.value v') w' := by
    simp only [execOp, ho, resolve, Sem.run_bind, Sem.run_pure, Result.andThen, invoke, builtin, List.map_toArray, List.map_cons, List.map_nil, hs, hx, hr]
  unfold Oper.wp
  rw [e]
  exact h

/-- What an append writes lies from base on. -/
theorem OwnE.grown {w0 w' : World} (h : OwnE enc w base e v xs) (hB : Below base w0 w) (hb : base ≤ w.heap.size) (hg : w.grownBy w' v.ownBlock) : Below base w0 w' :=
  hB.grown hg hb (fun k hk => (World.ownsRow.lt h k hk).1)
end

theorem u_int {n : Int} (h : (Lit.int .u64 n).wf = true) : Value.int .u64 n = u (BitVec.ofInt 64 n) := by
  have hb := bounds_u64 h
  rw [u, BitVec.toNat_ofInt]
  congr 1
  omega

/-- A row of integers that came in, as a slice that reads. -/
theorem row_read {α : Type} (enc : α → Value) (f : Int → α) (k : IntKind) (hf : ∀ n, (Lit.int k n).wf = true → Value.int k n = enc (f n)) {w : World} {a : Option Addr} {len cap : Nat} {zs : List Int}
    (h : (a = none ∧ len = 0 ∧ cap = 0 ∧ zs = []) ∨ ∃ x, a = some x ∧ len ≤ cap ∧ cap ≤ maxLen ∧ zs.length = cap ∧ (∀ i, i < zs.length → w.cell? (x.add i) = some (.int k (zs.getD i 0))) ∧ ∀ n ∈ zs, (Lit.int k n).wf = true) :
    ∃ xs : List α, SrcE enc w (.slice a len cap) xs ∧ xs.length = len := by
  rcases h with ⟨rfl, rfl, rfl, rfl⟩ | ⟨x, rfl, hl, hm, hz, hc, hw⟩
  · exact ⟨[], .inl ⟨rfl, rfl⟩, rfl⟩
  · have hlen : ((zs.take len).map f).length = len := by simp; omega
    refine ⟨(zs.take len).map f, .inr ⟨x, cap, by rw [hlen], by omega, hm, fun j hj => ?_⟩, hlen⟩
    rw [hlen] at hj
    rw [hc j (by omega)]
    have hj2 : j < zs.length := by omega
    have e : zs.getD j 0 = zs[j] := by simp [List.getD, List.getElem?_eq_getElem hj2]
    rw [e, hf _ (hw _ (List.getElem_mem hj2))]
    simp
end Go.Proofs.Ytinagiofolmhbaa
