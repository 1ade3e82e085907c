/- Regions that draw their order, walked by hand: a change of the condition on the way, an append as one step. -/
import Derived.Test.YtppfhcocmpmadaaC0
import Derived.Maps.AppendAt
namespace Go.Proofs.Ytppfhcocmpmadaa
open Go.RowKit
set_option linter.unusedVariables false

/-- A stronger condition on the worlds serves. -/
theorem wpAnyH_strong {P : Program} {md : Region.Mode} {ops : Array Oper} {Q : Exit → Act → World → Prop} {S S' : World → Prop} (hS : ∀ w, S' w → S w) :
    ∀ (fuel : Nat) (listed : Array Bool) (a : Act) (w : World), wpAnyH P md ops Q S' fuel listed a w → wpAnyH P md ops Q S fuel listed a w
  | 0, _, _, _, h => h
  | fuel + 1, _, _, _, h => ⟨h.1, fun i hi => wpOp_mono (fun a' w' h' => ⟨hS _ h'.1, wpAnyH_strong hS fuel _ a' w' h'.2⟩) (h.2 i hi)⟩

/-- 'wpAnyH_take', the operation read off the list: so that it stands written out. -/
theorem wpAnyH_takeL {P : Program} {md : Region.Mode} {ops : Array Oper} {Q : Exit → Act → World → Prop} {S : World → Prop} (i : Nat) {oi : Oper} (v : Value) {fuel : Nat} {listed : Array Bool} {a : Act} {w : World} (hi : ops.toList[i]? = some oi)
    (hs : Region.noSelect ops = true) (hf : Region.free md ops listed i = true) (hr : (Region.ready md ops listed).contains i = true)
    (hQ : ∀ c a w, Q (.panic c) (a.put oi.dst v) w → Q (.panic c) a w) (hg : oi.guard = none) (hy : ∀ w, S w → (execOp a.eval oi).run P w = .ok (.value v) w) (hS : S w)
    (h : wpAnyH P md ops Q S fuel (listed.setIfInBounds i true) (a.put oi.dst v) w) : wpAnyH P md ops Q S (fuel + 1) listed a w :=
  wpAnyH_take (by rw [← Array.getElem?_toList]; exact hi) hs hf hr hQ (Or.inl ⟨by simp [Region.wanted, hg], hy⟩) hS h
/-- 'AllReadyH.cons', the operation read off the list. -/
theorem allReadyH_consL {P : Program} {md : Region.Mode} {ops : Array Oper} {Q : Exit → Act → World → Prop} {S : World → Prop} {fuel : Nat} {listed : Array Bool} {a : Act} {w : World} {i : Nat} {o : Oper} {rs : List Nat} (ho : ops.toList[i]? = some o)
    (h : ∀ K' : Act → World → Prop, Shut (∀ a w, S w → (S w → wpAnyH P md ops Q S fuel (listed.setIfInBounds i true) a w) → K' a w) → if Region.wanted o (yielded ops a.tmps) = true then Oper.wp P o a w K' Q else K' (a.put o.dst undef) w)
    (hs : AllReadyH P md ops Q S fuel listed a w rs) : AllReadyH P md ops Q S fuel listed a w (i :: rs) :=
  AllReadyH.cons (by rw [← Array.getElem?_toList]; exact ho) h hs

/-- The same state, written otherwise. -/
theorem wpAnyH_relist {P : Program} {md : Region.Mode} {ops : Array Oper} {Q : Exit → Act → World → Prop} {S : World → Prop} {fuel : Nat} {listed : Array Bool} (listed' : Array Bool) {a : Act} {w : World} (h : listed = listed')
    (hh : wpAnyH P md ops Q S fuel listed' a w) : wpAnyH P md ops Q S fuel listed a w := h ▸ hh
/-- What is shown once of a state that several orders come to. -/
theorem join_of {G F : World → Value → Nat → Nat → Nat → Prop} {main : Prop} (m : (∀ W v b c d, F W v b c d → G W v b c d) → main) (pf : ∀ W v b c d, F W v b c d → G W v b c d) : main := m pf

/-- append(v, y...), and where what comes of it lies. -/
theorem append_c_at {w : World} {base : Nat} {v sv : Value} {cs ys : List (Int × Int)} (h : OwnC w base 32 v cs) (hbase : base ≤ w.heap.size) (hs : SrcC w sv ys) (hl : cs.length + ys.length ≤ 1000000) :
    ∃ v' w', (Builtin.append_ #[28, 28] 28 #[v, sv]).run Try.prog w = .ok v' w' ∧ OwnC w' base 32 v' (cs ++ ys) ∧ w.grownBy w' v.ownBlock ∧ (v'.ownBlock = v.ownBlock ∨ v'.ownBlock = some w.heap.size) := by
  obtain ⟨i, z, hi, hz, hzs, hsz, hby⟩ := info32
  have go : ∀ (ad : Addr) (c : Nat), (∀ j u, (flat ys)[j]? = some u → w.cell? (ad.add j) = some u) → sv = .slice (some ad) ys.length c →
      ∃ v' w', (Builtin.append_ #[28, 28] 28 #[v, sv]).run Try.prog w = .ok v' w' ∧ OwnC w' base 32 v' (cs ++ ys) ∧ w.grownBy w' v.ownBlock ∧ (v'.ownBlock = v.ownBlock ∨ v'.ownBlock = some w.heap.size) := by
    rintro ad c hcell rfl
    obtain ⟨v', w', hr, ho, hg, _, hat⟩ := run_append_own_at (P := Try.prog) w base 28 28 32 i z 2 16 Try.underlying28 hi hz hsz hby hzs (by decide) v cs.length (flat cs) h ad ys.length c (flat ys)
      (flat_len ys) hcell (flat_one ys) (by simp only [maxLen]; omega) (by omega) hbase
    refine ⟨v', w', hr, ?_, hg, hat⟩
    unfold OwnC
    rw [List.length_append, flat_app]
    exact ho
  rcases hs with ⟨rfl, a, c, rfl, hac⟩ | ⟨b, off, c, rfl, _, _, _, hcell⟩
  · cases a with
    | none =>
      obtain rfl := hac rfl
      exact ⟨v, w, run_append_owned_none (P := Try.prog) w base 28 28 32 i 2 Try.underlying28 hi v cs.length (flat cs) h, by rw [List.append_nil]; exact h, ⟨rfl, rfl, rfl, Nat.le_refl _, fun _ _ _ => rfl⟩, .inl rfl⟩
    | some ad => exact go ad c (fun j u hj => by simp [flat] at hj) rfl
  · refine go ⟨b, off, none⟩ c (fun j u hj => ?_) rfl
    rw [plain_add]
    have hlt : j < ys.length * 2 := by
      rcases Nat.lt_or_ge j (flat ys).length with h | h
      · rwa [flat_len] at h
      · rw [List.getElem?_eq_none h] at hj; cases hj
    obtain ⟨g1, g2⟩ := flat_get ys (j / 2) (by omega)
    obtain ⟨c1, c2⟩ := hcell (j / 2) (by omega)
    by_cases he : j % 2 = 0
    · rw [show j / 2 * 2 = j from by omega] at g1 c1
      rw [g1] at hj; cases hj; exact c1
    · rw [show j / 2 * 2 + 1 = j from by omega] at g2
      rw [show off + j / 2 * 2 + 1 = off + j from by omega] at c2
      rw [g2] at hj; cases hj; exact c2


/-- append(v, y...) as one step of a region that draws, v the call's own. -/
theorem step_append_c {ops : Array Oper} {o : Oper} {a : Act} {w : World} {K : Act → World → Prop} {Q : Exit → Act → World → Prop} {E : Prop} (hgd : o.guard = none) (s x : Operand)
    (ho : o.op = .call { callee := .builtin .append, args := #[s, x], argTypes := #[28, 28] }) (hty : o.type = 28) {base : Nat} {v sv : Value} {cs ys : List (Int × Int)} (hs : a.eval s = v) (hx : a.eval x = sv)
    (own : OwnC w base 32 v cs) (hb : base ≤ w.heap.size) (src : SrcC w sv ys) (hl : cs.length + ys.length ≤ 1000000)
    (h : ∀ v' w', OwnC w' base 32 v' (cs ++ ys) → w.grownBy w' v.ownBlock → (v'.ownBlock = v.ownBlock ∨ v'.ownBlock = some w.heap.size) → K (a.put o.dst v') w') :
    if Region.wanted o (yielded ops a.tmps) = true then Oper.wp Try.prog o a w K Q else E := by
  have hw : Region.wanted o (yielded ops a.tmps) = true := by simp [Region.wanted, hgd]
  rw [if_pos hw]
  obtain ⟨v', w', hr, ho', hg, hat⟩ := append_c_at own hb src hl
  have e : (execOp a.eval o).run Try.prog w = .ok (.value v') w' := by
    simp only [execOp, ho, hty, resolve, Sem.run_bind, Sem.run_pure, Result.andThen, invoke, builtin, List.map_toArray, List.map_cons, List.map_nil, hs, hx, hr]
  unfold Oper.wp
  rw [e]
  exact h v' w' ho' hg hat
theorem SrcC.kept {w w' : World} {b off n c : Nat} {row : Option Nat} {cs : List (Int × Int)} (h : SrcC w (.slice (some ⟨b, off, none⟩) n c) cs) (hg : w.grownBy w' row) (hne : some b ≠ row) : SrcC w' (.slice (some ⟨b, off, none⟩) n c) cs := by
  rcases h with h | ⟨b', off', c', hv, h1, h2, hb, hc⟩
  · exact .inl h
  · have hv' := hv
    simp only [Value.slice.injEq, Option.some.injEq, Addr.mk.injEq] at hv'
    obtain ⟨⟨rfl, rfl, -⟩, -, -⟩ := hv'
    refine .inr ⟨b, off, c', hv, h1, h2, Nat.lt_of_lt_of_le hb hg.size, fun j hj => ?_⟩
    have e := hg.block b hb hne
    have hj' := hc j hj
    simp only [World.cell?] at hj' ⊢
    rw [e]
    exact hj'
theorem cell_kept {w w' : World} {b off : Nat} {u : Value} {row : Option Nat} (h : w.cell? ⟨b, off, none⟩ = some u) (hg : w.grownBy w' row) (hne : some b ≠ row) : w'.cell? ⟨b, off, none⟩ = some u := by
  have hb := World.block_lt_of_cell? _ _ h
  have e := hg.block b hb hne
  simp only [World.cell?] at h ⊢
  rw [e]
  exact h
theorem OwnC.drew {w : World} {base e : Nat} {v : Value} {cs : List (Int × Int)} (h : OwnC w base e v cs) : OwnC w.drew base e v cs := h.below (Below.refl _ _).drew
end Go.Proofs.Ytppfhcocmpmadaa
