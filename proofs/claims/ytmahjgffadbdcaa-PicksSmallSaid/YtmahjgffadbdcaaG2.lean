/- The reference's without and Sorted. -/
import Derived.Test.YtmahjgffadbdcaaG1
import Derived.Deep.RegionLaw
namespace Go.Proofs.Ytmahjgffadbdcaa
open Go.RowKit
set_option linter.unusedVariables false

theorem step_append_run {P : Program} {ops : Array Oper} {o : Oper} {a : Act} {w w' : World} {K : Act → World → Prop} {Q : Exit → Act → World → Prop} {E : Prop} {v sv v' : Value} (hg : o.guard = none) (s x : Operand) (t : TypeId)
    (hop : o.op = .call { callee := .builtin .append, args := #[s, x], argTypes := #[t, t] }) (hs : a.eval s = v) (hx : a.eval x = sv)
    (hr : (Builtin.append_ #[t, t] o.type #[v, sv]).run P w = .ok v' w') (h : K (a.put o.dst v') w') : if Region.wanted o (yielded ops a.tmps) = true then Oper.wp P o a w K Q else E := by
  have hw : Region.wanted o (yielded ops a.tmps) = true := by simp [Region.wanted, hg]
  rw [if_pos hw]
  have e : (execOp a.eval o).run P w = .ok (.value v') w' := by
    simp only [execOp, hop, resolve, Sem.run_bind, Sem.run_pure, Result.andThen, invoke, builtin, List.map_toArray, List.map_cons, List.map_nil, hs, hx, hr]
  unfold Oper.wp
  rw [e]
  exact h
theorem SrcI.empty (w : World) (ad : Addr) (c : Nat) (hc : c ≤ maxLen) : SrcI w (.slice (some ad) 0 c) [] := .inr ⟨ad, c, rfl, by simp, hc, fun j hj => by simp at hj⟩

set_option maxRecDepth 100000 in
set_option maxHeartbeats 2000000 in
theorem rwithout_any (v : Value) (l : List Int) (i : Nat) (w : World) (h : SrcI w v l) (hi : i < l.length) (hl : l.length ≤ 100000) : Calls Try.prog 60 #[v, .int .i64 (i : Int)] w fun e w' => ∃ v', e = .returned v' ∧ OwnI w' w.heap.size v' (l.eraseIdx i) ∧ Below w.heap.size w w' := by
  have hsm := h.small
  obtain ⟨a, c, rfl⟩ := h.shape
  obtain ⟨b, off, rfl, hb, _⟩ := h.at i hi
  have hcc := h.cap
  have HE : Hd (l.take i ++ l.drop (i + 1) = l.eraseIdx i) := ⟨by rw [List.eraseIdx_eq_take_drop_succ]⟩
  have hS1 := h.take i (by omega)
  have hB0 : Below w.heap.size w ((w.alloc (.cells #[] 3)).drew) := below_drewN ((Below.refl _ _).alloc (Nat.le_refl _) _) 1
  have ho : AppI ((w.alloc (.cells #[] 3)).drew) w.heap.size (.slice (some ⟨w.heap.size, 0, none⟩) 0 0) [] := OwnE.below (OwnE.made (fun n : Int => Value.int .i64 n) w w.heap.size 3 (Nat.le_refl _)) (below_drewN (Below.refl _ _) 1)
  obtain ⟨v1, w1, hr1, ho1, hg1⟩ := append_i ho hB0.size (hS1.below hB0) (by rw [List.length_take]; simp; omega)
  have hB1 : Below w.heap.size w w1 := OwnE.grown ho hB0 hB0.size hg1
  have i0 : (0 : Int) ≤ (i : Int) := by omega
  have i1 : (i : Int) ≤ (c : Int) := by omega
  have i2 : (i : Int) + 1 ≤ (c : Int) := by omega
  have hw : IntKind.i64.wrap ((i : Int) + 1) = (i : Int) + 1 := IntWalk.i64_in _ ⟨by omega, by omega⟩
  have i3 : ((i : Int) + 1).toNat = i + 1 := by omega
  have i4 : (0 : Int) ≤ (i : Int) + 1 := by omega
  have i5 : i ≤ c := by omega
  have i7 : (i : Int) + 1 ≤ (l.length : Int) := by omega
  have i8 : (i : Int) ≤ (i : Int) + 1 := by omega
  have i6 : i + 1 ≤ c := by omega
  have fin : ∀ (ad : Addr) (n2 c2 : Nat), SrcI w (.slice (some ad) n2 c2) (l.drop (i + 1)) → ∃ v2 w2, (Builtin.append_ #[24, 24] 24 #[v1, .slice (some ad) n2 c2]).run Try.prog w1 = .ok v2 w2 ∧ OwnI w2 w.heap.size v2 (l.eraseIdx i) ∧ Below w.heap.size w w2 := by
    intro ad n2 c2 hS2
    obtain ⟨v2, w2, hr2, ho2, hg2⟩ := append_i ho1 hB1.size (hS2.below hB1) (by simp; omega)
    refine ⟨v2, w2, hr2, ?_, OwnE.grown ho1 hB1 hB1.size hg2⟩
    rw [List.nil_append, HE.out] at ho2
    exact OwnI.of ho2
  have HS := Hd.mk h
  have FIN := Hd.mk fin
  clear h hS1 ho hg1 ho1 hB1 hB0 fin
  by_cases hlast : i + 1 < l.length
  · have hne : ¬ c = i + 1 := by omega
    obtain ⟨v2, w2, hr2, hO, hB⟩ := FIN.out _ _ _ (HS.out.drop (i + 1) hlast)
    have HO := Hd.mk hO
    have HB := Hd.mk hB
    clear hO hB
    go_enter Try.func60, Try.ntmps60
    go_wp2_with fail
    go_region_law (first | (refine step_append_run rfl _ _ _ rfl rfl rfl hr1 ?_) | (refine step_append_run rfl _ _ _ rfl rfl rfl hr2 ?_))
    clear hr1 hr2
    go_wp2_with fail
    go_ret
    exact ⟨_, rfl, HO.out, HB.out⟩
  · have hd : l.drop (i + 1) = [] := List.drop_eq_nil_of_le (by omega)
    have hz : l.length - (i + 1) = 0 := by omega
    have hcm : c ≤ maxLen := by simp only [maxLen]; omega
    by_cases hc : c = i + 1
    · subst hc
      obtain ⟨v2, w2, hr2, hO, hB⟩ := FIN.out _ 0 0 (by rw [hd]; exact SrcI.empty w ⟨b, off, none⟩ 0 (by simp))
      have HO := Hd.mk hO
      have HB := Hd.mk hB
      clear hO hB hd
      go_enter Try.func60, Try.ntmps60
      go_wp2_with fail
      go_region_law (first | (refine step_append_run rfl _ _ _ rfl rfl rfl hr1 ?_) | (refine step_append_run rfl _ _ _ rfl rfl rfl hr2 ?_))
      clear hr1 hr2
      go_wp2_with fail
      go_ret
      exact ⟨_, rfl, HO.out, HB.out⟩
    · obtain ⟨v2, w2, hr2, hO, hB⟩ := FIN.out ⟨b, off + (i + 1), none⟩ 0 (c - (i + 1)) (by rw [hd]; exact SrcI.empty w _ _ (by omega))
      have HO := Hd.mk hO
      have HB := Hd.mk hB
      clear hO hB hd
      go_enter Try.func60, Try.ntmps60
      go_wp2_with fail
      go_region_law (first | (refine step_append_run rfl _ _ _ rfl rfl rfl hr1 ?_) | (refine step_append_run rfl _ _ _ rfl rfl rfl hr2 ?_))
      clear hr1 hr2
      go_wp2_with fail
      go_ret
      exact ⟨_, rfl, HO.out, HB.out⟩
end Go.Proofs.Ytmahjgffadbdcaa
