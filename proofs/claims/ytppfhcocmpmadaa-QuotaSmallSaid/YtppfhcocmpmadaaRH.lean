/- The reference's Back. -/
import Derived.Test.YtppfhcocmpmadaaRG
namespace Go.Proofs.Ytppfhcocmpmadaa
open Go.RowKit
set_option linter.unusedVariables false

theorem step_append_r {ops : Array Oper} {o : Oper} {a : Act} {w : World} {K : Act → World → Prop} {Q : Exit → Act → World → Prop} {E : Prop} (hgd : o.guard = none) (s x : Operand)
    (ho : o.op = .call { callee := .builtin .append, args := #[s, x], argTypes := #[69, 69] }) (hty : o.type = 69) {base : Nat} {v sv : Value} {cs ys : List (Int × Int)} (hs : a.eval s = v) (hx : a.eval x = sv)
    (own : OwnC w base 82 v cs) (hb : base ≤ w.heap.size) (src : SrcC w sv ys) (hl : cs.length + ys.length ≤ 1000000)
    (h : ∀ v' w', OwnC w' base 82 v' (cs ++ ys) → w.grownBy w' v.ownBlock → (v'.ownBlock = v.ownBlock ∨ v'.ownBlock = some w.heap.size) → K (a.put o.dst v') w') :
    if Region.wanted o (yielded ops a.tmps) = true then Oper.wp Try.prog o a w K Q else E := by
  have hw : Region.wanted o (yielded ops a.tmps) = true := by simp [Region.wanted, hgd]
  rw [if_pos hw]
  obtain ⟨v', w', hr, ho', hg, hat⟩ := append_r own hb src hl
  have e : (execOp a.eval o).run Try.prog w = .ok (.value v') w' := by
    simp only [execOp, ho, hty, resolve, Sem.run_bind, Sem.run_pure, Result.andThen, invoke, builtin, List.map_toArray, List.map_cons, List.map_nil, hs, hx, hr]
  unfold Oper.wp
  rw [e]
  exact h v' w' ho' hg hat
theorem rh_keep {W W' : World} {b off j : Nat} {q m : Int} (h : W.cell? ⟨b, off + j * 2, none⟩ = some (.int .i64 q) ∧ W.cell? ⟨b, off + j * 2 + 1, none⟩ = some (.int .i64 m)) (hB : Below W.heap.size W W') : W'.cell? ⟨b, off + j * 2, none⟩ = some (.int .i64 q) ∧ W'.cell? ⟨b, off + j * 2 + 1, none⟩ = some (.int .i64 m) :=
  ⟨(hB.cell (p := ⟨b, off + j * 2, none⟩) (World.block_lt_of_cell? _ _ h.1)).trans h.1, (hB.cell (p := ⟨b, off + j * 2 + 1, none⟩) (World.block_lt_of_cell? _ _ h.2)).trans h.2⟩
theorem srcLitE (w : World) (e : TypeId) (p q : Int) : SrcC (w.alloc (.cells #[.int .i64 p, .int .i64 q] e)) (.slice (some ⟨w.heap.size, 0, none⟩) 1 1) [(p, q)] :=
  .inr ⟨w.heap.size, 0, 1, rfl, by simp, by simp [maxLen], by simp, fun j hj => by
    obtain rfl : j = 0 := by simpa using hj
    exact ⟨cells_cell (World.alloc_heap_new w _) 0, cells_cell (World.alloc_heap_new w _) 1⟩⟩

set_option maxRecDepth 100000 in
set_option maxHeartbeats 4000000 in
theorem rback_yes (v : Value) (cs : List (Int × Int)) (w : World) (hs : SrcC w v cs) (hc : chkV cs = 0) : Calls Try.prog 40 #[v] w fun e w' => ∃ v', e = .returned (.tuple #[v', .int .i64 0]) ∧ OwnC w' w.heap.size 82 v' (backV cs) ∧ Below w.heap.size w w' := by
  obtain ⟨hlen, hok⟩ := chk_ok hc
  obtain ⟨a, c, rfl⟩ := hs.shape
  have HS := Hd.mk hs
  have HC := Hd.mk hc
  have HOK := Hd.mk hok
  have hw0 : IntKind.i64.wrap ((cs.length : Int) - 1) = (cs.length : Int) - 1 := IntWalk.i64_in _ ⟨by omega, by omega⟩
  clear hs hc hok
  go_enter Try.func40, Try.ntmps40
  go_wp2_with fail
  refine (rcheck_any _ cs _ HS.out).mono ?_
  rintro e w1 ⟨rfl, hB1⟩
  rw [HC.out]
  go_wp2_with fail
  go_loopw [5, 6] (fun v i W => ∃ k : Nat, k ≤ cs.length ∧ i = .int .i64 ((cs.length : Int) - 1 - k) ∧ OwnC W w.heap.size 82 v ((backV cs).take k) ∧ Below w.heap.size w W) (fun _ i _ => (intOf i + 1).toNat)
  case atStart => exact ⟨0, by omega, by go_num, OwnC.nil _ _ _, hB1⟩
  case round =>
    obtain ⟨k, hk, rfl, ho, hB⟩ := hrel
    by_cases hlt : k < cs.length
    · obtain ⟨j, hj⟩ : ∃ j, j = cs.length - 1 - k := ⟨_, rfl⟩
      have hjl : j < cs.length := by omega
      have hji : (cs.length : Int) - 1 - (k : Int) = (j : Int) := by omega
      obtain ⟨b, off, rfl, hb, hc1, hc2⟩ := HS.out.at j hjl
      have hc1 := (hB.cell (p := ⟨b, off + j * 2, none⟩) hb).trans hc1
      have hc2 := (hB.cell (p := ⟨b, off + j * 2 + 1, none⟩) hb).trans hc2
      have hx := (okC_iff cs[j]).1 (HOK.out _ (List.getElem_mem hjl))
      have HT := Hd.mk (backV_take cs k hlt)
      obtain ⟨q, hq⟩ : ∃ q, cs[j].1 = q := ⟨_, rfl⟩
      obtain ⟨m, hm⟩ : ∃ m, cs[j].2 = m := ⟨_, rfl⟩
      have ht : (backV cs).take k ++ [(q, -m)] = (backV cs).take (k + 1) := by rw [← HT.out, ← hq, ← hm]; subst hj; rfl
      rw [hq] at hc1
      rw [hm] at hc2 hx
      have hx1 := hx.2.2.1
      have hx2 := hx.2.2.2
      have hw1 : IntKind.i64.wrap (-m) = -m := IntWalk.i64_in _ ⟨by omega, by omega⟩
      have hw2 : IntKind.i64.wrap ((j : Int) - 1) = (cs.length : Int) - 1 - ((k + 1 : Nat) : Int) := by rw [IntWalk.i64_in _ ⟨by omega, by omega⟩]; omega
      have HT2 := Hd.mk ht
      have HJI := Hd.mk hji
      have HO := Hd.mk ho
      have HB := Hd.mk hB
      have HBB : Hd (b < w.heap.size) := ⟨hb⟩
      have hS0 : wr.cell? ⟨b, off + j * 2, none⟩ = some (.int .i64 q) ∧ wr.cell? ⟨b, off + j * 2 + 1, none⟩ = some (.int .i64 m) := ⟨hc1, hc2⟩
      have HS0 := Hd.mk hS0
      have j0 : (0 : Int) ≤ (j : Int) := by omega
      have j1 : (j : Int) < (cs.length : Int) := by omega
      have HTL : Hd (((backV cs).take k).length + 1 ≤ 1000000) := ⟨by rw [List.length_take, backV_len]; omega⟩
      rw [hji]
      clear hx hq hm ht ho HT hj hB hS0 hji
      go_upto_region 8 with fail
      clear hc1 hc2
      go_region_held3 (fun W => W.cell? ⟨b, off + j * 2, none⟩ = some (.int .i64 q) ∧ W.cell? ⟨b, off + j * 2 + 1, none⟩ = some (.int .i64 m))
        (first | with_reducible assumption | exact ⟨hk1, hk2⟩ | exact rh_keep HS0.out (by repeat (with_reducible first | exact Below.refl _ _ | apply bl_alloc | apply bl_drew)))
        ((refine step_append_r rfl _ _ rfl rfl (by rfl) (by rfl) ((HO.out.drew).alloc _) (by have := HB.out.size; simp only [World.size_alloc, drew_heap]; omega) (srcLitE _ 82 q (-m)) HTL.out ?_; intro v' wk ho' hg _; have hk1 := cell_kept (rh_keep HS0.out (by repeat (with_reducible first | exact Below.refl _ _ | apply bl_alloc | apply bl_drew))).1 hg (fun h => by have := (World.ownsRow.lt HO.out b h.symm).1; have := HBB.out; omega); have hk2 := cell_kept (rh_keep HS0.out (by repeat (with_reducible first | exact Below.refl _ _ | apply bl_alloc | apply bl_drew))).2 hg (fun h => by have := (World.ownsRow.lt HO.out b h.symm).1; have := HBB.out; omega); have hbk := ((HO.out.drew).alloc (.cells #[.int .i64 q, .int .i64 (-m)] 82)).grown ((HB.out.drew).alloc (by have := HB.out.size; simp only [drew_heap]; omega) _) (by have := HB.out.size; simp only [World.size_alloc, drew_heap]; omega) hg))
      rw [HT2.out] at ho'
      have HOK2 := Hd.mk ho'
      clear ho'
      go_wp2_with fail
      go_roundw
      case rel => exact ⟨k + 1, by omega, rfl, HOK2.out, hbk⟩
      case measure => have := HJI.out; simp [intOf] <;> omega
    · obtain rfl : k = cs.length := by omega
      have e : (backV cs).take cs.length = backV cs := List.take_of_length_le (by rw [backV_len]; exact Nat.le_refl _)
      rw [e] at ho
      have HO := Hd.mk ho
      have hneg : (cs.length : Int) - 1 - (cs.length : Int) = -1 := by omega
      rw [hneg]
      clear ho e hneg
      go_wp2_with fail
      go_ret2
      exact ⟨_, rfl, HO.out, hB⟩
end Go.Proofs.Ytppfhcocmpmadaa
