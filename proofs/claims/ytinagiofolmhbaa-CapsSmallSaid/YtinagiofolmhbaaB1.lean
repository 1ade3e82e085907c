/- add. -/
import Derived.Test.YtinagiofolmhbaaA9
namespace Go.Proofs.Ytinagiofolmhbaa
open Go.RowKit
set_option linter.unusedVariables false
set_option linter.unusedSimpArgs false

theorem if_then {c A B : Prop} [Decidable c] (hc : c) (h : A) : if c then A else B := by rw [if_pos hc]; exact h
theorem wp_append_run {P : Program} {o : Oper} {a : Act} {K : Act → World → Prop} {Q : Exit → Act → World → Prop} {w w' : World} {v sv v' : Value} (s x : Operand) (t : TypeId)
    (ho : o.op = .call { callee := .builtin .append, args := #[s, x], argTypes := #[t, t] }) (hs : a.eval s = v) (hx : a.eval x = sv)
    (hr : (Builtin.append_ #[t, t] o.type #[v, sv]).run P w = .ok v' w') (h : K (a.put o.dst v') w') : Oper.wp P o a w K Q := by
  have e : (execOp a.eval o).run P w = .ok (.value v') w' := by
    simp only [execOp, ho, resolve, Sem.run_bind, Sem.run_pure, Result.andThen, invoke, builtin, List.map_toArray, List.map_cons, List.map_nil, hs, hx, hr]
  unfold Oper.wp
  rw [e]
  exact h
set_option maxRecDepth 100000 in
set_option maxHeartbeats 4000000 in
theorem add_any {y : Lay} {w : World} {pr : Nat → Prop} {M : Nat} {st : St} (h : TabL y w pr M st) (x : Hn) (i : Nat) (hi : i < 17) (hx : x.hol = (i : Int)) (hpar : 0 ≤ x.par ∧ x.par < st.next) (hok : x.rts.toNat ≤ 15 ∧ 0 ≤ x.port ∧ x.port ≤ 4294967295) :
    Calls Try.prog 47 #[.pointer (some ⟨M, 0, none⟩), .agg #[.int .i64 x.ser, .int .i64 x.par, .int .i64 x.port, .int .i64 x.hol, h8 x.rts]] w fun e w' => e = .returned (.tuple #[.int .i64 (addN st x.hol), .int .i64 (addE st x.hol)]) ∧ TabAt w' pr M (addS st x) ∧ Kept pr w w' := by
  obtain ⟨W1, hW1⟩ : ∃ W, (w.alloc (.cells #[.int .i64 x.ser, .int .i64 x.par, .int .i64 x.port, .int .i64 x.hol, h8 x.rts] 34)) = W := ⟨_, rfl⟩
  have hB1 : Below w.heap.size w W1 := by rw [← hW1]; exact (Below.refl _ _).alloc (Nat.le_refl _) _
  have hb1 : W1.heap[w.heap.size]? = some (.cells #[.int .i64 x.ser, .int .i64 x.par, .int .i64 x.port, .int .i64 x.hol, h8 x.rts] 34 (0, 0)) := by rw [← hW1]; exact heap_alloc_new _ _
  obtain ⟨X, hX⟩ : ∃ r, w.heap.size = r := ⟨_, rfl⟩
  have h1 := h.below hB1
  have HK1 := Hd.mk (h.kept hB1)
  obtain ⟨L, hm, hl, hlen, _⟩ := h1.mlen
  have hlr := fun ty => hm.len (ty := ty) Try.underlying66
  rw [hlen] at hlr
  have HW1 : Hd (w.alloc (.cells #[.int .i64 x.ser, .int .i64 x.par, .int .i64 x.port, .int .i64 x.hol, h8 x.rts] 34) = W1) := ⟨hW1⟩
  rw [hX] at hb1
  have HB1 := Hd.mk hB1
  have HX := Hd.mk hX
  have HS1 : Hd (W1.heap.size = X + 1) := ⟨by rw [← hW1, ← hX]; simp⟩
  have HT := Hd.mk h
  have HT1 := Hd.mk h1
  have HM := Hd.mk hm
  have HL := Hd.mk hl
  have t1 := h1.t1
  have t2 := h1.t2
  have tr := h1.tr i hi
  have n1 := h.ok.n1
  have n2 := h.ok.n2
  obtain ⟨nl, hnl⟩ : ∃ n, (liveS st).length = n := ⟨_, rfl⟩
  obtain ⟨np, hnp⟩ : ∃ n, (placesS st i).length = n := ⟨_, rfl⟩
  rw [hnl] at hlr
  rw [hnp] at tr
  have np256 : np ≤ 256 := by rw [← hnp]; exact h.ok.places i
  have nl256 : nl ≤ 256 := by rw [← hnl]; exact h.ok.live
  have HNL := Hd.mk hnl
  have HNP := Hd.mk hnp
  have q3 := (cells_cell hb1 3).trans (show _ = some (.int .i64 x.hol) from rfl)
  obtain ⟨nx, hnx⟩ : ∃ n, st.next = n := ⟨_, rfl⟩
  have HNX := Hd.mk hnx
  rw [hnx] at t1 n1 n2
  rw [hx] at q3 hb1
  have HXH := Hd.mk hx
  have HX1 : Hd (W1.heap[X]? = some (.cells #[.int .i64 x.ser, .int .i64 x.par, .int .i64 x.port, .int .i64 (i : Int), h8 x.rts] 34 (0, 0))) := ⟨hb1⟩
  have k0 : (0 : Int) ≤ (i : Int) := by omega
  have k1 : (i : Int) < 17 := by omega
  have HI := Hd.mk hi
  have HP := Hd.mk hpar
  have HOK := Hd.mk hok
  clear h h1 hm hl hlen hW1 hB1 hb1 hX hnl hnp hnx hx hi hpar hok
  by_cases hc1 : 256 ≤ nl
  · have e1 : addE st x.hol = 5 := by unfold addE; rw [if_pos (by rw [HNL.out]; exact hc1)]
    have e2 : addN st x.hol = 0 := by unfold addN; rw [e1]; rfl
    have e3 : addS st x = st := by unfold addS; rw [e1]; rfl
    rw [e1, e2, e3]
    clear e1 e2 e3
    have c1 : (256 : Int) ≤ (nl : Int) := by omega
    clear hc1
    go_enter Try.func47, Try.ntmps47
    go_upto_region 1 with fail
    rw [HW1.out]
    try rw [HX.out]
    try rw [HXH.out]
    go_wp2_with fail
    refine bodyPost_ret (results_tmp2 Try.results47 _ _ _) rfl ?_
    exact ⟨rfl, ⟨y, HT1.out⟩, HK1.out⟩
  · have c1 : (nl : Int) < 256 := by omega
    have hc1 : ¬ 256 ≤ (liveS st).length := by rw [HNL.out]; exact hc1
    by_cases hc2 : 281474976710656 < nx
    · have e1 : addE st x.hol = 4 := by unfold addE; rw [if_neg hc1, if_pos (by rw [HNX.out]; exact hc2)]
      have e2 : addN st x.hol = 0 := by unfold addN; rw [e1]; rfl
      have e3 : addS st x = st := by unfold addS; rw [e1]; rfl
      rw [e1, e2, e3]
      clear e1 e2 e3
      have d2 : decide (281474976710656 < nx) = true := by simp; omega
      clear hc1 hc2
      go_enter Try.func47, Try.ntmps47
      go_upto_region 1 with fail
      rw [HW1.out]
      try rw [HX.out]
      try rw [HXH.out]
      go_wp2_with fail
      refine wp_region_held_drew (S := fun W => W = W1.drew) (by kernel_rfl) (rfl) (fun hS_ => ?_)
      try dsimp only at hS_
      refine takeW 0 ?_ rfl (by kernel_rfl) (by kernel_rfl) (by kernel_rfl) (fun _ _ _ h => h) (by rfl) ?_ hS_ ?_
      rotate_left
      · intro w hSw
        try dsimp only at hSw
        go_simp
        with_reducible rfl
      try simp only [Act.put, List.setIfInBounds_toArray, List.set_cons_zero, List.set_cons_succ]
      refine takeW 1 ?_ rfl (by kernel_rfl) (by kernel_rfl) (by kernel_rfl) (fun _ _ _ h => h) (by rfl) ?_ hS_ ?_
      rotate_left
      · intro w hSw
        try dsimp only at hSw
        go_simp
        with_reducible rfl
      try simp only [Act.put, List.setIfInBounds_toArray, List.set_cons_zero, List.set_cons_succ]
      refine takeW 2 ?_ rfl (by kernel_rfl) (by kernel_rfl) (by kernel_rfl) (fun _ _ _ h => h) (by rfl) ?_ hS_ ?_
      rotate_left
      · intro w hSw
        try dsimp only at hSw
        go_simp
        with_reducible rfl
      try simp only [Act.put, List.setIfInBounds_toArray, List.set_cons_zero, List.set_cons_succ]
      refine takeW 3 ?_ rfl (by kernel_rfl) (by kernel_rfl) (by kernel_rfl) (fun _ _ _ h => h) (by rfl) ?_ hS_ ?_
      rotate_left
      · intro w hSw
        try dsimp only at hSw
        go_simp
        with_reducible rfl
      try simp only [Act.put, List.setIfInBounds_toArray, List.set_cons_zero, List.set_cons_succ]
      refine takeW 4 ?_ rfl (by kernel_rfl) (by kernel_rfl) (by kernel_rfl) (fun _ _ _ h => h) (by rfl) ?_ hS_ ?_
      rotate_left
      · intro w hSw
        try dsimp only at hSw
        go_simp
        with_reducible rfl
      try simp only [Act.put, List.setIfInBounds_toArray, List.set_cons_zero, List.set_cons_succ]
      refine takeW 5 ?_ rfl (by kernel_rfl) (by kernel_rfl) (by kernel_rfl) (fun _ _ _ h => h) (by rfl) ?_ hS_ ?_
      rotate_left
      · intro w hSw
        try dsimp only at hSw
        go_simp
        with_reducible rfl
      try simp only [Act.put, List.setIfInBounds_toArray, List.set_cons_zero, List.set_cons_succ]
      refine takeN 6 rfl (by kernel_rfl) (by kernel_rfl) (by kernel_rfl) (fun _ _ _ h => h) (by rfl) hS_ ?_
      try simp only [Act.put, List.setIfInBounds_toArray, List.set_cons_zero, List.set_cons_succ]
      refine takeN 7 rfl (by kernel_rfl) (by kernel_rfl) (by kernel_rfl) (fun _ _ _ h => h) (by rfl) hS_ ?_
      try simp only [Act.put, List.setIfInBounds_toArray, List.set_cons_zero, List.set_cons_succ]
      refine takeN 8 rfl (by kernel_rfl) (by kernel_rfl) (by kernel_rfl) (fun _ _ _ h => h) (by rfl) hS_ ?_
      try simp only [Act.put, List.setIfInBounds_toArray, List.set_cons_zero, List.set_cons_succ]
      refine takeN 9 rfl (by kernel_rfl) (by kernel_rfl) (by kernel_rfl) (fun _ _ _ h => h) (by rfl) hS_ ?_
      try simp only [Act.put, List.setIfInBounds_toArray, List.set_cons_zero, List.set_cons_succ]
      refine takeN 10 rfl (by kernel_rfl) (by kernel_rfl) (by kernel_rfl) (fun _ _ _ h => h) (by rfl) hS_ ?_
      try simp only [Act.put, List.setIfInBounds_toArray, List.set_cons_zero, List.set_cons_succ]
      refine takeN 11 rfl (by kernel_rfl) (by kernel_rfl) (by kernel_rfl) (fun _ _ _ h => h) (by rfl) hS_ ?_
      try simp only [Act.put, List.setIfInBounds_toArray, List.set_cons_zero, List.set_cons_succ]
      refine takeN 12 rfl (by kernel_rfl) (by kernel_rfl) (by kernel_rfl) (fun _ _ _ h => h) (by rfl) hS_ ?_
      try simp only [Act.put, List.setIfInBounds_toArray, List.set_cons_zero, List.set_cons_succ]
      refine takeN 13 rfl (by kernel_rfl) (by kernel_rfl) (by kernel_rfl) (fun _ _ _ h => h) (by rfl) hS_ ?_
      try simp only [Act.put, List.setIfInBounds_toArray, List.set_cons_zero, List.set_cons_succ]
      refine takeN 14 rfl (by kernel_rfl) (by kernel_rfl) (by kernel_rfl) (fun _ _ _ h => h) (by rfl) hS_ ?_
      try simp only [Act.put, List.setIfInBounds_toArray, List.set_cons_zero, List.set_cons_succ]
      refine takeW 15 ?_ rfl (by kernel_rfl) (by kernel_rfl) (by kernel_rfl) (fun _ _ _ h => h) (by rfl) ?_ hS_ ?_
      rotate_left
      · intro w hSw
        try dsimp only at hSw
        go_simp
        with_reducible rfl
      try simp only [Act.put, List.setIfInBounds_toArray, List.set_cons_zero, List.set_cons_succ]
      refine takeW 16 ?_ rfl (by kernel_rfl) (by kernel_rfl) (by kernel_rfl) (fun _ _ _ h => h) (by rfl) ?_ hS_ ?_
      rotate_left
      · intro w hSw
        try dsimp only at hSw
        go_simp
        with_reducible rfl
      try simp only [Act.put, List.setIfInBounds_toArray, List.set_cons_zero, List.set_cons_succ]
      refine wpAnyH_done (by kernel_rfl) ?_ _
      go_wp2_with fail
      refine bodyPost_ret (results_tmp2 Try.results47 _ _ _) rfl ?_
      have hBd : Below W1.heap.size W1 W1.drew := (Below.refl _ _).drew
      exact ⟨rfl, ⟨y, HT1.out.below hBd⟩, HK1.out.trans (Kept.of hBd (fun k hk => HT1.out.prs k hk))⟩
    · have d2 : decide (281474976710656 < nx) = false := by simp; omega
      have hc2 : ¬ 281474976710656 < st.next := by rw [HNX.out]; exact hc2
      by_cases hc3 : 256 ≤ np
      · have e1 : addE st x.hol = 4 := by unfold addE; rw [if_neg hc1, if_neg hc2, if_pos (by rw [HXH.out, HNP.out]; exact hc3)]
        have e2 : addN st x.hol = 0 := by unfold addN; rw [e1]; rfl
        have e3 : addS st x = st := by unfold addS; rw [e1]; rfl
        rw [e1, e2, e3]
        clear e1 e2 e3
        have c3 : (256 : Int) ≤ (np : Int) := by omega
        have d3 : decide ((256 : Int) ≤ (np : Int)) = true := by simp; omega
        clear hc1 hc2 hc3
        go_enter Try.func47, Try.ntmps47
        go_upto_region 1 with fail
        rw [HW1.out]
        try rw [HX.out]
        try rw [HXH.out]
        go_wp2_with fail
        refine wp_region_held_drew (S := fun W => W = W1.drew) (by kernel_rfl) (rfl) (fun hS_ => ?_)
        try dsimp only at hS_
        refine takeW 0 ?_ rfl (by kernel_rfl) (by kernel_rfl) (by kernel_rfl) (fun _ _ _ h => h) (by rfl) ?_ hS_ ?_
        rotate_left
        · intro w hSw
          try dsimp only at hSw
          go_simp
          with_reducible rfl
        try simp only [Act.put, List.setIfInBounds_toArray, List.set_cons_zero, List.set_cons_succ]
        refine takeW 1 ?_ rfl (by kernel_rfl) (by kernel_rfl) (by kernel_rfl) (fun _ _ _ h => h) (by rfl) ?_ hS_ ?_
        rotate_left
        · intro w hSw
          try dsimp only at hSw
          go_simp
          with_reducible rfl
        try simp only [Act.put, List.setIfInBounds_toArray, List.set_cons_zero, List.set_cons_succ]
        refine takeW 2 ?_ rfl (by kernel_rfl) (by kernel_rfl) (by kernel_rfl) (fun _ _ _ h => h) (by rfl) ?_ hS_ ?_
        rotate_left
        · intro w hSw
          try dsimp only at hSw
          go_simp
          with_reducible rfl
        try simp only [Act.put, List.setIfInBounds_toArray, List.set_cons_zero, List.set_cons_succ]
        refine takeW 3 ?_ rfl (by kernel_rfl) (by kernel_rfl) (by kernel_rfl) (fun _ _ _ h => h) (by rfl) ?_ hS_ ?_
        rotate_left
        · intro w hSw
          try dsimp only at hSw
          go_simp
          with_reducible rfl
        try simp only [Act.put, List.setIfInBounds_toArray, List.set_cons_zero, List.set_cons_succ]
        refine takeW 4 ?_ rfl (by kernel_rfl) (by kernel_rfl) (by kernel_rfl) (fun _ _ _ h => h) (by rfl) ?_ hS_ ?_
        rotate_left
        · intro w hSw
          try dsimp only at hSw
          go_simp
          with_reducible rfl
        try simp only [Act.put, List.setIfInBounds_toArray, List.set_cons_zero, List.set_cons_succ]
        refine takeW 5 ?_ rfl (by kernel_rfl) (by kernel_rfl) (by kernel_rfl) (fun _ _ _ h => h) (by rfl) ?_ hS_ ?_
        rotate_left
        · intro w hSw
          try dsimp only at hSw
          go_simp
          with_reducible rfl
        try simp only [Act.put, List.setIfInBounds_toArray, List.set_cons_zero, List.set_cons_succ]
        refine takeW 6 ?_ rfl (by kernel_rfl) (by kernel_rfl) (by kernel_rfl) (fun _ _ _ h => h) (by rfl) ?_ hS_ ?_
        rotate_left
        · intro w hSw
          try dsimp only at hSw
          go_simp
          with_reducible rfl
        try simp only [Act.put, List.setIfInBounds_toArray, List.set_cons_zero, List.set_cons_succ]
        refine takeW 7 ?_ rfl (by kernel_rfl) (by kernel_rfl) (by kernel_rfl) (fun _ _ _ h => h) (by rfl) ?_ hS_ ?_
        rotate_left
        · intro w hSw
          try dsimp only at hSw
          go_simp
          with_reducible rfl
        try simp only [Act.put, List.setIfInBounds_toArray, List.set_cons_zero, List.set_cons_succ]
        refine takeW 8 ?_ rfl (by kernel_rfl) (by kernel_rfl) (by kernel_rfl) (fun _ _ _ h => h) (by rfl) ?_ hS_ ?_
        rotate_left
        · intro w hSw
          try dsimp only at hSw
          go_simp
          with_reducible rfl
        try simp only [Act.put, List.setIfInBounds_toArray, List.set_cons_zero, List.set_cons_succ]
        refine takeW 9 ?_ rfl (by kernel_rfl) (by kernel_rfl) (by kernel_rfl) (fun _ _ _ h => h) (by rfl) ?_ hS_ ?_
        rotate_left
        · intro w hSw
          try dsimp only at hSw
          go_simp
          with_reducible rfl
        try simp only [Act.put, List.setIfInBounds_toArray, List.set_cons_zero, List.set_cons_succ]
        refine takeW 10 ?_ rfl (by kernel_rfl) (by kernel_rfl) (by kernel_rfl) (fun _ _ _ h => h) (by rfl) ?_ hS_ ?_
        rotate_left
        · intro w hSw
          try dsimp only at hSw
          go_simp
          with_reducible rfl
        try simp only [Act.put, List.setIfInBounds_toArray, List.set_cons_zero, List.set_cons_succ]
        refine takeW 11 ?_ rfl (by kernel_rfl) (by kernel_rfl) (by kernel_rfl) (fun _ _ _ h => h) (by rfl) ?_ hS_ ?_
        rotate_left
        · intro w hSw
          try dsimp only at hSw
          go_simp
          with_reducible rfl
        try simp only [Act.put, List.setIfInBounds_toArray, List.set_cons_zero, List.set_cons_succ]
        refine takeW 12 ?_ rfl (by kernel_rfl) (by kernel_rfl) (by kernel_rfl) (fun _ _ _ h => h) (by rfl) ?_ hS_ ?_
        rotate_left
        · intro w hSw
          try dsimp only at hSw
          go_simp
          with_reducible rfl
        try simp only [Act.put, List.setIfInBounds_toArray, List.set_cons_zero, List.set_cons_succ]
        refine takeW 13 ?_ rfl (by kernel_rfl) (by kernel_rfl) (by kernel_rfl) (fun _ _ _ h => h) (by rfl) ?_ hS_ ?_
        rotate_left
        · intro w hSw
          try dsimp only at hSw
          go_simp
          with_reducible rfl
        try simp only [Act.put, List.setIfInBounds_toArray, List.set_cons_zero, List.set_cons_succ]
        refine takeW 14 ?_ rfl (by kernel_rfl) (by kernel_rfl) (by kernel_rfl) (fun _ _ _ h => h) (by rfl) ?_ hS_ ?_
        rotate_left
        · intro w hSw
          try dsimp only at hSw
          go_simp
          with_reducible rfl
        try simp only [Act.put, List.setIfInBounds_toArray, List.set_cons_zero, List.set_cons_succ]
        refine takeW 15 ?_ rfl (by kernel_rfl) (by kernel_rfl) (by kernel_rfl) (fun _ _ _ h => h) (by rfl) ?_ hS_ ?_
        rotate_left
        · intro w hSw
          try dsimp only at hSw
          go_simp
          with_reducible rfl
        try simp only [Act.put, List.setIfInBounds_toArray, List.set_cons_zero, List.set_cons_succ]
        refine takeW 16 ?_ rfl (by kernel_rfl) (by kernel_rfl) (by kernel_rfl) (fun _ _ _ h => h) (by rfl) ?_ hS_ ?_
        rotate_left
        · intro w hSw
          try dsimp only at hSw
          go_simp
          with_reducible rfl
        try simp only [Act.put, List.setIfInBounds_toArray, List.set_cons_zero, List.set_cons_succ]
        refine wpAnyH_done (by kernel_rfl) ?_ _
        go_wp2_with fail
        refine bodyPost_ret (results_tmp2 Try.results47 _ _ _) rfl ?_
        have hBd : Below W1.heap.size W1 W1.drew := (Below.refl _ _).drew
        exact ⟨rfl, ⟨y, HT1.out.below hBd⟩, HK1.out.trans (Kept.of hBd (fun k hk => HT1.out.prs k hk))⟩
      · have c3 : (np : Int) < 256 := by omega
        have d3 : decide ((256 : Int) ≤ (np : Int)) = false := by simp; omega
        have e1 : addE st x.hol = 0 := by unfold addE; rw [if_neg hc1, if_neg hc2, if_neg (by rw [HXH.out, HNP.out]; exact hc3)]
        have e2 : addN st x.hol = nx := by unfold addN; rw [if_pos e1, HNX.out]
        have HE1 := Hd.mk e1
        rw [e1, e2]
        clear e1 e2 hc1 hc2 hc3
        go_enter Try.func47, Try.ntmps47
        go_upto_region 1 with fail
        rw [HW1.out]
        try rw [HX.out]
        try rw [HXH.out]
        go_wp2_with fail
        refine wp_region_held_drew (S := fun W => W = W1.drew) (by kernel_rfl) (rfl) (fun hS_ => ?_)
        try dsimp only at hS_
        refine takeW 0 ?_ rfl (by kernel_rfl) (by kernel_rfl) (by kernel_rfl) (fun _ _ _ h => h) (by rfl) ?_ hS_ ?_
        rotate_left
        · intro w hSw
          try dsimp only at hSw
          go_simp
          with_reducible rfl
        try simp only [Act.put, List.setIfInBounds_toArray, List.set_cons_zero, List.set_cons_succ]
        refine takeW 1 ?_ rfl (by kernel_rfl) (by kernel_rfl) (by kernel_rfl) (fun _ _ _ h => h) (by rfl) ?_ hS_ ?_
        rotate_left
        · intro w hSw
          try dsimp only at hSw
          go_simp
          with_reducible rfl
        try simp only [Act.put, List.setIfInBounds_toArray, List.set_cons_zero, List.set_cons_succ]
        refine takeW 2 ?_ rfl (by kernel_rfl) (by kernel_rfl) (by kernel_rfl) (fun _ _ _ h => h) (by rfl) ?_ hS_ ?_
        rotate_left
        · intro w hSw
          try dsimp only at hSw
          go_simp
          with_reducible rfl
        try simp only [Act.put, List.setIfInBounds_toArray, List.set_cons_zero, List.set_cons_succ]
        refine takeW 3 ?_ rfl (by kernel_rfl) (by kernel_rfl) (by kernel_rfl) (fun _ _ _ h => h) (by rfl) ?_ hS_ ?_
        rotate_left
        · intro w hSw
          try dsimp only at hSw
          go_simp
          with_reducible rfl
        try simp only [Act.put, List.setIfInBounds_toArray, List.set_cons_zero, List.set_cons_succ]
        refine takeW 4 ?_ rfl (by kernel_rfl) (by kernel_rfl) (by kernel_rfl) (fun _ _ _ h => h) (by rfl) ?_ hS_ ?_
        rotate_left
        · intro w hSw
          try dsimp only at hSw
          go_simp
          with_reducible rfl
        try simp only [Act.put, List.setIfInBounds_toArray, List.set_cons_zero, List.set_cons_succ]
        refine takeW 5 ?_ rfl (by kernel_rfl) (by kernel_rfl) (by kernel_rfl) (fun _ _ _ h => h) (by rfl) ?_ hS_ ?_
        rotate_left
        · intro w hSw
          try dsimp only at hSw
          go_simp
          with_reducible rfl
        try simp only [Act.put, List.setIfInBounds_toArray, List.set_cons_zero, List.set_cons_succ]
        refine takeW 6 ?_ rfl (by kernel_rfl) (by kernel_rfl) (by kernel_rfl) (fun _ _ _ h => h) (by rfl) ?_ hS_ ?_
        rotate_left
        · intro w hSw
          try dsimp only at hSw
          go_simp
          with_reducible rfl
        try simp only [Act.put, List.setIfInBounds_toArray, List.set_cons_zero, List.set_cons_succ]
        refine takeW 7 ?_ rfl (by kernel_rfl) (by kernel_rfl) (by kernel_rfl) (fun _ _ _ h => h) (by rfl) ?_ hS_ ?_
        rotate_left
        · intro w hSw
          try dsimp only at hSw
          go_simp
          with_reducible rfl
        try simp only [Act.put, List.setIfInBounds_toArray, List.set_cons_zero, List.set_cons_succ]
        refine takeW 8 ?_ rfl (by kernel_rfl) (by kernel_rfl) (by kernel_rfl) (fun _ _ _ h => h) (by rfl) ?_ hS_ ?_
        rotate_left
        · intro w hSw
          try dsimp only at hSw
          go_simp
          with_reducible rfl
        try simp only [Act.put, List.setIfInBounds_toArray, List.set_cons_zero, List.set_cons_succ]
        refine takeW 9 ?_ rfl (by kernel_rfl) (by kernel_rfl) (by kernel_rfl) (fun _ _ _ h => h) (by rfl) ?_ hS_ ?_
        rotate_left
        · intro w hSw
          try dsimp only at hSw
          go_simp
          with_reducible rfl
        try simp only [Act.put, List.setIfInBounds_toArray, List.set_cons_zero, List.set_cons_succ]
        refine takeW 10 ?_ rfl (by kernel_rfl) (by kernel_rfl) (by kernel_rfl) (fun _ _ _ h => h) (by rfl) ?_ hS_ ?_
        rotate_left
        · intro w hSw
          try dsimp only at hSw
          go_simp
          with_reducible rfl
        try simp only [Act.put, List.setIfInBounds_toArray, List.set_cons_zero, List.set_cons_succ]
        refine takeW 11 ?_ rfl (by kernel_rfl) (by kernel_rfl) (by kernel_rfl) (fun _ _ _ h => h) (by rfl) ?_ hS_ ?_
        rotate_left
        · intro w hSw
          try dsimp only at hSw
          go_simp
          with_reducible rfl
        try simp only [Act.put, List.setIfInBounds_toArray, List.set_cons_zero, List.set_cons_succ]
        refine takeW 12 ?_ rfl (by kernel_rfl) (by kernel_rfl) (by kernel_rfl) (fun _ _ _ h => h) (by rfl) ?_ hS_ ?_
        rotate_left
        · intro w hSw
          try dsimp only at hSw
          go_simp
          with_reducible rfl
        try simp only [Act.put, List.setIfInBounds_toArray, List.set_cons_zero, List.set_cons_succ]
        refine takeW 13 ?_ rfl (by kernel_rfl) (by kernel_rfl) (by kernel_rfl) (fun _ _ _ h => h) (by rfl) ?_ hS_ ?_
        rotate_left
        · intro w hSw
          try dsimp only at hSw
          go_simp
          with_reducible rfl
        try simp only [Act.put, List.setIfInBounds_toArray, List.set_cons_zero, List.set_cons_succ]
        refine takeW 14 ?_ rfl (by kernel_rfl) (by kernel_rfl) (by kernel_rfl) (fun _ _ _ h => h) (by rfl) ?_ hS_ ?_
        rotate_left
        · intro w hSw
          try dsimp only at hSw
          go_simp
          with_reducible rfl
        try simp only [Act.put, List.setIfInBounds_toArray, List.set_cons_zero, List.set_cons_succ]
        refine takeW 15 ?_ rfl (by kernel_rfl) (by kernel_rfl) (by kernel_rfl) (fun _ _ _ h => h) (by rfl) ?_ hS_ ?_
        rotate_left
        · intro w hSw
          try dsimp only at hSw
          go_simp
          with_reducible rfl
        try simp only [Act.put, List.setIfInBounds_toArray, List.set_cons_zero, List.set_cons_succ]
        refine takeW 16 ?_ rfl (by kernel_rfl) (by kernel_rfl) (by kernel_rfl) (fun _ _ _ h => h) (by rfl) ?_ hS_ ?_
        rotate_left
        · intro w hSw
          try dsimp only at hSw
          go_simp
          with_reducible rfl
        try simp only [Act.put, List.setIfInBounds_toArray, List.set_cons_zero, List.set_cons_succ]
        refine wpAnyH_done (by kernel_rfl) ?_ _
        clear tr q3 hS_
        obtain ⟨Wd, hWd⟩ : ∃ W, W1.drew = W := ⟨_, rfl⟩
        have hBd : Below W1.heap.size W1 Wd := by rw [← hWd]; exact (Below.refl _ _).drew
        have hsd : Wd.heap.size = X + 1 := by rw [← hWd]; exact HS1.out
        rw [hWd]
        have HBD := Hd.mk hBd
        have HSD := Hd.mk hsd
        have hXd := (hBd.block X (lt_of_heap HX1.out)).trans HX1.out
        have hTd := HT1.out.below hBd
        have q0 := (cells_cell hXd 0).trans (show _ = some (.int .i64 x.ser) from rfl)
        have f0 := cells_free hXd 0
        have t1 := hTd.t1
        rw [HNX.out] at t1
        have f1 := cells_free hTd.bM 1
        have HXD := Hd.mk hXd
        have HTD := Hd.mk hTd
        have hMX : M ≠ X := by
          intro e
          have := lt_of_heap HT.out.bM
          have := HX.out
          omega
        clear hWd hBd hsd hXd hTd
        go_upto_region 7 with fail
        obtain ⟨W3, hW3⟩ : ∃ W, (Wd.setCell ⟨X, 0, none⟩ (.int .i64 nx)).setCell ⟨M, 1, none⟩ (.int .i64 (nx + 1)) = W := ⟨_, rfl⟩
        have hX3 : W3.heap[X]? = some (.cells #[.int .i64 nx, .int .i64 x.par, .int .i64 x.port, .int .i64 (i : Int), h8 x.rts] 34 (0, 0)) := by rw [← hW3]; exact (setCell_other (Ne.symm hMX)).trans (cells_set (o := 0) HXD.out (.int .i64 nx))
        have hM3 : W3.heap[M]? = some (.cells (y.cs.setIfInBounds 1 (.int .i64 (nx + 1))) 69 (0, 0)) := by
          rw [← hW3]
          exact cells_set (o := 1) ((setCell_other hMX).trans HTD.out.bM) (.int .i64 (nx + 1))
        have ho3 : ∀ k, k ≠ X → k ≠ M → W3.heap[k]? = Wd.heap[k]? := fun k h1 h2 => by rw [← hW3]; exact (setCell_other h2).trans (setCell_other h1)
        have hs3 : W3.heap.size = Wd.heap.size := by rw [← hW3]; simp [World.setCell]
        have hos3 : W3.os = Wd.os ∧ W3.tape = Wd.tape ∧ W3.output = Wd.output := by rw [← hW3]; exact ⟨rfl, rfl, rfl⟩
        rw [hW3]
        obtain ⟨mb, hmb⟩ : ∃ b, y.mb = b := ⟨_, rfl⟩
        have HMB := Hd.mk hmb
        have hmW := HM.out
        rw [hmb] at hmW
        have hmbX : mb ≠ X := by
          have := (HT.out.foot y.mb (.inr (.inl rfl))).2
          have := HX.out
          omega
        have hmbM : mb ≠ M := by
          intro e
          obtain ⟨es, clock, hb, _⟩ := hmW
          rw [e, HT1.out.bM] at hb
          cases hb
        have hm3 : MapL Try.prog 3 kI hV W3 mb L := hmW.same ((ho3 mb hmbX hmbM).trans (HBD.out.block mb hmW.lt))
        obtain ⟨l, hkey⟩ := key3 (x := nx) ⟨by omega, by omega⟩
        obtain ⟨W4, hrun0, hm4, hg4, hs4⟩ := (show MapL Try.prog 3 kI hV W3.drew mb L from hm3.same rfl).put keyed3 kI_inj Try.underlying66 nx hkey { x with ser := nx }
        have hrun : (Instr.mapUpdate 66 (.map (some mb)) (.int .i64 nx) (.agg #[.int .i64 nx, .int .i64 x.par, .int .i64 x.port, .int .i64 (i : Int), h8 x.rts])).run Try.prog W3.drew = .ok () W4 := by rw [← HXH.out]; exact hrun0
        have hX4 : W4.heap[X]? = some (.cells #[.int .i64 nx, .int .i64 x.par, .int .i64 x.port, .int .i64 (i : Int), h8 x.rts] 34 (0, 0)) := (hg4.block X (lt_of_heap hX3) (fun e => hmbX (by cases e; rfl))).trans hX3
        have hM4 : W4.heap[M]? = some (.cells (y.cs.setIfInBounds 1 (.int .i64 (nx + 1))) 69 (0, 0)) := (hg4.block M (lt_of_heap hM3) (fun e => hmbM (by cases e; rfl))).trans hM3
        have hc2 : ∀ W : World, W.heap[M]? = some (.cells (y.cs.setIfInBounds 1 (.int .i64 (nx + 1))) 69 (0, 0)) → W.cell? ⟨M, 2, none⟩ = some (.map (some mb)) := fun W hW => by
          rw [cells_cell hW, Array.getElem?_setIfInBounds, if_neg (by omega), ← hmb]; exact HT.out.c2
        have hc3 : ∀ W : World, W.heap[M]? = some (.cells (y.cs.setIfInBounds 1 (.int .i64 (nx + 1))) 69 (0, 0)) → W.cell? ⟨M, 3 + i, none⟩ = some (.slice (y.pa i) np (y.pc i)) := fun W hW => by
          rw [cells_cell hW, Array.getElem?_setIfInBounds, if_neg (by omega), ← HNP.out]; exact HT.out.cr i HI.out
        have hrow4 : AppI W4 0 (.slice (y.pa i) np (y.pc i)) (placesS st i) := by
          have hr := HTD.out.rows i HI.out
          rw [HNP.out] at hr
          refine OwnE.same hr fun g cur fr hg hv => ?_
          obtain ⟨d, hd, hdg⟩ := own_some hv
          have hgX : g ≠ X := by
            have := (HT.out.foot g (.inr (.inr ⟨i, HI.out, d, hd, hdg⟩))).2
            have := HX.out
            omega
          have hgM : g ≠ M := by
            intro e
            rw [e, HTD.out.bM] at hg
            cases hg
          have hgm : g ≠ mb := by
            intro e
            obtain ⟨es, clock, hb, _⟩ := hm3
            have h3 := (ho3 g hgX hgM).trans hg
            rw [e, hb] at h3
            cases h3
          exact (hg4.block g (by show g < W3.heap.size; rw [hs3]; exact lt_of_heap hg) (fun e => hgm (by cases e; rfl))).trans (ho3 g hgX hgM)
        have hpl : (placesS st i).length = np := HNP.out
        -- the row, as append leaves it
        have hbx := heap_alloc_new W4.drew (.cells #[.int .i64 nx] 3)
        obtain ⟨K, cap, W6, hap, hO6, hg6, hK6⟩ := push_s (show AppI (W4.drew.alloc (.cells #[.int .i64 nx] 3)) 0 (.slice (y.pa i) np (y.pc i)) (placesS st i) from OwnE.alloc (OwnE.same hrow4 (fun _ _ _ _ _ => rfl)) _) (by rw [hpl]; omega) nx hbx
        rw [hpl] at hap hO6
        have HAP : Hd ((Builtin.append_ #[30, 30] 30 #[.slice (y.pa i) np (y.pc i), .slice (some ⟨W4.heap.size, 0, none⟩) 1 1]).run Try.prog (W4.alloc (.cells #[.int .i64 nx] 3)).drew = .ok (.slice (some ⟨K, 0, none⟩) (np + 1) cap) W6) := ⟨hap⟩
        have hnb : ∀ (k : Nat) cs e fr, W4.heap[k]? = some (Obj.cells cs e fr) → e ≠ 3 → W6.heap[k]? = some (Obj.cells cs e fr) := by
          intro k cs e fr hk hne
          have h2 : (W4.drew.alloc (.cells #[.int .i64 nx] 3)).heap[k]? = some (.cells cs e fr) := (Below.heap_alloc W4.drew _ k (lt_of_heap hk)).trans hk
          refine (hg6.block k (lt_of_heap h2) (fun e2 => ?_)).trans h2
          obtain ⟨d, hd, hdk⟩ := own_some e2.symm
          rcases hrow4.2 with ⟨h3, _⟩ | ⟨g, cap2, cur, hv, _, hh, _⟩
          · simp only [Value.slice.injEq] at h3; rw [h3.1] at hd; cases hd
          · simp only [Value.slice.injEq] at hv
            rw [hv.1] at hd
            cases hd
            simp only at hdk
            rw [hdk, hk] at hh
            cases hh
            exact hne rfl
        have hX6 := hnb X _ _ _ hX4 (show (34 : Nat) ≠ 3 by decide)
        have hM6 := hnb M _ _ _ hM4 (show (69 : Nat) ≠ 3 by decide)
        have fM6 := cells_free hM6 (3 + i)
        have cM6 := hc3 W6 hM6
        have HFIN : Hd (TabAt (W6.setCell ⟨M, 3 + i, none⟩ (.slice (some ⟨K, 0, none⟩) (np + 1) cap)) pr M (addS st x) ∧ Kept pr w (W6.setCell ⟨M, 3 + i, none⟩ (.slice (some ⟨K, 0, none⟩) (np + 1) cap))) := ⟨by
          obtain ⟨W7, hW7⟩ : ∃ W, W6.setCell ⟨M, 3 + i, none⟩ (.slice (some ⟨K, 0, none⟩) (np + 1) cap) = W := ⟨_, rfl⟩
          have hM7 := cells_set (o := 3 + i) hM6 (.slice (some ⟨K, 0, none⟩) (np + 1) cap)
          have ho7 : ∀ k, k ≠ M → W7.heap[k]? = W6.heap[k]? := fun k hk => by rw [← hW7]; exact setCell_other hk
          have hs7 : W7.heap.size = W6.heap.size := by rw [← hW7]; simp [World.setCell]
          have hos7 : W7.os = W6.os ∧ W7.tape = W6.tape ∧ W7.output = W6.output := by rw [← hW7]; exact ⟨rfl, rfl, rfl⟩
          rw [hW7] at hM7 ⊢
          have hs6 := hg6.size
          have hs5 : (W4.drew.alloc (.cells #[.int .i64 nx] 3)).heap.size = W4.heap.size + 1 := by simp
          have hs4' : W4.heap.size = W3.heap.size := hs4
          have hsd := HBD.out.size
          have hs1 := HB1.out.size
          have hmrow : ∀ d, y.pa i = some d → d.block ≠ mb := by
            intro d hd e
            have h3 := (HT.out.rows i HI.out).2
            rcases h3 with ⟨h3, _⟩ | ⟨g, cap2, cur, hv, _, hh, _⟩
            · simp only [Value.slice.injEq] at h3; rw [h3.1] at hd; cases hd
            · simp only [Value.slice.injEq] at hv
              rw [hv.1] at hd
              cases hd
              simp only at e
              rw [e] at hh
              obtain ⟨L2, ⟨es, clock, hb, _⟩, _⟩ := HT.out.map
              rw [hmb, hh] at hb
              cases hb
          have hm6 : W6.heap[mb]? = W4.heap[mb]? := by
            refine (hg6.block mb (by rw [hs5, hs4', hs3]; have := hmW.lt; omega) (fun e => ?_)).trans (Below.heap_alloc W4.drew _ mb (by show mb < W4.heap.size; rw [hs4', hs3]; have := hmW.lt; omega))
            obtain ⟨d, hd, hdk⟩ := own_some e.symm
            exact hmrow d hd hdk
          have hput : putL L st.next { x with ser := st.next } = putL L nx { x with ser := nx } := by rw [HNX.out]
          refine HT.out.added x i HI.out HXH.out HE1.out (HT.out.ok.add HP.out (by rw [HXH.out]; have := HI.out; omega) HOK.out.1 HOK.out.2) (L := L) (K := K) (cap := cap) HL.out ?_ ?_ ?_ ?_ ?_ ?_ ?_
          · rw [HNP.out, HNX.out]; exact hM7
          · rw [hput, hmb]; exact hm4.same ((ho7 mb hmbM).trans hm6)
          · rw [HNP.out, HNX.out]
            refine OwnE.same hO6 fun g cur fr hg hv => ho7 g (fun e => ?_)
            rw [e, hM6] at hg; cases hg
          · rcases hK6 with h | h
            · exact .inl (own_some h)
            · right
              rw [h, hs5, hs4', hs3]
              omega
          · intro k hk hkM hkm hkr
            rw [hmb] at hkm
            have hkX : k ≠ X := by have := HX.out; omega
            rw [ho7 k hkM, hg6.block k (by rw [hs5, hs4', hs3]; omega) (fun e => by
              obtain ⟨d, hd, hdk⟩ := own_some e.symm
              exact hkr d hd hdk), Below.heap_alloc W4.drew _ k (by show k < W4.heap.size; rw [hs4', hs3]; omega)]
            show W4.heap[k]? = _
            rw [hg4.block k (by show k < W3.heap.size; rw [hs3]; omega) (fun e => hkm (by cases e; rfl))]
            show W3.heap[k]? = _
            rw [ho3 k hkX hkM, HBD.out.block k (by omega), HB1.out.block k hk]
          · rw [hs7]; omega
          · refine ⟨?_, ?_, ?_⟩
            · rw [hos7.1, hg6.os]; show W4.os = _; rw [hg4.os]; show W3.os = _; rw [hos3.1, HBD.out.os, HB1.out.os]
            · rw [hos7.2.1, hg6.tape]; show W4.tape = _; rw [hg4.tape]; show W3.tape = _; rw [hos3.2.1, HBD.out.tape, HB1.out.tape]
            · rw [hos7.2.2, hg6.output]; show W4.output = _; rw [hg4.output]; show W3.output = _; rw [hos3.2.2, HBD.out.output, HB1.out.output]⟩
        have HX6 := Hd.mk hX6
        have hS7 : ∀ W : World, W.heap[X]? = some (.cells #[.int .i64 nx, .int .i64 x.par, .int .i64 x.port, .int .i64 (i : Int), h8 x.rts] 34 (0, 0)) → W.heap[M]? = some (.cells (y.cs.setIfInBounds 1 (.int .i64 (nx + 1))) 69 (0, 0)) → W.cell? ⟨M, 2, none⟩ = some (.map (some mb)) ∧ W.cell? ⟨X, 0, none⟩ = some (.int .i64 nx) ∧ W.cell? ⟨X, 1, none⟩ = some (.int .i64 x.par) ∧ W.cell? ⟨X, 2, none⟩ = some (.int .i64 x.port) ∧ W.cell? ⟨X, 3, none⟩ = some (.int .i64 (i : Int)) ∧ W.cell? ⟨X, 4, none⟩ = some (h8 x.rts) := fun W hWX hWM =>
          ⟨hc2 W hWM, cells_cell hWX 0, cells_cell hWX 1, cells_cell hWX 2, cells_cell hWX 3, cells_cell hWX 4⟩
        have hS73 := hS7 W3.drew hX3 hM3
        have hS74 := hS7 W4 hX4 hM4
        have hS84 : W4.drew.cell? ⟨X, 0, none⟩ = some (.int .i64 nx) ∧ W4.drew.cell? ⟨X, 3, none⟩ = some (.int .i64 (i : Int)) := ⟨cells_cell hX4 0, cells_cell hX4 3⟩
        have hS85 : (W4.alloc (.cells #[.int .i64 nx] 3)).drew.cell? ⟨X, 0, none⟩ = some (.int .i64 nx) ∧ (W4.alloc (.cells #[.int .i64 nx] 3)).drew.cell? ⟨X, 3, none⟩ = some (.int .i64 (i : Int)) := ⟨cells_cell ((Below.heap_alloc W4.drew (.cells #[.int .i64 nx] 3) X (lt_of_heap hX4)).trans hX4) 0, cells_cell ((Below.heap_alloc W4.drew (.cells #[.int .i64 nx] 3) X (lt_of_heap hX4)).trans hX4) 3⟩
        have hS86 : W6.cell? ⟨X, 0, none⟩ = some (.int .i64 nx) ∧ W6.cell? ⟨X, 3, none⟩ = some (.int .i64 (i : Int)) := ⟨cells_cell hX6 0, cells_cell hX6 3⟩
        have hS87 : (W6.setCell ⟨M, 3 + i, none⟩ (.slice (some ⟨K, 0, none⟩) (np + 1) cap)).cell? ⟨X, 0, none⟩ = some (.int .i64 nx) ∧ (W6.setCell ⟨M, 3 + i, none⟩ (.slice (some ⟨K, 0, none⟩) (np + 1) cap)).cell? ⟨X, 3, none⟩ = some (.int .i64 (i : Int)) := ⟨(cells_cell ((setCell_other (Ne.symm hMX)).trans hX6) 0), (cells_cell ((setCell_other (Ne.symm hMX)).trans hX6) 3)⟩
        have c4 : W4.drew.cell? ⟨M, 3 + i, none⟩ = some (.slice (y.pa i) np (y.pc i)) := hc3 W4.drew hM4
        have c5 : (W4.alloc (.cells #[.int .i64 nx] 3)).drew.cell? ⟨M, 3 + i, none⟩ = some (.slice (y.pa i) np (y.pc i)) := hc3 _ ((Below.heap_alloc W4.drew (.cells #[.int .i64 nx] 3) M (lt_of_heap hM4)).trans hM4)
        have HS7 := Hd.mk (And.intro hS73 hS74)
        have HS8 := Hd.mk (And.intro hS84 (And.intro hS85 (And.intro hS86 hS87)))
        have HC := Hd.mk (And.intro c4 c5)
        have HF6 := Hd.mk (And.intro cM6 fM6)
        clear hS7 hS73 hS74 hS84 hS85 hS86 hS87 c4 c5 hX3 hM3 ho3 hs3 hos3 hmb hmW hmbX hmbM hm3 hkey hrun0 hm4 hg4 hs4 hX4 hM4 hc2 hc3 hrow4 hpl hbx hap hO6 hg6 hK6 hnb hX6 hM6 fM6 cM6 hW3 q0 f0 t1 f1 t2 hlr
        refine wp_region_held_drew (S := fun W => W.cell? ⟨M, 2, none⟩ = some (.map (some mb)) ∧ W.cell? ⟨X, 0, none⟩ = some (.int .i64 nx) ∧ W.cell? ⟨X, 1, none⟩ = some (.int .i64 x.par) ∧ W.cell? ⟨X, 2, none⟩ = some (.int .i64 x.port) ∧ W.cell? ⟨X, 3, none⟩ = some (.int .i64 (i : Int)) ∧ W.cell? ⟨X, 4, none⟩ = some (h8 x.rts)) (by kernel_rfl) HS7.out.1 (fun hS_ => ?_)
        try dsimp only at hS_
        refine takeW 0 ?_ rfl (by kernel_rfl) (by kernel_rfl) (by kernel_rfl) (fun _ _ _ h => h) (by rfl) ?_ hS_ ?_
        rotate_left
        · intro w hSw
          try dsimp only at hSw
          go_simp
          with_reducible rfl
        try simp only [Act.put, List.setIfInBounds_toArray, List.set_cons_zero, List.set_cons_succ]
        refine takeW 1 ?_ rfl (by kernel_rfl) (by kernel_rfl) (by kernel_rfl) (fun _ _ _ h => h) (by rfl) ?_ hS_ ?_
        rotate_left
        · intro w hSw
          try dsimp only at hSw
          go_simp
          with_reducible rfl
        try simp only [Act.put, List.setIfInBounds_toArray, List.set_cons_zero, List.set_cons_succ]
        refine takeW 2 ?_ rfl (by kernel_rfl) (by kernel_rfl) (by kernel_rfl) (fun _ _ _ h => h) (by rfl) ?_ hS_ ?_
        rotate_left
        · intro w hSw
          try dsimp only at hSw
          go_simp
          with_reducible rfl
        try simp only [Act.put, List.setIfInBounds_toArray, List.set_cons_zero, List.set_cons_succ]
        refine takeW 3 ?_ rfl (by kernel_rfl) (by kernel_rfl) (by kernel_rfl) (fun _ _ _ h => h) (by rfl) ?_ hS_ ?_
        rotate_left
        · intro w hSw
          try dsimp only at hSw
          go_simp
          with_reducible rfl
        try simp only [Act.put, List.setIfInBounds_toArray, List.set_cons_zero, List.set_cons_succ]
        refine takeW 4 ?_ rfl (by kernel_rfl) (by kernel_rfl) (by kernel_rfl) (fun _ _ _ h => h) (by rfl) ?_ hS_ ?_
        rotate_left
        · intro w hSw
          try dsimp only at hSw
          go_simp
          with_reducible rfl
        try simp only [Act.put, List.setIfInBounds_toArray, List.set_cons_zero, List.set_cons_succ]
        refine takeW 5 ?_ rfl (by kernel_rfl) (by kernel_rfl) (by kernel_rfl) (fun _ _ _ h => h) (by rfl) ?_ hS_ ?_
        rotate_left
        · intro w hSw
          try dsimp only at hSw
          go_simp
          with_reducible rfl
        try simp only [Act.put, List.setIfInBounds_toArray, List.set_cons_zero, List.set_cons_succ]
        refine takeW 6 ?_ rfl (by kernel_rfl) (by kernel_rfl) (by kernel_rfl) (fun _ _ _ h => h) (by rfl) ?_ hS_ ?_
        rotate_left
        · intro w hSw
          try dsimp only at hSw
          go_simp
          with_reducible rfl
        try simp only [Act.put, List.setIfInBounds_toArray, List.set_cons_zero, List.set_cons_succ]
        refine wpAnyH_ready (rs := [7]) (by kernel_rfl) (by simp) (readyL rfl (fun K hK => ?_) AllReadyH.nil)
        go_simp
        refine hK.out _ _ HS7.out.2 (fun _ => ?_)
        clear hK K hS_ hrun
        try simp only [Act.put, List.setIfInBounds_toArray, List.set_cons_zero, List.set_cons_succ]
        refine wpAnyH_done (by kernel_rfl) ?_ _
        go_upto_region 8 with fail
        refine wp_region_held_drew (S := fun W => W.cell? ⟨X, 0, none⟩ = some (.int .i64 nx) ∧ W.cell? ⟨X, 3, none⟩ = some (.int .i64 (i : Int))) (by kernel_rfl) HS8.out.1 (fun hS_ => ?_)
        try dsimp only at hS_
        refine takeW 0 ?_ rfl (by kernel_rfl) (by kernel_rfl) (by kernel_rfl) (fun _ _ _ h => h) (by rfl) ?_ hS_ ?_
        rotate_left
        · intro w hSw
          try dsimp only at hSw
          go_simp
          with_reducible rfl
        try simp only [Act.put, List.setIfInBounds_toArray, List.set_cons_zero, List.set_cons_succ]
        refine takeW 1 ?_ rfl (by kernel_rfl) (by kernel_rfl) (by kernel_rfl) (fun _ _ _ h => h) (by rfl) ?_ hS_ ?_
        rotate_left
        · intro w hSw
          try dsimp only at hSw
          go_simp
          with_reducible rfl
        try simp only [Act.put, List.setIfInBounds_toArray, List.set_cons_zero, List.set_cons_succ]
        refine takeW 2 ?_ rfl (by kernel_rfl) (by kernel_rfl) (by kernel_rfl) (fun _ _ _ h => h) (by rfl) ?_ hS_ ?_
        rotate_left
        · intro w hSw
          try dsimp only at hSw
          go_simp
          with_reducible rfl
        try simp only [Act.put, List.setIfInBounds_toArray, List.set_cons_zero, List.set_cons_succ]
        refine takeW 3 ?_ rfl (by kernel_rfl) (by kernel_rfl) (by kernel_rfl) (fun _ _ _ h => h) (by rfl) ?_ hS_ ?_
        rotate_left
        · intro w hSw
          try dsimp only at hSw
          go_simp
          with_reducible rfl
        try simp only [Act.put, List.setIfInBounds_toArray, List.set_cons_zero, List.set_cons_succ]
        refine takeW 4 ?_ rfl (by kernel_rfl) (by kernel_rfl) (by kernel_rfl) (fun _ _ _ h => h) (by rfl) ?_ hS_ ?_
        rotate_left
        · intro w hSw
          try dsimp only at hSw
          go_simp
          with_reducible rfl
        try simp only [Act.put, List.setIfInBounds_toArray, List.set_cons_zero, List.set_cons_succ]
        refine takeW 5 ?_ rfl (by kernel_rfl) (by kernel_rfl) (by kernel_rfl) (fun _ _ _ h => h) (by rfl) ?_ hS_ ?_
        rotate_left
        · intro w hSw
          try dsimp only at hSw
          go_simp
          with_reducible rfl
        try simp only [Act.put, List.setIfInBounds_toArray, List.set_cons_zero, List.set_cons_succ]
        refine takeW 6 ?_ rfl (by kernel_rfl) (by kernel_rfl) (by kernel_rfl) (fun _ _ _ h => h) (by rfl) ?_ hS_ ?_
        rotate_left
        · intro w hSw
          try dsimp only at hSw
          go_simp
          with_reducible rfl
        try simp only [Act.put, List.setIfInBounds_toArray, List.set_cons_zero, List.set_cons_succ]
        refine takeW 7 ?_ rfl (by kernel_rfl) (by kernel_rfl) (by kernel_rfl) (fun _ _ _ h => h) (by rfl) ?_ hS_ ?_
        rotate_left
        · intro w hSw
          try dsimp only at hSw
          go_simp
          with_reducible rfl
        try simp only [Act.put, List.setIfInBounds_toArray, List.set_cons_zero, List.set_cons_succ]
        refine takeW 8 ?_ rfl (by kernel_rfl) (by kernel_rfl) (by kernel_rfl) (fun _ _ _ h => h) (by rfl) ?_ hS_ ?_
        rotate_left
        · intro w hSw
          try dsimp only at hSw
          go_simp
          with_reducible rfl
        try simp only [Act.put, List.setIfInBounds_toArray, List.set_cons_zero, List.set_cons_succ]
        refine takeW 10 ?_ rfl (by kernel_rfl) (by kernel_rfl) (by kernel_rfl) (fun _ _ _ h => h) (by rfl) ?_ hS_ ?_
        rotate_left
        · intro w hSw
          try dsimp only at hSw
          go_simp
          with_reducible rfl
        try simp only [Act.put, List.setIfInBounds_toArray, List.set_cons_zero, List.set_cons_succ]
        refine takeW 11 ?_ rfl (by kernel_rfl) (by kernel_rfl) (by kernel_rfl) (fun _ _ _ h => h) (by rfl) ?_ hS_ ?_
        rotate_left
        · intro w hSw
          try dsimp only at hSw
          go_simp
          with_reducible rfl
        try simp only [Act.put, List.setIfInBounds_toArray, List.set_cons_zero, List.set_cons_succ]
        refine takeW 14 ?_ rfl (by kernel_rfl) (by kernel_rfl) (by kernel_rfl) (fun _ _ _ h => h) (by rfl) ?_ hS_ ?_
        rotate_left
        · intro w hSw
          try dsimp only at hSw
          go_simp
          with_reducible rfl
        try simp only [Act.put, List.setIfInBounds_toArray, List.set_cons_zero, List.set_cons_succ]
        refine takeW 15 ?_ rfl (by kernel_rfl) (by kernel_rfl) (by kernel_rfl) (fun _ _ _ h => h) (by rfl) ?_ hS_ ?_
        rotate_left
        · intro w hSw
          try dsimp only at hSw
          go_simp
          with_reducible rfl
        try simp only [Act.put, List.setIfInBounds_toArray, List.set_cons_zero, List.set_cons_succ]
        clear hS_
        refine wpAnyH_ready (rs := [9, 12]) (by kernel_rfl) (by simp) (readyL rfl (fun K hK => ?_) (readyL rfl (fun K hK => ?_) AllReadyH.nil))
        · have c4 := HC.out.1
          go_simp
          refine hK.out _ _ HS8.out.1 (fun _ => ?_)
          clear hK K c4
          try simp only [Act.put, List.setIfInBounds_toArray, List.set_cons_zero, List.set_cons_succ]
          refine wpAnyH_ready (rs := [12]) (by kernel_rfl) (by simp) (readyL rfl (fun K hK => ?_) AllReadyH.nil)
          go_simp
          refine hK.out _ _ HS8.out.2.1 (fun _ => ?_)
          clear hK K
          try simp only [Act.put, List.setIfInBounds_toArray, List.set_cons_zero, List.set_cons_succ]
          refine wpAnyH_ready (rs := [13]) (by kernel_rfl) (by simp) (readyL rfl (fun K hK => ?_) AllReadyH.nil)
          refine if_then (by rfl) ?_
          refine wp_append_run _ _ _ rfl rfl rfl HAP.out ?_
          refine hK.out _ _ HS8.out.2.2.1 (fun _ => ?_)
          clear hK K
          try simp only [Act.put, List.setIfInBounds_toArray, List.set_cons_zero, List.set_cons_succ]
          have hS_ := HS8.out.2.2.1
          refine takeW 16 ?_ rfl (by kernel_rfl) (by kernel_rfl) (by kernel_rfl) (fun _ _ _ h => h) (by rfl) ?_ hS_ ?_
          rotate_left
          · intro w hSw
            try dsimp only at hSw
            go_simp
            with_reducible rfl
          try simp only [Act.put, List.setIfInBounds_toArray, List.set_cons_zero, List.set_cons_succ]
          clear hS_
          have cM6 := HF6.out.1
          have fM6 := HF6.out.2
          refine wpAnyH_ready (rs := [17]) (by kernel_rfl) (by simp) (readyL rfl (fun K hK => ?_) AllReadyH.nil)
          go_simp
          refine hK.out _ _ HS8.out.2.2.2 (fun _ => ?_)
          clear hK K
          try simp only [Act.put, List.setIfInBounds_toArray, List.set_cons_zero, List.set_cons_succ]
          refine wpAnyH_done (by kernel_rfl) ?_ _
          clear cM6 fM6
          have q0 := HS8.out.2.2.2.1
          go_wp2_with fail
          refine bodyPost_ret (results_tmp2 Try.results47 _ _ _) rfl ?_
          exact ⟨rfl, HFIN.out⟩
        · go_simp
          refine hK.out _ _ HS8.out.2.1 (fun _ => ?_)
          clear hK K
          try simp only [Act.put, List.setIfInBounds_toArray, List.set_cons_zero, List.set_cons_succ]
          have c5 := HC.out.2
          refine wpAnyH_ready (rs := [9]) (by kernel_rfl) (by simp) (readyL rfl (fun K hK => ?_) AllReadyH.nil)
          go_simp
          refine hK.out _ _ HS8.out.2.1 (fun _ => ?_)
          clear hK K
          try simp only [Act.put, List.setIfInBounds_toArray, List.set_cons_zero, List.set_cons_succ]
          clear c5
          refine wpAnyH_ready (rs := [13]) (by kernel_rfl) (by simp) (readyL rfl (fun K hK => ?_) AllReadyH.nil)
          refine if_then (by rfl) ?_
          refine wp_append_run _ _ _ rfl rfl rfl HAP.out ?_
          refine hK.out _ _ HS8.out.2.2.1 (fun _ => ?_)
          clear hK K
          try simp only [Act.put, List.setIfInBounds_toArray, List.set_cons_zero, List.set_cons_succ]
          have hS_ := HS8.out.2.2.1
          refine takeW 16 ?_ rfl (by kernel_rfl) (by kernel_rfl) (by kernel_rfl) (fun _ _ _ h => h) (by rfl) ?_ hS_ ?_
          rotate_left
          · intro w hSw
            try dsimp only at hSw
            go_simp
            with_reducible rfl
          try simp only [Act.put, List.setIfInBounds_toArray, List.set_cons_zero, List.set_cons_succ]
          clear hS_
          have cM6 := HF6.out.1
          have fM6 := HF6.out.2
          refine wpAnyH_ready (rs := [17]) (by kernel_rfl) (by simp) (readyL rfl (fun K hK => ?_) AllReadyH.nil)
          go_simp
          refine hK.out _ _ HS8.out.2.2.2 (fun _ => ?_)
          clear hK K
          try simp only [Act.put, List.setIfInBounds_toArray, List.set_cons_zero, List.set_cons_succ]
          refine wpAnyH_done (by kernel_rfl) ?_ _
          clear cM6 fM6
          have q0 := HS8.out.2.2.2.1
          go_wp2_with fail
          refine bodyPost_ret (results_tmp2 Try.results47 _ _ _) rfl ?_
          exact ⟨rfl, HFIN.out⟩
end Go.Proofs.Ytinagiofolmhbaa
