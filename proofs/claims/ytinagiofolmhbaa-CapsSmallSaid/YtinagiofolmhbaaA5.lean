/- Place, Places. -/
import Derived.Test.YtinagiofolmhbaaA4
namespace Go.Proofs.Ytinagiofolmhbaa
open Go.RowKit
set_option linter.unusedVariables false
set_option linter.unusedSimpArgs false

theorem takeN {P : Program} {md : Region.Mode} {ops : Array Oper} {Q : Exit → Act → World → Prop} {S : World → Prop} (i : Nat) {oi : Oper} {fuel : Nat} {listed : Array Bool} {a : Act} {w : World} (hi : ops.toList[i]? = some oi)
    (hs : Region.noSelect ops = true) (hf : Region.free md ops listed i = true) (hr : (Region.ready md ops listed).contains i = true)
    (hQ : ∀ c a w, Q (.panic c) (a.put oi.dst undef) w → Q (.panic c) a w) (hw : Region.wanted oi (yielded ops a.tmps) = false) (hS : S w)
    (h : wpAnyH P md ops Q S fuel (listed.setIfInBounds i true) (a.put oi.dst undef) w) : wpAnyH P md ops Q S (fuel + 1) listed a w :=
  wpAnyH_take (by rw [← Array.getElem?_toList]; exact hi) hs hf hr hQ (Or.inr ⟨hw, rfl⟩) hS h
/-- 'AllReadyH.cons', the operation read off the list. -/
theorem readyL {P : Program} {md : Region.Mode} {ops : Array Oper} {Q : Exit → Act → World → Prop} {S : World → Prop} {fuel : Nat} {listed : Array Bool} {a : Act} {w : World} {i : Nat} {o : Oper} {rs : List Nat} (ho : ops.toList[i]? = some o)
    (h : ∀ K' : Act → World → Prop, Shut (∀ a w, S w → (S w → wpAnyH P md ops Q S fuel (listed.setIfInBounds i true) a w) → K' a w) → if Region.wanted o (yielded ops a.tmps) = true then Oper.wp P o a w K' Q else K' (a.put o.dst undef) w)
    (hs : AllReadyH P md ops Q S fuel listed a w rs) : AllReadyH P md ops Q S fuel listed a w (i :: rs) :=
  AllReadyH.cons (by rw [← Array.getElem?_toList]; exact ho) h hs
theorem made_uniq {st : St} (h : Ok st) {x z : Hn × Bool} (hx : x ∈ st.made) (hz : z ∈ st.made) (e : x.1.ser = z.1.ser) : x = z := by
  have key : ∀ {l : List (Hn × Bool)}, l.Pairwise (fun a b => a.1.ser < b.1.ser) → x ∈ l → z ∈ l → x = z := by
    intro l
    induction l with
    | nil => intro _ h; cases h
    | cons a l ih =>
      intro hp hx hz
      obtain ⟨h1, h2⟩ := List.pairwise_cons.1 hp
      rcases List.mem_cons.1 hx with e1 | hx1 <;> rcases List.mem_cons.1 hz with e2 | hz1
      · rw [e1, e2]
      · have := h1 _ hz1; rw [← e1] at this; omega
      · have := h1 _ hx1; rw [← e2] at this; omega
      · exact ih h2 hx1 hz1
  exact key h.sers hx hz
theorem own_get {st : St} (h : Ok st) {x : Hn × Bool} (hx : x ∈ st.made) : getL (liveS st) x.1.ser = if x.2 then none else some x.1 := by
  obtain ⟨x, g⟩ := x
  cases g with
  | false => exact getL_mem (live_inc h) (live_mem.2 hx)
  | true =>
    refine getL_none.2 fun z hz e => ?_
    have := made_uniq h hx (live_mem.1 hz) e.symm
    simp at this
theorem places_bad {st : St} (h : Ok st) {who : Int} (hw : badH who = true) : ownH st who = [] := by
  unfold ownH
  rw [List.filter_eq_nil_iff]
  intro x hx
  have := h.hols x hx
  unfold badH at hw
  simp at hw
  simp
  omega
/-- Places. -/
theorem places_any {y : Lay} {w : World} {pr : Nat → Prop} {M : Nat} {st : St} (h : TabL y w pr M st) (who : Int) :
    Calls Try.prog 30 #[.pointer (some ⟨M, 0, none⟩), .int .i64 who] w fun e w' => ∃ v, e = .returned v ∧ AppI w' w.heap.size v (placesS st who) ∧ Below w.heap.size w w' := by
  have H := Hd.mk (is_at h.t0)
  have HH := Hd.mk (fun W => holder_any who W)
  cases hb : badH who with
  | true =>
    have e1 : placesS st who = [] := by unfold placesS; rw [places_bad h.ok hb]; rfl
    rw [e1]
    have h2 := HH.out
    rw [hb] at h2
    have H2 := Hd.mk h2
    clear h hb e1 HH h2
    go_enter Try.func30, Try.ntmps30
    go_wp2_with fail
    refine H.out.mono ?_
    rintro e w1 ⟨rfl, rfl⟩
    go_wp2_with fail
    refine (H2.out _).mono ?_
    rintro e w1 ⟨rfl, rfl⟩
    go_wp2_with fail
    refine bodyPost_ret (results_tmp Try.results30 _ _ _) rfl ?_
    exact ⟨_, rfl, OwnE.nil _ _ _ _, Below.refl _ _⟩
  | false =>
    have hb2 := hb
    unfold badH at hb2
    simp at hb2
    obtain ⟨i, rfl⟩ : ∃ i : Nat, who = (i : Int) := ⟨who.toNat, by omega⟩
    have hi : i < 17 := by omega
    have tr := h.tr i hi
    have HC := Hd.mk (clone_app _ _ w (OwnE.src (h.rows i hi)) (by have := h.ok.places i; omega))
    have h2 := HH.out
    rw [hb] at h2
    have H2 := Hd.mk h2
    have k0 : (0 : Int) ≤ (i : Int) := by omega
    have k1 : (i : Int) < 17 := by omega
    clear h hb hb2 HH h2 hi
    go_enter Try.func30, Try.ntmps30
    go_wp2_with fail
    refine H.out.mono ?_
    rintro e w1 ⟨rfl, rfl⟩
    go_wp2_with fail
    refine (H2.out _).mono ?_
    rintro e w1 ⟨rfl, rfl⟩
    go_wp2_with fail
    refine HC.out.mono ?_
    rintro e w1 ⟨v, rfl, ho, hB⟩
    have HO := Hd.mk ho
    have HB := Hd.mk hB
    clear ho hB
    go_wp2_with fail
    refine bodyPost_ret (results_tmp Try.results30 _ _ _) rfl ?_
    exact ⟨_, rfl, HO.out, HB.out⟩
set_option maxRecDepth 100000 in
set_option maxHeartbeats 2000000 in
theorem place_any {y : Lay} {w : World} {pr : Nat → Prop} {M : Nat} {st : St} (h : TabL y w pr M st) (who i : Int) :
    Calls Try.prog 29 #[.pointer (some ⟨M, 0, none⟩), .int .i64 who, .int .i64 i] w fun e w' => e = .returned (.tuple #[hV (plcV st who i), .int .i64 (plcE st who i)]) ∧ Below w.heap.size w w' := by
  obtain ⟨W1, hW1⟩ : ∃ W, (w.alloc (.cells #[.int .i64 0, .int .i64 0, .int .i64 0, .int .i64 0, .int .u8 0] 34)) = W := ⟨_, rfl⟩
  have hB1 : Below w.heap.size w W1 := by rw [← hW1]; exact (Below.refl _ _).alloc (Nat.le_refl _) _
  have hb1 : W1.heap[w.heap.size]? = some (.cells #[.int .i64 0, .int .i64 0, .int .i64 0, .int .i64 0, .int .u8 0] 34 (0, 0)) := by rw [← hW1]; exact heap_alloc_new _ _
  obtain ⟨R, hR⟩ : ∃ r, w.heap.size = r := ⟨_, rfl⟩
  have h1 := h.below hB1
  have H := Hd.mk (is_at h1.t0)
  have HW1 : Hd (w.alloc (.cells #[.int .i64 0, .int .i64 0, .int .i64 0, .int .i64 0, .int .u8 0] 34) = W1) := ⟨hW1⟩
  rw [hR] at hb1
  have HB1 := Hd.mk hB1
  have HX1 := Hd.mk hb1
  have HR := Hd.mk hR
  have HS1 : Hd (W1.heap.size = R + 1) := ⟨by rw [← hW1, ← hR]; simp⟩
  have HH1 := Hd.mk h1
  have HH := Hd.mk (fun W => holder_any who W)
  clear h hW1 hB1 hb1 h1 hR
  cases hb : badH who with
  | true =>
    have e1 : plcE st who i = 2 := by unfold plcE; rw [hb]; rfl
    have e2 : plcV st who i = hn0 := by unfold plcV; rw [e1]; rfl
    rw [e1, e2]
    have h2 := HH.out
    rw [hb] at h2
    have H2 := Hd.mk h2
    clear HH h2 hb e1 e2 HH1
    have q0 := cells_cell HX1.out 0
    have f0 := cells_free HX1.out 0
    have q1 := cells_cell HX1.out 1
    have f1 := cells_free HX1.out 1
    have q2 := cells_cell HX1.out 2
    have f2 := cells_free HX1.out 2
    have q3 := cells_cell HX1.out 3
    have f3 := cells_free HX1.out 3
    have q4 := cells_cell HX1.out 4
    have f4 := cells_free HX1.out 4
    simp only [List.getElem?_toArray, List.getElem?_cons_zero, List.getElem?_cons_succ] at q0 q1 q2 q3 q4
    go_enter Try.func29, Try.ntmps29
    go_upto_region 1 with fail
    rw [HW1.out]
    try rw [HR.out]
    go_wp2_with fail
    refine H.out.mono ?_
    rintro e w1 ⟨rfl, rfl⟩
    go_wp2_with fail
    refine (H2.out _).mono ?_
    rintro e w1 ⟨rfl, rfl⟩
    go_wp2_with fail
    refine bodyPost_ret (results_cell_row2 Try.results29 _ _ R 34 #[.int .i64 0, .int .i64 0, .int .i64 0, .int .i64 0, .int .u8 0] (0, 0) _ rfl (set5 HX1.out _ _ _ _ _) Try.underlying34 rfl (by kernel_rfl)) rfl ?_
    exact ⟨rfl, below5 HB1.out (Nat.le_of_eq HR.out) _ _ _ _ _⟩
  | false =>
    have hb2 := hb
    unfold badH at hb2
    simp at hb2
    obtain ⟨u, rfl⟩ : ∃ u : Nat, who = (u : Int) := ⟨who.toNat, by omega⟩
    have hu : u < 17 := by omega
    have tr := HH1.out.tr u hu
    have h2 := HH.out
    rw [hb] at h2
    have H2 := Hd.mk h2
    have k0 : (0 : Int) ≤ (u : Int) := by omega
    have k1 : (u : Int) < 17 := by omega
    have HBD := Hd.mk hb
    obtain ⟨n, hn⟩ : ∃ n, (placesS st u).length = n := ⟨_, rfl⟩
    have hn2 : (ownH st u).length = n := by rw [← hn]; unfold placesS; simp
    rw [hn] at tr
    have n256 : n ≤ 256 := by rw [← hn]; exact HH1.out.ok.places u
    have HN := Hd.mk hn
    have HN2 := Hd.mk hn2
    clear HH h2 hb hb2 hn hn2
    by_cases hlo : i < 0 ∨ (n : Int) ≤ i
    · have e1 : plcE st u i = 6 := by unfold plcE; rw [HBD.out, HN2.out]; simp only [Bool.false_eq_true, if_false]; rw [if_pos hlo]
      have e2 : plcV st u i = hn0 := by unfold plcV; rw [e1]; rfl
      rw [e1, e2]
      clear e1 e2 hu
      have q0 := cells_cell HX1.out 0
      have f0 := cells_free HX1.out 0
      have q1 := cells_cell HX1.out 1
      have f1 := cells_free HX1.out 1
      have q2 := cells_cell HX1.out 2
      have f2 := cells_free HX1.out 2
      have q3 := cells_cell HX1.out 3
      have f3 := cells_free HX1.out 3
      have q4 := cells_cell HX1.out 4
      have f4 := cells_free HX1.out 4
      simp only [List.getElem?_toArray, List.getElem?_cons_zero, List.getElem?_cons_succ] at q0 q1 q2 q3 q4
      by_cases h0 : i < 0
      · clear hlo
        go_enter Try.func29, Try.ntmps29
        go_upto_region 1 with fail
        rw [HW1.out]
        try rw [HR.out]
        go_wp2_with fail
        refine H.out.mono ?_
        rintro e w1 ⟨rfl, rfl⟩
        go_wp2_with fail
        refine (H2.out _).mono ?_
        rintro e w1 ⟨rfl, rfl⟩
        go_wp2_with fail
        refine bodyPost_ret (results_cell_row2 Try.results29 _ _ R 34 #[.int .i64 0, .int .i64 0, .int .i64 0, .int .i64 0, .int .u8 0] (0, 0) _ rfl (set5 HX1.out _ _ _ _ _) Try.underlying34 rfl (by kernel_rfl)) rfl ?_
        exact ⟨rfl, below5 HB1.out (Nat.le_of_eq HR.out) _ _ _ _ _⟩
      · have h3 : (n : Int) ≤ i := by omega
        have h4 : 0 ≤ i := by omega
        clear hlo h0
        go_enter Try.func29, Try.ntmps29
        go_upto_region 1 with fail
        rw [HW1.out]
        try rw [HR.out]
        go_wp2_with fail
        refine H.out.mono ?_
        rintro e w1 ⟨rfl, rfl⟩
        go_wp2_with fail
        refine (H2.out _).mono ?_
        rintro e w1 ⟨rfl, rfl⟩
        go_wp2_with fail
        refine bodyPost_ret (results_cell_row2 Try.results29 _ _ R 34 #[.int .i64 0, .int .i64 0, .int .i64 0, .int .i64 0, .int .u8 0] (0, 0) _ rfl (set5 HX1.out _ _ _ _ _) Try.underlying34 rfl (by kernel_rfl)) rfl ?_
        exact ⟨rfl, below5 HB1.out (Nat.le_of_eq HR.out) _ _ _ _ _⟩
    · obtain ⟨k, rfl⟩ : ∃ k : Nat, i = (k : Int) := ⟨i.toNat, by omega⟩
      have hk : k < n := by omega
      have hkl : k < (ownH st u).length := by rw [HN2.out]; exact hk
      obtain ⟨z, hz⟩ : ∃ z, (ownH st u)[k] = z := ⟨_, rfl⟩
      have hzm : z ∈ st.made := by
        have := List.getElem_mem hkl
        rw [hz] at this
        exact (List.mem_filter.1 this).1
      have hget := own_get HH1.out.ok hzm
      have hpk : k < (placesS st u).length := by rw [HN.out]; exact hk
      have hpl : (placesS st u)[k] = z.1.ser := by
        have h1 : (placesS st u)[k]? = some z.1.ser := by unfold placesS; rw [List.getElem?_map, List.getElem?_eq_getElem hkl, hz]; rfl
        rw [List.getElem?_eq_getElem hpk] at h1
        exact Option.some.inj h1
      obtain ⟨bk, off, hpa, hbl, hcell⟩ := SrcE.at (OwnE.src (HH1.out.rows u hu)) k hpk
      rw [hpl] at hcell
      have hlo2 := HH1.out.ok.lo z hzm
      have hn1 := HH1.out.ok.n2
      have e0 : plcE st u k = if z.2 then 230 else 0 := by
        unfold plcE
        rw [HBD.out, HN2.out]
        simp only [Bool.false_eq_true, if_false]
        rw [if_neg hlo, Int.toNat_natCast, List.getElem?_eq_getElem hkl, hz]
      obtain ⟨z, gz⟩ := z
      simp only at hget hcell hlo2 e0
      obtain ⟨sz, hsz⟩ : ∃ s, z.ser = s := ⟨_, rfl⟩
      rw [hsz] at hget hcell hlo2
      obtain ⟨L, hm, hl, _⟩ := HH1.out.mlen
      obtain ⟨l, hkey⟩ := key3 (x := sz) ⟨by omega, by omega⟩
      have hlook := fun (W : World) (hW : Below W1.heap.size W1 W) => (hm.same (hW.block _ hm.lt)).look keyed3 kI_inj Try.underlying66 (Try.zeroValue34 W) sz hkey true
      rw [hl, hget] at hlook
      rw [hpa] at tr
      have t2 := HH1.out.t2
      obtain ⟨mb, hmb⟩ : ∃ b, y.mb = b := ⟨_, rfl⟩
      rw [hmb] at t2 hlook
      have hMW : M < W1.heap.size := lt_heap HH1.out.bM
      have hRW : R < W1.heap.size := lt_heap HX1.out
      have c0 : (0 : Int) ≤ (k : Int) := by omega
      have c1 : (k : Int) < (n : Int) := by omega
      cases gz with
      | true =>
        have e1 : plcE st u k = 230 := e0
        have e2 : plcV st u k = hn0 := by unfold plcV; rw [e1]; rfl
        rw [e1, e2]
        have hrun : ∀ W, Below W1.heap.size W1 W → (Instr.lookup 66 (.map (some mb)) (.int .i64 sz) true).run Try.prog W = .ok (.tuple #[.agg #[.int .i64 0, .int .i64 0, .int .i64 0, .int .i64 0, .int .u8 0], .bool false]) W := fun W hW => by
          rcases hlook W hW with ⟨_, h⟩ | ⟨v, hv, _⟩
          · exact h
          · simp at hv
        clear e0 e1 e2 hlook hl hm hkey hget hpl hpk hz hzm hkl hk hlo hsz hpa hmb
        have hS : ∀ W, Below W1.heap.size W1 W → W.cell? ⟨M, 2, none⟩ = some (.map (some mb)) ∧ W.cell? ⟨M, 3 + u, none⟩ = some (.slice (some ⟨bk, off, none⟩) n (y.pc u)) ∧ W.cell? ⟨bk, off + k, none⟩ = some (.int .i64 sz) ∧ (Instr.lookup 66 (.map (some mb)) (.int .i64 sz) true).run Try.prog W = .ok (.tuple #[.agg #[.int .i64 0, .int .i64 0, .int .i64 0, .int .i64 0, .int .u8 0], .bool false]) W ∧ Below W1.heap.size W1 W := fun W hW => ⟨(hW.cell (p := ⟨M, 2, none⟩) hMW).trans t2, (hW.cell (p := ⟨M, 3 + u, none⟩) hMW).trans tr, (hW.cell (p := ⟨bk, off + k, none⟩) hbl).trans hcell, hrun W hW, hW⟩
        have HS := Hd.mk hS
        clear hS hcell hrun hbl hMW
        go_enter Try.func29, Try.ntmps29
        go_upto_region 1 with fail
        rw [HW1.out]
        try rw [HR.out]
        go_wp2_with fail
        refine H.out.mono ?_
        rintro e w1 ⟨rfl, rfl⟩
        go_wp2_with fail
        refine (H2.out _).mono ?_
        rintro e w1 ⟨rfl, rfl⟩
        clear n256 hlo2 hn1
        go_wp2_with fail
        clear t2 tr
        refine wp_region_held_drew (S := fun W => W.cell? ⟨M, 2, none⟩ = some (.map (some mb)) ∧ W.cell? ⟨M, 3 + u, none⟩ = some (.slice (some ⟨bk, off, none⟩) n (y.pc u)) ∧ W.cell? ⟨bk, off + k, none⟩ = some (.int .i64 sz) ∧ (Instr.lookup 66 (.map (some mb)) (.int .i64 sz) true).run Try.prog W = .ok (.tuple #[.agg #[.int .i64 0, .int .i64 0, .int .i64 0, .int .i64 0, .int .u8 0], .bool false]) W ∧ Below W1.heap.size W1 W) (by kernel_rfl) (HS.out _ (Below.refl _ _).drew) (fun hS_ => ?_)
        try dsimp only at hS_
        refine takeW 0 ?_ rfl (by kernel_rfl) (by kernel_rfl) (by kernel_rfl) (fun _ _ _ h => h) (by rfl) ?_ hS_ ?_
        rotate_left
        · intro w hSw
          try dsimp only at hSw
          go_simp
          with_reducible rfl
        try simp only [Act.put, List.setIfInBounds_toArray, List.set_cons_zero, List.set_cons_succ]
        refine takeW 1 ?_ rfl (by kernel_rfl) (by kernel_rfl) (by kernel_rfl) (fun _ _ _ h => h) (by rfl) ?_ hS_ ?_
        rotate_left
        · intro w hSw
          try dsimp only at hSw
          go_simp
          with_reducible rfl
        try simp only [Act.put, List.setIfInBounds_toArray, List.set_cons_zero, List.set_cons_succ]
        refine takeW 2 ?_ rfl (by kernel_rfl) (by kernel_rfl) (by kernel_rfl) (fun _ _ _ h => h) (by rfl) ?_ hS_ ?_
        rotate_left
        · intro w hSw
          try dsimp only at hSw
          go_simp
          with_reducible rfl
        try simp only [Act.put, List.setIfInBounds_toArray, List.set_cons_zero, List.set_cons_succ]
        refine takeW 3 ?_ rfl (by kernel_rfl) (by kernel_rfl) (by kernel_rfl) (fun _ _ _ h => h) (by rfl) ?_ hS_ ?_
        rotate_left
        · intro w hSw
          try dsimp only at hSw
          go_simp
          with_reducible rfl
        try simp only [Act.put, List.setIfInBounds_toArray, List.set_cons_zero, List.set_cons_succ]
        refine takeW 4 ?_ rfl (by kernel_rfl) (by kernel_rfl) (by kernel_rfl) (fun _ _ _ h => h) (by rfl) ?_ hS_ ?_
        rotate_left
        · intro w hSw
          try dsimp only at hSw
          go_simp
          with_reducible rfl
        try simp only [Act.put, List.setIfInBounds_toArray, List.set_cons_zero, List.set_cons_succ]
        refine takeW 5 ?_ rfl (by kernel_rfl) (by kernel_rfl) (by kernel_rfl) (fun _ _ _ h => h) (by rfl) ?_ hS_ ?_
        rotate_left
        · intro w hSw
          try dsimp only at hSw
          go_simp
          with_reducible rfl
        try simp only [Act.put, List.setIfInBounds_toArray, List.set_cons_zero, List.set_cons_succ]
        refine takeW 6 ?_ rfl (by kernel_rfl) (by kernel_rfl) (by kernel_rfl) (fun _ _ _ h => h) (by rfl) ?_ hS_ ?_
        rotate_left
        · intro w hSw
          try dsimp only at hSw
          go_simp
          with_reducible rfl
        try simp only [Act.put, List.setIfInBounds_toArray, List.set_cons_zero, List.set_cons_succ]
        refine takeW 7 ?_ rfl (by kernel_rfl) (by kernel_rfl) (by kernel_rfl) (fun _ _ _ h => h) (by rfl) ?_ hS_ ?_
        rotate_left
        · intro w hSw
          try dsimp only at hSw
          go_simp
          with_reducible rfl
        try simp only [Act.put, List.setIfInBounds_toArray, List.set_cons_zero, List.set_cons_succ]
        refine takeW 8 ?_ rfl (by kernel_rfl) (by kernel_rfl) (by kernel_rfl) (fun _ _ _ h => h) (by rfl) ?_ hS_ ?_
        rotate_left
        · intro w hSw
          try dsimp only at hSw
          go_simp
          with_reducible rfl
        try simp only [Act.put, List.setIfInBounds_toArray, List.set_cons_zero, List.set_cons_succ]
        refine takeW 9 ?_ rfl (by kernel_rfl) (by kernel_rfl) (by kernel_rfl) (fun _ _ _ h => h) (by rfl) ?_ hS_ ?_
        rotate_left
        · intro w hSw
          try dsimp only at hSw
          go_simp
          with_reducible rfl
        try simp only [Act.put, List.setIfInBounds_toArray, List.set_cons_zero, List.set_cons_succ]
        refine takeW 10 ?_ rfl (by kernel_rfl) (by kernel_rfl) (by kernel_rfl) (fun _ _ _ h => h) (by rfl) ?_ hS_ ?_
        rotate_left
        · intro w hSw
          try dsimp only at hSw
          go_simp
          with_reducible rfl
        try simp only [Act.put, List.setIfInBounds_toArray, List.set_cons_zero, List.set_cons_succ]
        refine takeW 11 ?_ rfl (by kernel_rfl) (by kernel_rfl) (by kernel_rfl) (fun _ _ _ h => h) (by rfl) ?_ hS_ ?_
        rotate_left
        · intro w hSw
          try dsimp only at hSw
          go_simp
          with_reducible rfl
        try simp only [Act.put, List.setIfInBounds_toArray, List.set_cons_zero, List.set_cons_succ]
        refine takeW 12 ?_ rfl (by kernel_rfl) (by kernel_rfl) (by kernel_rfl) (fun _ _ _ h => h) (by rfl) ?_ hS_ ?_
        rotate_left
        · intro w hSw
          try dsimp only at hSw
          go_simp
          with_reducible rfl
        try simp only [Act.put, List.setIfInBounds_toArray, List.set_cons_zero, List.set_cons_succ]
        refine takeW 13 ?_ rfl (by kernel_rfl) (by kernel_rfl) (by kernel_rfl) (fun _ _ _ h => h) (by rfl) ?_ hS_ ?_
        rotate_left
        · intro w hSw
          try dsimp only at hSw
          go_simp
          with_reducible rfl
        try simp only [Act.put, List.setIfInBounds_toArray, List.set_cons_zero, List.set_cons_succ]
        refine takeW 14 ?_ rfl (by kernel_rfl) (by kernel_rfl) (by kernel_rfl) (fun _ _ _ h => h) (by rfl) ?_ hS_ ?_
        rotate_left
        · intro w hSw
          try dsimp only at hSw
          go_simp
          with_reducible rfl
        try simp only [Act.put, List.setIfInBounds_toArray, List.set_cons_zero, List.set_cons_succ]
        refine takeW 15 ?_ rfl (by kernel_rfl) (by kernel_rfl) (by kernel_rfl) (fun _ _ _ h => h) (by rfl) ?_ hS_ ?_
        rotate_left
        · intro w hSw
          try dsimp only at hSw
          go_simp
          with_reducible rfl
        try simp only [Act.put, List.setIfInBounds_toArray, List.set_cons_zero, List.set_cons_succ]
        refine takeW 16 ?_ rfl (by kernel_rfl) (by kernel_rfl) (by kernel_rfl) (fun _ _ _ h => h) (by rfl) ?_ hS_ ?_
        rotate_left
        · intro w hSw
          try dsimp only at hSw
          go_simp
          with_reducible rfl
        try simp only [Act.put, List.setIfInBounds_toArray, List.set_cons_zero, List.set_cons_succ]
        obtain ⟨Wd, hWd⟩ : ∃ W, W1.drew = W := ⟨_, rfl⟩
        have hBd : Below W1.heap.size W1 Wd := by rw [← hWd]; exact (Below.refl _ _).drew
        have hXd : Wd.heap[R]? = some (.cells #[.int .i64 0, .int .i64 0, .int .i64 0, .int .i64 0, .int .u8 0] 34 (0, 0)) := by rw [← hWd]; exact HX1.out
        have hSd : Wd.heap.size = R + 1 := by rw [← hWd]; exact HS1.out
        rw [hWd] at hS_ ⊢
        have HBD2 := Hd.mk hBd
        have HXD := Hd.mk hXd
        have HSD := Hd.mk hSd
        clear hWd hBd hXd hSd
        refine wpAnyH_ready (rs := [17]) (by kernel_rfl) (by simp) (readyL rfl (fun K hK => ?_) AllReadyH.nil)
        go_simp
        have hS2_ := HS.out _ (HBD2.out.alloc HBD2.out.size (.cells #[.int .i64 0, .int .i64 0, .int .i64 0, .int .i64 0, .int .u8 0] 34))
        refine hK.out _ _ hS2_ (fun _ => ?_)
        clear hK K hS_
        try simp only [Act.put, List.setIfInBounds_toArray, List.set_cons_zero, List.set_cons_succ]
        refine wpAnyH_ready (rs := [18]) (by kernel_rfl) (by simp) (readyL rfl (fun K hK => ?_) AllReadyH.nil)
        go_simp
        have hS3_ := HS.out _ (HBD2.out.alloc HBD2.out.size (.cells #[.int .i64 0, .int .i64 0, .int .i64 0, .int .i64 0, .int .u8 0] 34))
        refine hK.out _ _ hS3_ (fun _ => ?_)
        clear hK K hS2_
        try simp only [Act.put, List.setIfInBounds_toArray, List.set_cons_zero, List.set_cons_succ]
        refine takeW 19 ?_ rfl (by kernel_rfl) (by kernel_rfl) (by kernel_rfl) (fun _ _ _ h => h) (by rfl) ?_ hS3_ ?_
        rotate_left
        · intro w hSw
          go_simp
          with_reducible rfl
        try simp only [Act.put, List.setIfInBounds_toArray, List.set_cons_zero, List.set_cons_succ]
        refine wpAnyH_done (by kernel_rfl) ?_ _
        clear hS3_ HS
        obtain ⟨W2, hW2⟩ : ∃ W, (Wd.alloc (.cells #[.int .i64 0, .int .i64 0, .int .i64 0, .int .i64 0, .int .u8 0] 34)) = W := ⟨_, rfl⟩
        have hb2 : W2.heap[R]? = some (.cells #[.int .i64 0, .int .i64 0, .int .i64 0, .int .i64 0, .int .u8 0] 34 (0, 0)) := by rw [← hW2]; exact (Below.heap_alloc _ _ _ (lt_heap HXD.out)).trans HXD.out
        have hn2 : W2.heap[Wd.heap.size]? = some (.cells #[.int .i64 0, .int .i64 0, .int .i64 0, .int .i64 0, .int .u8 0] 34 (0, 0)) := by rw [← hW2]; exact heap_alloc_new _ _
        have hB2 : Below w.heap.size w W2 := by rw [← hW2]; exact HB1.out.trans ((HBD2.out.alloc HBD2.out.size _).mono HB1.out.size)
        have HB2 := Hd.mk hB2
        have HX2 := Hd.mk hb2
        rw [hW2]
        try rw [HSD.out]
        rw [HSD.out] at hn2
        have q0 := cells_cell hb2 0
        have f0 := cells_free hb2 0
        have q1 := cells_cell hb2 1
        have f1 := cells_free hb2 1
        have q2 := cells_cell hb2 2
        have f2 := cells_free hb2 2
        have q3 := cells_cell hb2 3
        have f3 := cells_free hb2 3
        have q4 := cells_cell hb2 4
        have f4 := cells_free hb2 4
        simp only [List.getElem?_toArray, List.getElem?_cons_zero, List.getElem?_cons_succ] at q0 q1 q2 q3 q4
        have p0 := cells_cell hn2 0
        have p1 := cells_cell hn2 1
        have p2 := cells_cell hn2 2
        have p3 := cells_cell hn2 3
        have p4 := cells_cell hn2 4
        simp only [List.getElem?_toArray, List.getElem?_cons_zero, List.getElem?_cons_succ] at p0 p1 p2 p3 p4
        clear hW2 hb2 hn2 hB2
        go_wp2_with fail
        refine bodyPost_ret (results_cell_row2 Try.results29 _ _ R 34 #[.int .i64 0, .int .i64 0, .int .i64 0, .int .i64 0, .int .u8 0] (0, 0) _ rfl (set5 HX2.out _ _ _ _ _) Try.underlying34 rfl (by kernel_rfl)) rfl ?_
        exact ⟨rfl, below5 HB2.out (Nat.le_of_eq HR.out) _ _ _ _ _⟩
      | false =>
        have e1 : plcE st u k = 0 := e0
        have e2 : plcV st u k = z := by unfold plcV; rw [e1, if_pos rfl, Int.toNat_natCast, List.getElem?_eq_getElem hkl, hz]; rfl
        rw [e1, e2]
        obtain ⟨x0, x1, x2, x3, x4⟩ := z
        have hrun : ∀ W, Below W1.heap.size W1 W → (Instr.lookup 66 (.map (some mb)) (.int .i64 sz) true).run Try.prog W = .ok (.tuple #[.agg #[.int .i64 x0, .int .i64 x1, .int .i64 x2, .int .i64 x3, h8 x4], .bool true]) W := fun W hW => by
          rcases hlook W hW with ⟨hv, h⟩ | ⟨v, hv, h⟩
          · simp at hv
          · simp at hv
            subst hv
            exact h
        clear e0 e1 e2 hlook hl hm hkey hget hpl hpk hz hzm hkl hk hlo hsz hpa hmb
        have hS : ∀ W, Below W1.heap.size W1 W → W.cell? ⟨M, 2, none⟩ = some (.map (some mb)) ∧ W.cell? ⟨M, 3 + u, none⟩ = some (.slice (some ⟨bk, off, none⟩) n (y.pc u)) ∧ W.cell? ⟨bk, off + k, none⟩ = some (.int .i64 sz) ∧ (Instr.lookup 66 (.map (some mb)) (.int .i64 sz) true).run Try.prog W = .ok (.tuple #[.agg #[.int .i64 x0, .int .i64 x1, .int .i64 x2, .int .i64 x3, h8 x4], .bool true]) W ∧ Below W1.heap.size W1 W := fun W hW => ⟨(hW.cell (p := ⟨M, 2, none⟩) hMW).trans t2, (hW.cell (p := ⟨M, 3 + u, none⟩) hMW).trans tr, (hW.cell (p := ⟨bk, off + k, none⟩) hbl).trans hcell, hrun W hW, hW⟩
        have HS := Hd.mk hS
        clear hS hcell hrun hbl hMW
        go_enter Try.func29, Try.ntmps29
        go_upto_region 1 with fail
        rw [HW1.out]
        try rw [HR.out]
        go_wp2_with fail
        refine H.out.mono ?_
        rintro e w1 ⟨rfl, rfl⟩
        go_wp2_with fail
        refine (H2.out _).mono ?_
        rintro e w1 ⟨rfl, rfl⟩
        clear n256 hlo2 hn1
        go_wp2_with fail
        clear t2 tr
        refine wp_region_held_drew (S := fun W => W.cell? ⟨M, 2, none⟩ = some (.map (some mb)) ∧ W.cell? ⟨M, 3 + u, none⟩ = some (.slice (some ⟨bk, off, none⟩) n (y.pc u)) ∧ W.cell? ⟨bk, off + k, none⟩ = some (.int .i64 sz) ∧ (Instr.lookup 66 (.map (some mb)) (.int .i64 sz) true).run Try.prog W = .ok (.tuple #[.agg #[.int .i64 x0, .int .i64 x1, .int .i64 x2, .int .i64 x3, h8 x4], .bool true]) W ∧ Below W1.heap.size W1 W) (by kernel_rfl) (HS.out _ (Below.refl _ _).drew) (fun hS_ => ?_)
        try dsimp only at hS_
        refine takeW 0 ?_ rfl (by kernel_rfl) (by kernel_rfl) (by kernel_rfl) (fun _ _ _ h => h) (by rfl) ?_ hS_ ?_
        rotate_left
        · intro w hSw
          try dsimp only at hSw
          go_simp
          with_reducible rfl
        try simp only [Act.put, List.setIfInBounds_toArray, List.set_cons_zero, List.set_cons_succ]
        refine takeW 1 ?_ rfl (by kernel_rfl) (by kernel_rfl) (by kernel_rfl) (fun _ _ _ h => h) (by rfl) ?_ hS_ ?_
        rotate_left
        · intro w hSw
          try dsimp only at hSw
          go_simp
          with_reducible rfl
        try simp only [Act.put, List.setIfInBounds_toArray, List.set_cons_zero, List.set_cons_succ]
        refine takeW 2 ?_ rfl (by kernel_rfl) (by kernel_rfl) (by kernel_rfl) (fun _ _ _ h => h) (by rfl) ?_ hS_ ?_
        rotate_left
        · intro w hSw
          try dsimp only at hSw
          go_simp
          with_reducible rfl
        try simp only [Act.put, List.setIfInBounds_toArray, List.set_cons_zero, List.set_cons_succ]
        refine takeW 3 ?_ rfl (by kernel_rfl) (by kernel_rfl) (by kernel_rfl) (fun _ _ _ h => h) (by rfl) ?_ hS_ ?_
        rotate_left
        · intro w hSw
          try dsimp only at hSw
          go_simp
          with_reducible rfl
        try simp only [Act.put, List.setIfInBounds_toArray, List.set_cons_zero, List.set_cons_succ]
        refine takeW 4 ?_ rfl (by kernel_rfl) (by kernel_rfl) (by kernel_rfl) (fun _ _ _ h => h) (by rfl) ?_ hS_ ?_
        rotate_left
        · intro w hSw
          try dsimp only at hSw
          go_simp
          with_reducible rfl
        try simp only [Act.put, List.setIfInBounds_toArray, List.set_cons_zero, List.set_cons_succ]
        refine takeW 5 ?_ rfl (by kernel_rfl) (by kernel_rfl) (by kernel_rfl) (fun _ _ _ h => h) (by rfl) ?_ hS_ ?_
        rotate_left
        · intro w hSw
          try dsimp only at hSw
          go_simp
          with_reducible rfl
        try simp only [Act.put, List.setIfInBounds_toArray, List.set_cons_zero, List.set_cons_succ]
        refine takeW 6 ?_ rfl (by kernel_rfl) (by kernel_rfl) (by kernel_rfl) (fun _ _ _ h => h) (by rfl) ?_ hS_ ?_
        rotate_left
        · intro w hSw
          try dsimp only at hSw
          go_simp
          with_reducible rfl
        try simp only [Act.put, List.setIfInBounds_toArray, List.set_cons_zero, List.set_cons_succ]
        refine takeW 7 ?_ rfl (by kernel_rfl) (by kernel_rfl) (by kernel_rfl) (fun _ _ _ h => h) (by rfl) ?_ hS_ ?_
        rotate_left
        · intro w hSw
          try dsimp only at hSw
          go_simp
          with_reducible rfl
        try simp only [Act.put, List.setIfInBounds_toArray, List.set_cons_zero, List.set_cons_succ]
        refine takeW 8 ?_ rfl (by kernel_rfl) (by kernel_rfl) (by kernel_rfl) (fun _ _ _ h => h) (by rfl) ?_ hS_ ?_
        rotate_left
        · intro w hSw
          try dsimp only at hSw
          go_simp
          with_reducible rfl
        try simp only [Act.put, List.setIfInBounds_toArray, List.set_cons_zero, List.set_cons_succ]
        refine takeW 9 ?_ rfl (by kernel_rfl) (by kernel_rfl) (by kernel_rfl) (fun _ _ _ h => h) (by rfl) ?_ hS_ ?_
        rotate_left
        · intro w hSw
          try dsimp only at hSw
          go_simp
          with_reducible rfl
        try simp only [Act.put, List.setIfInBounds_toArray, List.set_cons_zero, List.set_cons_succ]
        refine takeW 10 ?_ rfl (by kernel_rfl) (by kernel_rfl) (by kernel_rfl) (fun _ _ _ h => h) (by rfl) ?_ hS_ ?_
        rotate_left
        · intro w hSw
          try dsimp only at hSw
          go_simp
          with_reducible rfl
        try simp only [Act.put, List.setIfInBounds_toArray, List.set_cons_zero, List.set_cons_succ]
        refine takeW 11 ?_ rfl (by kernel_rfl) (by kernel_rfl) (by kernel_rfl) (fun _ _ _ h => h) (by rfl) ?_ hS_ ?_
        rotate_left
        · intro w hSw
          try dsimp only at hSw
          go_simp
          with_reducible rfl
        try simp only [Act.put, List.setIfInBounds_toArray, List.set_cons_zero, List.set_cons_succ]
        refine takeW 12 ?_ rfl (by kernel_rfl) (by kernel_rfl) (by kernel_rfl) (fun _ _ _ h => h) (by rfl) ?_ hS_ ?_
        rotate_left
        · intro w hSw
          try dsimp only at hSw
          go_simp
          with_reducible rfl
        try simp only [Act.put, List.setIfInBounds_toArray, List.set_cons_zero, List.set_cons_succ]
        refine takeW 13 ?_ rfl (by kernel_rfl) (by kernel_rfl) (by kernel_rfl) (fun _ _ _ h => h) (by rfl) ?_ hS_ ?_
        rotate_left
        · intro w hSw
          try dsimp only at hSw
          go_simp
          with_reducible rfl
        try simp only [Act.put, List.setIfInBounds_toArray, List.set_cons_zero, List.set_cons_succ]
        refine takeW 14 ?_ rfl (by kernel_rfl) (by kernel_rfl) (by kernel_rfl) (fun _ _ _ h => h) (by rfl) ?_ hS_ ?_
        rotate_left
        · intro w hSw
          try dsimp only at hSw
          go_simp
          with_reducible rfl
        try simp only [Act.put, List.setIfInBounds_toArray, List.set_cons_zero, List.set_cons_succ]
        refine takeW 15 ?_ rfl (by kernel_rfl) (by kernel_rfl) (by kernel_rfl) (fun _ _ _ h => h) (by rfl) ?_ hS_ ?_
        rotate_left
        · intro w hSw
          try dsimp only at hSw
          go_simp
          with_reducible rfl
        try simp only [Act.put, List.setIfInBounds_toArray, List.set_cons_zero, List.set_cons_succ]
        refine takeW 16 ?_ rfl (by kernel_rfl) (by kernel_rfl) (by kernel_rfl) (fun _ _ _ h => h) (by rfl) ?_ hS_ ?_
        rotate_left
        · intro w hSw
          try dsimp only at hSw
          go_simp
          with_reducible rfl
        try simp only [Act.put, List.setIfInBounds_toArray, List.set_cons_zero, List.set_cons_succ]
        obtain ⟨Wd, hWd⟩ : ∃ W, W1.drew = W := ⟨_, rfl⟩
        have hBd : Below W1.heap.size W1 Wd := by rw [← hWd]; exact (Below.refl _ _).drew
        have hXd : Wd.heap[R]? = some (.cells #[.int .i64 0, .int .i64 0, .int .i64 0, .int .i64 0, .int .u8 0] 34 (0, 0)) := by rw [← hWd]; exact HX1.out
        have hSd : Wd.heap.size = R + 1 := by rw [← hWd]; exact HS1.out
        rw [hWd] at hS_ ⊢
        have HBD2 := Hd.mk hBd
        have HXD := Hd.mk hXd
        have HSD := Hd.mk hSd
        clear hWd hBd hXd hSd
        refine wpAnyH_ready (rs := [17]) (by kernel_rfl) (by simp) (readyL rfl (fun K hK => ?_) AllReadyH.nil)
        go_simp
        have hS2_ := HS.out _ (HBD2.out.alloc HBD2.out.size (.cells #[.int .i64 0, .int .i64 0, .int .i64 0, .int .i64 0, .int .u8 0] 34))
        refine hK.out _ _ hS2_ (fun _ => ?_)
        clear hK K hS_
        try simp only [Act.put, List.setIfInBounds_toArray, List.set_cons_zero, List.set_cons_succ]
        refine wpAnyH_ready (rs := [18]) (by kernel_rfl) (by simp) (readyL rfl (fun K hK => ?_) AllReadyH.nil)
        go_simp
        have hS3_ := HS.out _ (HBD2.out.alloc HBD2.out.size (.cells #[.int .i64 x0, .int .i64 x1, .int .i64 x2, .int .i64 x3, h8 x4] 34))
        refine hK.out _ _ hS3_ (fun _ => ?_)
        clear hK K hS2_
        try simp only [Act.put, List.setIfInBounds_toArray, List.set_cons_zero, List.set_cons_succ]
        refine takeW 19 ?_ rfl (by kernel_rfl) (by kernel_rfl) (by kernel_rfl) (fun _ _ _ h => h) (by rfl) ?_ hS3_ ?_
        rotate_left
        · intro w hSw
          go_simp
          with_reducible rfl
        try simp only [Act.put, List.setIfInBounds_toArray, List.set_cons_zero, List.set_cons_succ]
        refine wpAnyH_done (by kernel_rfl) ?_ _
        clear hS3_ HS
        obtain ⟨W2, hW2⟩ : ∃ W, (Wd.alloc (.cells #[.int .i64 x0, .int .i64 x1, .int .i64 x2, .int .i64 x3, h8 x4] 34)) = W := ⟨_, rfl⟩
        have hb2 : W2.heap[R]? = some (.cells #[.int .i64 0, .int .i64 0, .int .i64 0, .int .i64 0, .int .u8 0] 34 (0, 0)) := by rw [← hW2]; exact (Below.heap_alloc _ _ _ (lt_heap HXD.out)).trans HXD.out
        have hn2 : W2.heap[Wd.heap.size]? = some (.cells #[.int .i64 x0, .int .i64 x1, .int .i64 x2, .int .i64 x3, h8 x4] 34 (0, 0)) := by rw [← hW2]; exact heap_alloc_new _ _
        have hB2 : Below w.heap.size w W2 := by rw [← hW2]; exact HB1.out.trans ((HBD2.out.alloc HBD2.out.size _).mono HB1.out.size)
        have HB2 := Hd.mk hB2
        have HX2 := Hd.mk hb2
        rw [hW2]
        try rw [HSD.out]
        rw [HSD.out] at hn2
        have q0 := cells_cell hb2 0
        have f0 := cells_free hb2 0
        have q1 := cells_cell hb2 1
        have f1 := cells_free hb2 1
        have q2 := cells_cell hb2 2
        have f2 := cells_free hb2 2
        have q3 := cells_cell hb2 3
        have f3 := cells_free hb2 3
        have q4 := cells_cell hb2 4
        have f4 := cells_free hb2 4
        simp only [List.getElem?_toArray, List.getElem?_cons_zero, List.getElem?_cons_succ] at q0 q1 q2 q3 q4
        have p0 := cells_cell hn2 0
        have p1 := cells_cell hn2 1
        have p2 := cells_cell hn2 2
        have p3 := cells_cell hn2 3
        have p4 := cells_cell hn2 4
        simp only [List.getElem?_toArray, List.getElem?_cons_zero, List.getElem?_cons_succ] at p0 p1 p2 p3 p4
        clear hW2 hb2 hn2 hB2
        go_wp2_with fail
        refine bodyPost_ret (results_cell_row2 Try.results29 _ _ R 34 #[.int .i64 x0, .int .i64 x1, .int .i64 x2, .int .i64 x3, h8 x4] (0, 0) _ rfl (set5 HX2.out (.int .i64 x0) (.int .i64 x1) (.int .i64 x2) (.int .i64 x3) (h8 x4)) Try.underlying34 rfl (by kernel_rfl)) rfl ?_
        exact ⟨rfl, below5 HB2.out (Nat.le_of_eq HR.out) _ _ _ _ _⟩
end Go.Proofs.Ytinagiofolmhbaa
