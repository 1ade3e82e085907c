/- Tells. -/
import Derived.Test.YtnhkadknibinfaaR8
import Derived.Deep.RegionWith
import Derived.Deep.RegionHeld3
namespace Go.Proofs.Ytnhkadknibinfaa
open Go.RowKit
set_option linter.unusedVariables false
set_option linter.unusedSimpArgs false

/-- A row of one's own, its block in sight. -/
theorem own_cur {e base n c : Nat} {W : World} {a : Option Addr} {l : List Int} (h : AppI e W base (.slice a n c) l) (h0 : 0 < l.length) :
    ∃ g cur, a = some ⟨g, 0, none⟩ ∧ base ≤ g ∧ W.heap[g]? = some (.cells cur e (0, 0)) ∧ cur.size = c ∧ l.length ≤ c ∧ ∀ j (hj : j < l.length), cur[j]? = some (iv l[j]) := by
  obtain ⟨h1, h2⟩ := id h
  rcases h2 with ⟨hv, h3⟩ | ⟨g, cap, cur, hv, hg, hh, hc, hm, hs, ht⟩
  · omega
  · simp only [Value.slice.injEq] at hv
    obtain ⟨rfl, rfl, rfl⟩ := hv
    refine ⟨g, cur, rfl, hg, hh, by omega, hc, fun j hj => ?_⟩
    have := AppI.cell h j hj
    rw [cells_cell hh] at this
    exact this
theorem own_curD {e base n c : Nat} {W : World} {a : Option Addr} {l : List Ch} (h : OwnD W base e (.slice a n c) l) (h0 : 0 < l.length) :
    ∃ g cur, a = some ⟨g, 0, none⟩ ∧ base ≤ g ∧ W.heap[g]? = some (.cells cur e (0, 0)) ∧ ∀ j (hj : j < l.length) r, r < 4 → cur[j * 4 + r]? = some (chc l[j] r) := by
  have hs := h.src
  obtain ⟨h1, h2⟩ := id h
  rcases h2 with ⟨hv, h3⟩ | ⟨g, cap, cur, hv, hg, hh, hc, hm, hsz, ht⟩
  · omega
  · simp only [Value.slice.injEq] at hv
    obtain ⟨rfl, rfl, rfl⟩ := hv
    refine ⟨g, cur, rfl, hg, hh, fun j hj r hr => ?_⟩
    have e1 := flat4_get l j hj r hr
    rw [← ht, List.getElem?_take] at e1
    split at e1
    · simpa using e1
    · cases e1
/-- What is told, as the loop over it writes it over. -/
structure GotQ (w2 W : World) (g : Nat) (cur : Array Value) (l : List Ch) (k : Nat) : Prop where
  blk : W.heap[g]? = some (.cells cur 39 (0, 0))
  rest : ∀ j (hj : j < l.length), k ≤ j → ∀ r, r < 4 → cur[j * 4 + r]? = some (chc l[j] r)
  bel : Below w2.heap.size w2 W
  ge : w2.heap.size ≤ g
theorem GotQ.put {w2 W : World} {g : Nat} {cur : Array Value} {l : List Ch} {k : Nat} (h : GotQ w2 W g cur l k) (a b c d : Value) :
    ∃ cur', GotQ w2 ((((W.setCell ⟨g, k * 4, none⟩ a).setCell ⟨g, k * 4 + 1, none⟩ b).setCell ⟨g, k * 4 + 2, none⟩ c).setCell ⟨g, k * 4 + 3, none⟩ d) g cur' l (k + 1) := by
  have h1 := cells_set (o := k * 4) h.blk a
  have h2 := cells_set (o := k * 4 + 1) h1 b
  have h3 := cells_set (o := k * 4 + 2) h2 c
  have h4 := cells_set (o := k * 4 + 3) h3 d
  refine ⟨_, h4, fun j hj hk r hr => ?_, (((h.bel.setCell h.ge _).setCell h.ge _).setCell h.ge _).setCell h.ge _, h.ge⟩
  simp only [Array.getElem?_setIfInBounds]
  rw [if_neg (by omega), if_neg (by omega), if_neg (by omega), if_neg (by omega)]
  exact h.rest j hj (by omega) r hr
theorem GotQ.below {w2 W W' : World} {g : Nat} {cur : Array Value} {l : List Ch} {k : Nat} (h : GotQ w2 W g cur l k) (hB : Below W.heap.size W W') : GotQ w2 W' g cur l k :=
  ⟨(hB.block g (lt_of_heap h.blk)).trans h.blk, h.rest, h.bel.trans (hB.mono h.bel.size), h.ge⟩
/-- A row of ints, as a loop over it writes it over. -/
structure RowQ (w2 W : World) (e g : Nat) (cur : Array Value) (l : List Int) (k : Nat) : Prop where
  blk : W.heap[g]? = some (.cells cur e (0, 0))
  rest : ∀ j (hj : j < l.length), k ≤ j → cur[j]? = some (iv l[j])
  bel : Below w2.heap.size w2 W
  ge : w2.heap.size ≤ g
theorem RowQ.put {w2 W : World} {e g : Nat} {cur : Array Value} {l : List Int} {k : Nat} (h : RowQ w2 W e g cur l k) (a : Value) : ∃ cur', RowQ w2 (W.setCell ⟨g, k, none⟩ a) e g cur' l (k + 1) := by
  have h1 := cells_set (o := k) h.blk a
  refine ⟨_, h1, fun j hj hk => ?_, h.bel.setCell h.ge _, h.ge⟩
  rw [Array.getElem?_setIfInBounds, if_neg (by omega)]
  exact h.rest j hj (by omega)
theorem RowQ.below {w2 W W' : World} {e g : Nat} {cur : Array Value} {l : List Int} {k : Nat} (h : RowQ w2 W e g cur l k) (hB : Below W.heap.size W W') : RowQ w2 W' e g cur l k :=
  ⟨(hB.block g (lt_of_heap h.blk)).trans h.blk, h.rest, h.bel.trans (hB.mono h.bel.size), h.ge⟩

theorem takeN {P : Program} {md : Region.Mode} {ops : Array Oper} {Q : Exit → Act → World → Prop} {S : World → Prop} (i : Nat) {oi : Oper} {fuel : Nat} {listed : Array Bool} {a : Act} {w : World} (hi : ops.toList[i]? = some oi)
    (hs : Region.noSelect ops = true) (hf : Region.free md ops listed i = true) (hr : (Region.ready md ops listed).contains i = true)
    (hQ : ∀ c a w, Q (.panic c) (a.put oi.dst undef) w → Q (.panic c) a w) (hw : Region.wanted oi (yielded ops a.tmps) = false) (hS : S w)
    (h : wpAnyH P md ops Q S fuel (listed.setIfInBounds i true) (a.put oi.dst undef) w) : wpAnyH P md ops Q S (fuel + 1) listed a w :=
  wpAnyH_take (by rw [← Array.getElem?_toList]; exact hi) hs hf hr hQ (Or.inr ⟨hw, rfl⟩) hS h
/-- 'AllReadyH.cons', the operation read off the list. -/
theorem readyL {P : Program} {md : Region.Mode} {ops : Array Oper} {Q : Exit → Act → World → Prop} {S : World → Prop} {fuel : Nat} {listed : Array Bool} {a : Act} {w : World} {i : Nat} {o : Oper} {rs : List Nat} (ho : ops.toList[i]? = some o)
    (h : ∀ K' : Act → World → Prop, Shut (∀ a w, S w → (S w → wpAnyH P md ops Q S fuel (listed.setIfInBounds i true) a w) → K' a w) → if Region.wanted o (yielded ops a.tmps) = true then Oper.wp P o a w K' Q else K' (a.put o.dst undef) w)
    (hs : AllReadyH P md ops Q S fuel listed a w rs) : AllReadyH P md ops Q S fuel listed a w (i :: rs) :=
  AllReadyH.cons (by rw [← Array.getElem?_toList]; exact ho) h hs

set_option maxRecDepth 100000 in
set_option maxHeartbeats 2000000 in
theorem tells_any {y : Lay} {w : World} {M : Nat} {st : St} {pr : Nat → Prop} {v1 v2 : Value} (h : MemL y w noPr M st) (hr : RefAt pr w v1 v2 st) :
    Calls Try.prog 43 #[.pointer (some ⟨M, 0, none⟩), .agg #[v1, v2]] w fun e w' => e = .returned (.bool true) ∧ Below w.heap.size w w' := by
  obtain ⟨a1, cc1, h1, _⟩ := hr.now.shape
  obtain ⟨a2, cc2, h2, _⟩ := hr.marks.shape
  obtain ⟨N, hN⟩ : ∃ n, st.now.length = n := ⟨_, rfl⟩
  obtain ⟨nm, hnm⟩ : ∃ n, st.marks.length = n := ⟨_, rfl⟩
  rw [hN] at h1
  rw [hnm] at h2
  subst h1 h2
  obtain ⟨w1, hw1⟩ : ∃ W, w.alloc (.cells #[.slice a1 N cc1, .slice a2 nm cc2] 86) = W := ⟨_, rfl⟩
  have hB1 : Below w.heap.size w w1 := by rw [← hw1]; exact (Below.refl _ _).alloc (Nat.le_refl _) _
  have hb1 : w1.heap[w.heap.size]? = some (.cells #[.slice a1 N cc1, .slice a2 nm cc2] 86 (0, 0)) := by rw [← hw1]; exact heap_alloc_new _ _
  have hs1 : w1.heap.size = w.heap.size + 1 := by rw [← hw1]; simp
  obtain ⟨G, hG⟩ : ∃ g, w.heap.size = g := ⟨_, rfl⟩
  rw [hG] at hb1 hs1
  have b0 := cells_cell hb1 0
  have b1 := cells_cell hb1 1
  simp only [List.getElem?_toArray, List.getElem?_cons_zero, List.getElem?_cons_succ] at b0 b1
  have HM := Hd.mk h
  have HR := Hd.mk hr
  have HB1 := Hd.mk hB1
  have HX1 := Hd.mk hb1
  have HS1 : Hd (w1.heap.size = G + 1 ∧ w.heap.size = G) := ⟨hs1, hG⟩
  have HN := Hd.mk hN
  have HNM := Hd.mk hnm
  have n16 : N ≤ 16 := by rw [← hN]; exact h.ok.owners
  have HC1 := rchanges_any (hr.below hB1) h.ok
  clear h hr hB1 hb1 hs1 hN hnm
  go_enter Try.func43, Try.ntmps43
  go_wp2_with fail
  clear hw1 hG
  refine HC1.mono ?_
  rintro e w2 ⟨vw, rfl, hO2, hB2⟩
  obtain ⟨aw, cw, rfl⟩ := hO2.slice
  have HO2 := Hd.mk hO2
  have HB2 := Hd.mk hB2
  clear hO2 hB2 HC1 b0 b1
  go_wp2_with fail
  refine (changes_any (Ext.mem (HB1.out.trans (HB2.out.mono HB1.out.size)) HM.out)).mono ?_
  rintro e w3 ⟨vg, rfl, hO3, hB3⟩
  obtain ⟨ag, cg, rfl⟩ := hO3.slice
  obtain ⟨C, hC⟩ : ∃ C, changesV st = C := ⟨_, rfl⟩
  have hO2 := HO2.out
  rw [hC] at hO2 hO3 ⊢
  obtain ⟨q, hq⟩ : ∃ q, C.length = q := ⟨_, rfl⟩
  rw [hq] at hO2 hO3 ⊢
  have HQ := Hd.mk hq
  have HW := Hd.mk hO2
  have HG := Hd.mk hO3
  have HB3 := Hd.mk hB3
  have hb3 := (hB3.block G (by have := HB2.out.size; have := HS1.out; omega)).trans ((HB2.out.block G (by have := HS1.out; omega)).trans HX1.out)
  have b1 := cells_cell hb3 1
  simp only [List.getElem?_toArray, List.getElem?_cons_zero, List.getElem?_cons_succ] at b1
  have HMK := Hd.mk (marks_any (w := w3.drew) (Ext.mem ((HB1.out.trans (HB2.out.mono HB1.out.size)).trans (hB3.mono (by have := HB1.out.size; have := HB2.out.size; omega))).drew HM.out))
  have hmk := HMK.out
  rw [HNM.out] at hmk
  have HMK2 := Hd.mk hmk
  clear hO2 hO3 hB3 hC hq hb3 HO2 HMK hmk
  go_wp2_with fail
  refine wp_region_held_drew (S := fun W => W.cell? ⟨G, 1, none⟩ = some (.slice a2 nm cc2) ∧ W = w3.drew) (by kernel_rfl) (⟨b1, rfl⟩) (fun hS_ => ?_)
  try dsimp only at hS_
  refine takeW 0 ?_ rfl (by kernel_rfl) (by kernel_rfl) (by kernel_rfl) (fun _ _ _ h => h) (by rfl) ?_ hS_ ?_
  rotate_left
  · intro w hSw
    try dsimp only at hSw
    go_simp
    with_reducible rfl
  try simp only [Act.put, List.setIfInBounds_toArray, List.set_cons_zero, List.set_cons_succ]
  refine takeW 1 ?_ rfl (by kernel_rfl) (by kernel_rfl) (by kernel_rfl) (fun _ _ _ h => h) (by rfl) ?_ hS_ ?_
  rotate_left
  · intro w hSw
    try dsimp only at hSw
    go_simp
    with_reducible rfl
  try simp only [Act.put, List.setIfInBounds_toArray, List.set_cons_zero, List.set_cons_succ]
  refine takeW 2 ?_ rfl (by kernel_rfl) (by kernel_rfl) (by kernel_rfl) (fun _ _ _ h => h) (by rfl) ?_ hS_ ?_
  rotate_left
  · intro w hSw
    try dsimp only at hSw
    go_simp
    with_reducible rfl
  try simp only [Act.put, List.setIfInBounds_toArray, List.set_cons_zero, List.set_cons_succ]
  refine takeW 3 ?_ rfl (by kernel_rfl) (by kernel_rfl) (by kernel_rfl) (fun _ _ _ h => h) (by rfl) ?_ hS_ ?_
  rotate_left
  · intro w hSw
    try dsimp only at hSw
    go_simp
    with_reducible rfl
  try simp only [Act.put, List.setIfInBounds_toArray, List.set_cons_zero, List.set_cons_succ]
  refine takeW 4 ?_ rfl (by kernel_rfl) (by kernel_rfl) (by kernel_rfl) (fun _ _ _ h => h) (by rfl) ?_ hS_ ?_
  rotate_left
  · intro w hSw
    try dsimp only at hSw
    go_simp
    with_reducible rfl
  try simp only [Act.put, List.setIfInBounds_toArray, List.set_cons_zero, List.set_cons_succ]
  refine takeW 5 ?_ rfl (by kernel_rfl) (by kernel_rfl) (by kernel_rfl) (fun _ _ _ h => h) (by rfl) ?_ hS_ ?_
  rotate_left
  · intro w hSw
    try dsimp only at hSw
    go_simp
    with_reducible rfl
  try simp only [Act.put, List.setIfInBounds_toArray, List.set_cons_zero, List.set_cons_succ]
  refine takeW 6 ?_ rfl (by kernel_rfl) (by kernel_rfl) (by kernel_rfl) (fun _ _ _ h => h) (by rfl) ?_ hS_ ?_
  rotate_left
  · intro w hSw
    try dsimp only at hSw
    go_simp
    with_reducible rfl
  try simp only [Act.put, List.setIfInBounds_toArray, List.set_cons_zero, List.set_cons_succ]
  refine takeW 8 ?_ rfl (by kernel_rfl) (by kernel_rfl) (by kernel_rfl) (fun _ _ _ h => h) (by rfl) ?_ hS_ ?_
  rotate_left
  · intro w hSw
    try dsimp only at hSw
    go_simp
    with_reducible rfl
  try simp only [Act.put, List.setIfInBounds_toArray, List.set_cons_zero, List.set_cons_succ]
  refine takeW 9 ?_ rfl (by kernel_rfl) (by kernel_rfl) (by kernel_rfl) (fun _ _ _ h => h) (by rfl) ?_ hS_ ?_
  rotate_left
  · intro w hSw
    try dsimp only at hSw
    go_simp
    with_reducible rfl
  try simp only [Act.put, List.setIfInBounds_toArray, List.set_cons_zero, List.set_cons_succ]
  refine takeW 10 ?_ rfl (by kernel_rfl) (by kernel_rfl) (by kernel_rfl) (fun _ _ _ h => h) (by rfl) ?_ hS_ ?_
  rotate_left
  · intro w hSw
    try dsimp only at hSw
    go_simp
    with_reducible rfl
  try simp only [Act.put, List.setIfInBounds_toArray, List.set_cons_zero, List.set_cons_succ]
  refine wpAnyH_ready (rs := [7]) (by kernel_rfl) (by simp) (readyL rfl (fun K hK => ?_) AllReadyH.nil)
  go_simp
  refine HMK2.out.mono ?_
  rintro e wq ⟨rfl, rfl⟩
  have hS2_ : w3.drew.cell? ⟨G, 1, none⟩ = some (.slice a2 nm cc2) ∧ w3.drew = w3.drew := hS_
  refine hK.out _ _ hS2_ (fun _ => ?_)
  clear hK K hS_
  have hS_ := hS2_
  clear hS2_
  try simp only [Act.put, List.setIfInBounds_toArray, List.set_cons_zero, List.set_cons_succ]
  refine takeW 11 ?_ rfl (by kernel_rfl) (by kernel_rfl) (by kernel_rfl) (fun _ _ _ h => h) (by rfl) ?_ hS_ ?_
  rotate_left
  · intro w hSw
    try dsimp only at hSw
    go_simp
    with_reducible rfl
  try simp only [Act.put, List.setIfInBounds_toArray, List.set_cons_zero, List.set_cons_succ]
  refine takeW 12 ?_ rfl (by kernel_rfl) (by kernel_rfl) (by kernel_rfl) (fun _ _ _ h => h) (by rfl) ?_ hS_ ?_
  rotate_left
  · intro w hSw
    try dsimp only at hSw
    go_simp
    with_reducible rfl
  try simp only [Act.put, List.setIfInBounds_toArray, List.set_cons_zero, List.set_cons_succ]
  refine wpAnyH_done (by kernel_rfl) ?_ _
  go_wp2_with fail
  obtain ⟨w4, hw4⟩ : ∃ W, w3.drew = W := ⟨_, rfl⟩
  have hB4 : Below w2.heap.size w2 w4 := by rw [← hw4]; exact HB3.out.drew
  have hG4 : OwnD w4 w2.heap.size 39 (.slice ag q cg) C := by rw [← hw4]; exact OwnD.same HG.out (fun _ _ => rfl)
  have HG4 : Hd (0 < q → ∃ g cur, ag = some ⟨g, 0, none⟩ ∧ GotQ w2 w4 g cur C 0) := ⟨fun h0 => by
    obtain ⟨g, cur, e1, e2, e3, e4⟩ := own_curD hG4 (by rw [HQ.out]; exact h0)
    exact ⟨g, cur, e1, e3, fun j hj _ r hr => e4 j hj r hr, hB4, e2⟩⟩
  have HB4 := Hd.mk hB4
  have hqs : q ≤ 9223372036854775807 := by rw [← HQ.out]; exact HW.out.src.small
  rw [hw4]
  clear hw4 hB4 hG4 b1 HMK2 HG HB3 hS_
  go_loopw [38] (fun i W => ∃ k : Nat, k ≤ q ∧ i = .int .i64 k ∧ Hd (Below w2.heap.size w2 W) ∧ Hd (k < q → ∃ g cur, ag = some ⟨g, 0, none⟩ ∧ GotQ w2 W g cur C k)) (fun i _ => q - (intOf i).toNat)
  case atStart => exact ⟨0, by omega, rfl, HB4, HG4⟩
  case round =>
    obtain ⟨k, hk, rfl, HBW, HGW⟩ := hrel
    have HK := Hd.mk hk
    by_cases hlt : k < q
    · obtain ⟨g, cur, rfl, hgq⟩ := HGW.out hlt
      have hkc : k < C.length := by rw [HQ.out]; exact hlt
      obtain ⟨d, hd⟩ : ∃ d, C[k] = d := ⟨_, rfl⟩
      have hx := hgq.rest k hkc (Nat.le_refl _)
      obtain ⟨bw, ow, rfl, hbw, y0, y1, y2, y3⟩ := (OwnD.below HW.out HBW.out).src.at k hkc
      rw [hd] at hx y0 y1 y2 y3
      have x0 := (cells_cell hgq.blk (k * 4)).trans (hx 0 (by omega))
      have x1 := (cells_cell hgq.blk (k * 4 + 1)).trans (hx 1 (by omega))
      have x2 := (cells_cell hgq.blk (k * 4 + 2)).trans (hx 2 (by omega))
      have x3 := (cells_cell hgq.blk (k * 4 + 3)).trans (hx 3 (by omega))
      have f0 := cells_free hgq.blk (k * 4)
      have f1 := cells_free hgq.blk (k * 4 + 1)
      have f2 := cells_free hgq.blk (k * 4 + 2)
      have f3 := cells_free hgq.blk (k * 4 + 3)
      have hnev := fun W => nev_ch102 d d W
      rw [show eqC d d = true by rw [eqC_eq]; exact decide_eq_true rfl] at hnev
      obtain ⟨d1, d2, d3, d4⟩ := d
      simp only [chc, chV, Bool.not_true] at x0 x1 x2 x3 y0 y1 y2 y3 hnev
      have hgd := guard102
      have lg : g < wr.heap.size := lt_of_heap hgq.blk
      have k0 : (0 : Int) ≤ (k : Int) := by omega
      have k1 : (k : Int) < (q : Int) := by omega
      have k2 : (k : Int) + 1 ≤ 9223372036854775807 := by omega
      have HGQ := Hd.mk hgq
      have HLT := Hd.mk hlt
      have hxb := heap_alloc_new wr (.cells #[.int .i64 d1, .int .i64 d2, .int .i64 d3, .int .i64 d4] 39)
      have z0 := cells_cell hxb 0
      have z1 := cells_cell hxb 1
      have z2 := cells_cell hxb 2
      have z3 := cells_cell hxb 3
      simp only [List.getElem?_toArray, List.getElem?_cons_zero, List.getElem?_cons_succ] at z0 z1 z2 z3
      have hwg : bw ≠ wr.heap.size := by omega
      clear hgq hkc hd hx hxb hlt hk
      go_wp2_with fail
      go_quiet (fail)
      obtain ⟨wx, hwx⟩ : ∃ W, ((wr.alloc (.cells #[.int .i64 d1, .int .i64 d2, .int .i64 d3, .int .i64 d4] 39)).drewN nq) = W := ⟨_, rfl⟩
      have hBX : Below wr.heap.size wr wx := by rw [← hwx]; exact below_drewN ((Below.refl _ _).alloc (Nat.le_refl _) _) _
      have hgx := HGQ.out.below hBX
      have X0 := cells_cell hgx.blk (k * 4)
      have X1 := cells_cell hgx.blk (k * 4 + 1)
      have X2 := cells_cell hgx.blk (k * 4 + 2)
      have X3 := cells_cell hgx.blk (k * 4 + 3)
      rw [← cells_cell HGQ.out.blk (k * 4), x0] at X0
      rw [← cells_cell HGQ.out.blk (k * 4 + 1), x1] at X1
      rw [← cells_cell HGQ.out.blk (k * 4 + 2), x2] at X2
      rw [← cells_cell HGQ.out.blk (k * 4 + 3), x3] at X3
      have F0 := cells_free hgx.blk (k * 4)
      have F1 := cells_free hgx.blk (k * 4 + 1)
      have F2 := cells_free hgx.blk (k * 4 + 2)
      have F3 := cells_free hgx.blk (k * 4 + 3)
      obtain ⟨cur2, hput⟩ := hgx.put (.int .i64 (-7)) (.int .i64 0) (.int .i64 0) (.int .i64 0)
      have HPUT := Hd.mk hput
      rw [hwx]
      clear hwx hBX hgx hput x0 x1 x2 x3 f0 f1 f2 f3 y0 y1 y2 y3 z0 z1 z2 z3 hnev hgd
      go_wp2_with fail
      go_roundw
      case rel => exact ⟨k + 1, by have := HLT.out; omega, by go_num, ⟨HPUT.out.bel⟩, ⟨fun _ => ⟨g, cur2, rfl, HPUT.out⟩⟩⟩
      case measure => have := HLT.out; simp [intOf]; omega
    · obtain rfl : k = q := by omega
      rename World => w5
      have hB5 : Below w1.heap.size w1 w5 := HB2.out.trans (HBW.out.mono HB2.out.size)
      have HB5 := Hd.mk hB5
      have hM5 : MemL y w5 noPr M st := Ext.mem (HB1.out.trans (hB5.mono HB1.out.size)) HM.out
      have HM5 := Hd.mk hM5
      have hR5 : RefAt pr w5 (.slice a1 N cc1) (.slice a2 nm cc2) st := HR.out.below (HB1.out.trans (hB5.mono HB1.out.size))
      have HR5 := Hd.mk hR5
      have hG5 := (hB5.block G (by have := HS1.out; omega)).trans HX1.out
      have HX5 := Hd.mk hG5
      clear hB5 hM5 hR5 hG5 hlt HGW HK
      go_wp2_with fail
      have b0 := cells_cell HX5.out 0
      simp only [List.getElem?_toArray, List.getElem?_cons_zero, List.getElem?_cons_succ] at b0
      refine (plan_any HM5.out).mono ?_
      rintro e w6 ⟨vp, rfl, hO6, hB6⟩
      obtain ⟨ap, cp, rfl⟩ := hO6.src.shape
      have hpl : (planI st.now).length = N := by rw [← HN.out]; simp [planI]
      rw [hpl] at hO6 ⊢
      have HP := Hd.mk hO6
      have HPL := Hd.mk hpl
      have HB6 := Hd.mk hB6
      have hG6 := (hB6.block G (lt_of_heap HX5.out)).trans HX5.out
      have HX6 := Hd.mk hG6
      have c0 := cells_cell hG6 0
      simp only [List.getElem?_toArray, List.getElem?_cons_zero, List.getElem?_cons_succ] at c0
      clear hO6 hpl hB6 hG6 b0
      go_wp2_with fail
      have HG6 : Hd (0 < N → ∃ g cur, ap = some ⟨g, 0, none⟩ ∧ RowQ w5 w6 3 g cur (planI st.now) 0) := ⟨fun h0 => by
        obtain ⟨g, cur, e1, e2, e3, _, _, e4⟩ := own_cur HP.out (by rw [HPL.out]; exact h0)
        exact ⟨g, cur, e1, e3, fun j hj _ => e4 j hj, HB6.out, e2⟩⟩
      clear HP c0
      go_loopw [64] (fun i W => ∃ j : Nat, j ≤ N ∧ i = .int .i64 j ∧ Hd (Below w5.heap.size w5 W) ∧ Hd (j < N → ∃ g cur, ap = some ⟨g, 0, none⟩ ∧ RowQ w5 W 3 g cur (planI st.now) j)) (fun i _ => N - (intOf i).toNat)
      case atStart => exact ⟨0, by omega, rfl, HB6, HG6⟩
      case round =>
        obtain ⟨j, hj, rfl, HBW2, HGW2⟩ := hrel
        clear HG6
        rename World => wo
        by_cases hlt : j < N
        · obtain ⟨g, cur, rfl, hgq⟩ := HGW2.out hlt
          have hjn : j < st.now.length := by rw [HN.out]; exact hlt
          have hx := hgq.rest j (by rw [HPL.out]; exact hlt) (Nat.le_refl _)
          have hmem := HM5.out.ok.cells _ (List.getElem_mem hjn)
          have hA := all_ok (Ext.mem HBW2.out HM5.out) j hjn
          obtain ⟨br, off, vk, rfl, _, hbr, hck, hrow⟩ := ((HR5.out.below HBW2.out).now).at j hjn
          obtain ⟨L, hL⟩ : ∃ L, st.now[j] = L := ⟨_, rfl⟩
          have e : (planI st.now)[j]'(by rw [HPL.out]; exact hlt) = (L.length : Int) := by rw [← hL]; simp [planI]
          rw [hL] at hA hrow hmem
          rw [e] at hx
          obtain ⟨ar, cr, rfl, _⟩ := hrow.shape
          obtain ⟨m, hm⟩ : ∃ m, L.length = m := ⟨_, rfl⟩
          rw [hm] at hx hrow hmem hck
          have x0 := (cells_cell hgq.blk j).trans hx
          simp only [iv] at x0
          have HX := Hd.mk hx
          have HGQ := Hd.mk hgq
          have HA := Hd.mk hA
          have HROW := Hd.mk hrow
          have HCK := Hd.mk hck
          have HLM := Hd.mk hm
          have HLT := Hd.mk hlt
          have hGo := (HBW2.out.block G (lt_of_heap HX5.out)).trans HX5.out
          have HGO := Hd.mk hGo
          have hGl : G < wo.heap.size := lt_of_heap hGo
          have j0 : (0 : Int) ≤ (j : Int) := by omega
          have j1 : (j : Int) < (N : Int) := by omega
          have j2 : (j : Int) + 1 ≤ 9223372036854775807 := by omega
          clear hx hgq hA hrow hck hL hm e hlt hjn hGo hj HGW2
          go_wp2_with fail
          refine HA.out.mono ?_
          rintro e w7 ⟨v7, rfl, hO7, hB7⟩
          obtain ⟨a7, c7, rfl⟩ := hO7.src.shape
          rw [HLM.out] at hO7 ⊢
          have HO7 := Hd.mk hO7
          have HB7 := Hd.mk hB7
          have c0 : w7.cell? ⟨G, 0, none⟩ = some (.slice (some ⟨br, off, none⟩) N cc1) := cells_cell ((hB7.block G hGl).trans HGO.out) 0
          have c1 : w7.cell? ⟨br, off + j, none⟩ = some (.slice ar m cr) := (hB7.cell (p := ⟨br, off + j, none⟩) hbr).trans HCK.out
          have HJ2 := Hd.mk j2
          have HMM := Hd.mk hmem
          have HQS := Hd.mk hqs
          clear hO7 hB7 HA x0 j2 hmem hqs
          go_wp2_with fail
          refine (equal_at28 (l := L) (m := L) (b := true) (by simp) HO7.out.src (PRow.src (HROW.out.below HB7.out))).mono ?_
          rintro e wq ⟨rfl, hBq⟩
          have HBQ := Hd.mk (HB7.out.trans (hBq.mono HB7.out.size))
          have hOq := AppI.below HO7.out hBq
          have HG8 : Hd (0 < m → ∃ g cur, a7 = some ⟨g, 0, none⟩ ∧ RowQ wo wq 2 g cur L 0) := ⟨fun h0 => by
            obtain ⟨g, cur, e1, e2, e3, _, _, e4⟩ := own_cur hOq (by rw [HLM.out]; exact h0)
            exact ⟨g, cur, e1, e3, fun j hj _ => e4 j hj, HBQ.out, e2⟩⟩
          clear hOq hBq HO7 c0 c1
          go_wp2_with fail
          go_loopw [100] (fun i W => ∃ r : Nat, r ≤ m ∧ i = .int .i64 r ∧ Hd (Below wo.heap.size wo W) ∧ Hd (r < m → ∃ g cur, a7 = some ⟨g, 0, none⟩ ∧ RowQ wo W 2 g cur L r)) (fun i _ => m - (intOf i).toNat)
          case atStart => exact ⟨0, by omega, rfl, HBQ, HG8⟩
          case round =>
            obtain ⟨r, hr, rfl, HBW3, HGW3⟩ := hrel
            clear HG8
            by_cases hrt : r < m
            · obtain ⟨g2, cur2, rfl, hgq2⟩ := HGW3.out hrt
              obtain ⟨xv, x0⟩ : ∃ v, wr.cell? ⟨g2, r, none⟩ = some v := ⟨_, (cells_cell hgq2.blk r).trans (hgq2.rest r (by rw [HLM.out]; exact hrt) (Nat.le_refl _))⟩
              have f0 := cells_free hgq2.blk r
              obtain ⟨cur3, hput⟩ := hgq2.put (.int .i64 (-77))
              have HPUT := Hd.mk hput
              have HRT := Hd.mk hrt
              have r0 : (0 : Int) ≤ (r : Int) := by omega
              have r1 : (r : Int) < (m : Int) := by omega
              have r2 : (r : Int) + 1 ≤ 9223372036854775807 := by have := HMM.out; omega
              clear hgq2 hput hrt hr HGW3
              go_wp2_with fail
              go_roundw
              case rel => exact ⟨r + 1, by have := HRT.out; omega, by go_num, ⟨HPUT.out.bel⟩, ⟨fun _ => ⟨g2, cur3, rfl, HPUT.out⟩⟩⟩
              case measure => have := HRT.out; simp [intOf]; omega
            · obtain rfl : r = m := by omega
              rename World => w8
              have hg8 := HGQ.out.below HBW3.out
              have x0 := (cells_cell hg8.blk j).trans HX.out
              have f0 := cells_free hg8.blk j
              have j2 := HJ2.out
              obtain ⟨cur4, hput⟩ := hg8.put (.int .i64 (-7))
              have HPUT := Hd.mk hput
              clear hrt hr HGW3 hg8 hput
              go_wp2_with fail
              go_roundw
              case rel => exact ⟨j + 1, by have := HLT.out; omega, by go_num, ⟨HPUT.out.bel⟩, ⟨fun _ => ⟨g, cur4, rfl, HPUT.out⟩⟩⟩
              case measure => have := HLT.out; simp [intOf]; omega
        · obtain rfl : j = N := by omega
          have HO1 := Hd.mk (fun (w' : World) (h : Below wo.heap.size wo w') => all_bad (Ext.mem (HBW2.out.trans (h.mono HBW2.out.size)) HM5.out) ((j : Int) + 1) (.inr (by rw [HN.out]; omega)))
          have HO2 := Hd.mk (fun (w' : World) (h : Below wo.heap.size wo w') => all_bad (Ext.mem (HBW2.out.trans (h.mono HBW2.out.size)) HM5.out) 0 (.inl (by omega)))
          have j2 : (j : Int) + 1 ≤ 9223372036854775807 := by omega
          clear hlt HGW2
          go_wp2_with fail
          refine (HO1.out _ (Below.refl _ _)).mono ?_
          rintro e w9 ⟨v9, rfl, hO9, hB9⟩
          have HB9 := Hd.mk hB9
          clear hO9 hB9 HO1
          go_wp2_with fail
          refine (HO2.out _ HB9.out).mono ?_
          rintro e w10 ⟨v10, rfl, hO10, hB10⟩
          have HB10 := Hd.mk hB10
          clear hO10 hB10 HO2
          go_wp2_with fail
          go_ret
          exact ⟨rfl, HB1.out.trans ((HB5.out.trans ((HBW2.out.trans ((HB9.out.trans (HB10.out.mono HB9.out.size)).mono HBW2.out.size)).mono HB5.out.size)).mono HB1.out.size)⟩
end Go.Proofs.Ytnhkadknibinfaa
