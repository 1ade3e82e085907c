/- Below, Revoke. -/
import Derived.Test.YtinagiofolmhbaaB4
import Derived.Sort.OwnSortedInts
namespace Go.Proofs.Ytinagiofolmhbaa
open Go.RowKit
set_option linter.unusedVariables false
set_option linter.unusedSimpArgs false

open Go.Sort in
theorem sort_app {w : World} {base : Nat} {v : Value} {l r : List Int} (h : AppI w base v l) (hr : r.Pairwise (· ≤ ·)) (hp : l.Perm r) (hl : l.length ≤ 100000) :
    Calls Try.prog 49 #[v] w fun e w' => (∃ x, e = .returned x) ∧ AppI w' base v r ∧ w.grownBy w' v.ownBlock := by
  have hlen : r.length = l.length := hp.length_eq.symm
  rcases Nat.eq_zero_or_pos l.length with h0 | h0
  · have hl0 : l = [] := List.length_eq_zero_iff.1 h0
    subst hl0
    have hr0 : r = [] := by simpa using hp
    subst hr0
    rcases OwnI.of h with ⟨rfl, _⟩ | ⟨g, cap, rfl, h'⟩
    · refine (Try.slices_Sort_int_none none 0 w).mono ?_
      rintro e w' ⟨rfl, rfl⟩
      exact ⟨⟨_, rfl⟩, h, grown_refl _ _⟩
    · refine (Try.slices_Sort_int_none (some ⟨g, 0, none⟩) cap w).mono ?_
      rintro e w' ⟨rfl, rfl⟩
      exact ⟨⟨_, rfl⟩, h, grown_refl _ _⟩
  · obtain ⟨g, cap, rfl, _⟩ := (OwnI.of h).row h0
    obtain ⟨hH, hlt, hbg, h1, h2⟩ := holds_own (OwnI.of h) h0
    rcases h.2 with ⟨_, h3⟩ | ⟨g2, cap2, cur, hv, hg, hh, hc, hm, hs, ht⟩
    · omega
    simp only [Value.slice.injEq, Option.some.injEq, Addr.mk.injEq] at hv
    obtain ⟨⟨rfl, _⟩, _, rfl⟩ := hv
    refine (Try.slices_Sort_int g 0 cap l w hH hlt (by omega)).mono ?_
    rintro e w' ⟨rfl, n, os, rfl⟩
    have hs2 : (l.mergeSort fun x y => decide (x ≤ y)) = r := by
      refine List.Perm.eq_of_pairwise (le := fun a b : Int => a ≤ b) ?_ ?_ ?_ ((List.mergeSort_perm _ _).trans hp)
      · intro a b _ _ h1 h2; omega
      · have := List.pairwise_mergeSort (le := fun x y : Int => decide (x ≤ y)) (by intro a b c; simp; omega) (by intro a b; simp; omega) l
        exact this.imp (by intro a b h; simpa using h)
      · exact hr
    rw [hs2]
    refine ⟨⟨_, rfl⟩, ?_, grownBy_sortedI _⟩
    have := ownsRow_sortedI (w := w) (base := base) (g := g) (cap := cap) (n := n) (e := 3) (os := os) (cur := cur) (ss := l) (ts := r) hlen hg hh hc hm hs
    unfold AppI OwnE
    rw [hlen]
    exact this
set_option maxRecDepth 100000 in
set_option maxHeartbeats 2000000 in
theorem below_any {y : Lay} {w : World} {pr : Nat → Prop} {M : Nat} {st : St} (h : TabL y w pr M st) (s : Int) (hs : -9223372036854775808 ≤ s ∧ s ≤ 9223372036854775807) :
    Calls Try.prog 27 #[.pointer (some ⟨M, 0, none⟩), .int .i64 s] w fun e w' => ∃ v, e = .returned (.tuple #[v, .int .i64 (getE st s)]) ∧ AppI w' w.heap.size v (belowS st s) ∧ Below w.heap.size w w' := by
  have HT := Hd.mk h
  obtain ⟨ge, hge⟩ : ∃ e, getE st s = e := ⟨_, rfl⟩
  have hge01 : ge = 0 ∨ ge = 6 := by rw [← hge]; unfold getE; split <;> simp
  have HGE := Hd.mk hge
  obtain ⟨W1, hW1⟩ : ∃ W, w.alloc (.cells #[.pointer (some ⟨M, 0, none⟩)] 24) = W := ⟨_, rfl⟩
  have hB1 : Below w.heap.size w W1 := by rw [← hW1]; exact (Below.refl _ _).alloc (Nat.le_refl _) _
  have hb1 : W1.heap[w.heap.size]? = some (.cells #[.pointer (some ⟨M, 0, none⟩)] 24 (0, 0)) := by rw [← hW1]; exact heap_alloc_new _ _
  obtain ⟨BT, hBT⟩ : ∃ r, w.heap.size = r := ⟨_, rfl⟩
  rw [hBT] at hb1
  have hs1 : W1.heap.size = BT + 1 := by rw [← hW1, ← hBT]; simp
  have q0 := (cells_cell hb1 0).trans (show _ = some (.pointer (some ⟨M, 0, none⟩)) from rfl)
  have hget := get_any (h.below hB1) s hs
  obtain ⟨⟨x0, x1, x2, x3, x4⟩, hx⟩ : ∃ x, getV st s = x := ⟨_, rfl⟩
  rw [hge, hx] at hget
  have HGET : Hd (Calls Try.prog 26 #[.pointer (some ⟨M, 0, none⟩), .int .i64 s] W1 fun e w' => e = .returned (.tuple #[.agg #[.int .i64 x0, .int .i64 x1, .int .i64 x2, .int .i64 x3, h8 x4], .int .i64 ge]) ∧ Below W1.heap.size W1 w') := ⟨hget⟩
  have HB1 := Hd.mk hB1
  have HX1 := Hd.mk hb1
  have HBT := Hd.mk hBT
  have HS1 := Hd.mk hs1
  have HW1 := Hd.mk hW1
  have HWS := Hd.mk hs
  clear h hge hW1 hB1 hb1 hBT hs1 hget hx hs
  rcases hge01 with rfl | rfl
  rotate_left
  · have e1 : belowS st s = [] := by unfold belowS; rw [HGE.out]; rfl
    rw [e1, HGE.out]
    clear e1
    go_enter Try.func27, Try.ntmps27
    go_upto_region 1 with fail
    rw [HW1.out]
    try rw [HBT.out]
    go_wp2_with fail
    refine HGET.out.mono ?_
    rintro e w2 ⟨rfl, hB⟩
    have HB := Hd.mk ((HB1.out.trans (hB.mono HB1.out.size)).alloc (Nat.le_trans HB1.out.size hB.size) (.cells #[.int .i64 x0, .int .i64 x1, .int .i64 x2, .int .i64 x3, h8 x4] 34))
    clear hB q0
    go_wp2_with fail
    refine bodyPost_ret (results_tmp2 Try.results27 _ _ _) rfl ?_
    exact ⟨_, rfl, OwnE.nil _ _ _ _, HB.out⟩
  · have e1 : belowS st s = belowL (liveS st) s := by unfold belowS; rw [if_pos HGE.out]
    obtain ⟨htop, _, _⟩ := getV_mem HGE.out
    have HTOP := Hd.mk htop
    rw [e1, HGE.out]
    clear e1 htop
    obtain ⟨L, hm, hl, hlen, hm1, hm2⟩ := HT.out.mlen
    obtain ⟨mb, hmb⟩ : ∃ b, y.mb = b := ⟨_, rfl⟩
    rw [hmb] at hm
    have HMB := Hd.mk hmb
    have HM := Hd.mk hm
    have HLM := Hd.mk (And.intro hm1 hm2)
    clear hm hl hlen hm1 hm2 hmb
    go_enter Try.func27, Try.ntmps27
    go_upto_region 1 with fail
    rw [HW1.out]
    try rw [HBT.out]
    go_wp2_with fail
    refine HGET.out.mono ?_
    rintro e w2 ⟨rfl, hB2⟩
    clear q0
    obtain ⟨W3, hW3⟩ : ∃ W, ((w2.alloc (.cells #[.int .i64 x0, .int .i64 x1, .int .i64 x2, .int .i64 x3, h8 x4] 34)).alloc (.cells #[.slice none 0 0] 30)).alloc (.cells #[.nilFunc] 84) = W := ⟨_, rfl⟩
    have hs3 : W3.heap.size = w2.heap.size + 3 := by rw [← hW3]; simp
    have hB3 : Below w2.heap.size w2 W3 := by
      rw [← hW3]
      exact (((Below.refl _ _).alloc (Nat.le_refl _) _).alloc (by simp) _).alloc (by simp; omega) _
    have hG3 : W3.heap[w2.heap.size + 1]? = some (.cells #[.slice none 0 0] 30 (0, 0)) := by
      rw [← hW3]
      have := heap_alloc_new (w2.alloc (.cells #[.int .i64 x0, .int .i64 x1, .int .i64 x2, .int .i64 x3, h8 x4] 34)) (.cells #[.slice none 0 0] 30)
      rw [show (w2.alloc (.cells #[.int .i64 x0, .int .i64 x1, .int .i64 x2, .int .i64 x3, h8 x4] 34)).heap.size = w2.heap.size + 1 from by simp] at this
      exact (Below.heap_alloc _ _ _ (lt_heap this)).trans this
    have hF3 : W3.heap[w2.heap.size + 2]? = some (.cells #[.nilFunc] 84 (0, 0)) := by
      rw [← hW3]
      have := heap_alloc_new ((w2.alloc (.cells #[.int .i64 x0, .int .i64 x1, .int .i64 x2, .int .i64 x3, h8 x4] 34)).alloc (.cells #[.slice none 0 0] 30)) (.cells #[.nilFunc] 84)
      rw [show ((w2.alloc (.cells #[.int .i64 x0, .int .i64 x1, .int .i64 x2, .int .i64 x3, h8 x4] 34)).alloc (.cells #[.slice none 0 0] 30)).heap.size = w2.heap.size + 2 from by simp] at this
      exact this
    obtain ⟨H2, hH2⟩ : ∃ r, w2.heap.size = r := ⟨_, rfl⟩
    have hge2 := hB2.size
    rw [hH2] at hs3 hG3 hF3 hge2
    rw [HS1.out] at hge2
    have hBa : Below w.heap.size w W3 := (HB1.out.trans (hB2.mono HB1.out.size)).trans (hB3.mono (Nat.le_trans HB1.out.size hB2.size))
    have hbt3 := (hB3.block BT (by omega)).trans ((hB2.block BT (lt_heap HX1.out)).trans HX1.out)
    obtain ⟨W4, hW4⟩ : ∃ W, W3.setCell ⟨H2 + 2, 0, none⟩ (.func (.func 48) #[] #[.pointer (some ⟨H2 + 1, 0, none⟩), .pointer (some ⟨BT, 0, none⟩), .pointer (some ⟨H2 + 2, 0, none⟩)]) = W := ⟨_, rfl⟩
    have hF4 : W4.heap[H2 + 2]? = some (.cells #[.func (.func 48) #[] #[.pointer (some ⟨H2 + 1, 0, none⟩), .pointer (some ⟨BT, 0, none⟩), .pointer (some ⟨H2 + 2, 0, none⟩)]] 84 (0, 0)) := by rw [← hW4]; exact cells_set (o := 0) hF3 _
    have ho4 : ∀ k, k ≠ H2 + 2 → W4.heap[k]? = W3.heap[k]? := fun k hk => by rw [← hW4]; exact setCell_other hk
    have hB4 : Below w.heap.size w W4 := by rw [← hW4]; exact hBa.setCell (p := ⟨H2 + 2, 0, none⟩) (show w.heap.size ≤ H2 + 2 by have := HBT.out; omega) _
    have HQ : Hd (WkQ w (liveS st) M (H2 + 1) BT (H2 + 2) [] W4) := ⟨hB4, (ho4 BT (by omega)).trans hbt3, hF4, ⟨none, 0, (ho4 _ (by omega)).trans hG3, OwnE.nil _ _ _ _⟩, by have := HBT.out; omega, by simp, by simp⟩
    have HH2 := Hd.mk hH2
    have HWK := Hd.mk (walk_any HT (G := H2 + 1) (BT := BT) (BW := H2 + 2) (by omega) HMB HM HLM _ s [] W4 (Nat.lt_succ_self _) ⟨_, HTOP.out⟩ (by simp) HQ.out)
    have c3 := (cells_cell hF3 0).trans (show _ = some .nilFunc from rfl)
    have f3 := cells_free hF3 0
    have c4 := (cells_cell hF4 0).trans (show _ = some (.func (.func 48) #[] #[.pointer (some ⟨H2 + 1, 0, none⟩), .pointer (some ⟨BT, 0, none⟩), .pointer (some ⟨H2 + 2, 0, none⟩)]) from rfl)
    have HF4 := Hd.mk hF4
    have HW3 := Hd.mk hW3
    have HW4 := Hd.mk hW4
    clear hB2 hs3 hB3 hG3 hF3 hge2 hBa hbt3 hF4 ho4 hB4 HQ HTOP HLM hW3 hW4 c4
    go_upto_region 6 with fail
    try rw [HW3.out]
    try rw [HH2.out]
    rw [show H2 + 1 + 1 = H2 + 2 from rfl]
    have hW4 := HW4.out
    have c4 := (cells_cell (show W4.heap[H2 + 2]? = some (.cells #[.func (.func 48) #[] #[.pointer (some ⟨H2 + 1, 0, none⟩), .pointer (some ⟨BT, 0, none⟩), .pointer (some ⟨H2 + 2, 0, none⟩)]] 84 (0, 0)) from HF4.out) 0).trans (show _ = some (.func (.func 48) #[] #[.pointer (some ⟨H2 + 1, 0, none⟩), .pointer (some ⟨BT, 0, none⟩), .pointer (some ⟨H2 + 2, 0, none⟩)]) from rfl)
    go_wp2_with fail
    refine HWK.out.mono ?_
    rintro e W5 ⟨⟨v5, rfl⟩, T, hT, hq5, hk5⟩
    rw [List.nil_append] at hq5
    obtain ⟨a, c, hG5, ho5⟩ := hq5.bo
    have hTR := HT.out.ok.tr
    have hsort := sort_app ho5 (inc_le (below_inc hTR s)) (perm_mem hq5.nod (inc_nodup (below_inc hTR s)) fun x => (hT x).trans (below_mem hTR).symm) (by
      have : T.length ≤ ((liveS st).map (·.ser)).length := nodup_le T _ hq5.nod (fun x hx => by
        obtain ⟨z, hz, e⟩ := hq5.sub x hx
        exact List.mem_map.2 ⟨z, hz, e⟩)
      have h256 := HT.out.ok.live
      simp at this
      omega)
    have q5 := (cells_cell hG5 0).trans (show _ = some (.slice a T.length c) from rfl)
    obtain ⟨n, hn⟩ : ∃ n, T.length = n := ⟨_, rfl⟩
    rw [hn] at hsort q5 hG5 ho5
    have HSORT := Hd.mk hsort
    have HG5 := Hd.mk hG5
    have HO5 := Hd.mk ho5
    have HB5 := Hd.mk hq5.bel
    clear hW4 c3 f3 c4 hT hq5 hk5 hG5 ho5 hTR hsort hn
    go_wp2_with fail
    refine HSORT.out.mono ?_
    rintro e W6 ⟨⟨v6, rfl⟩, hO6, hg6⟩
    have hG6 : W6.heap[H2 + 1]? = some (.cells #[.slice a n c] 30 (0, 0)) := by
      refine (hg6.block _ (lt_heap HG5.out) (fun e => ?_)).trans HG5.out
      obtain ⟨d, hd, hdk⟩ := own_some e.symm
      rcases HO5.out.2 with ⟨h3, _⟩ | ⟨g, cap, cur, hv, _, hh, _⟩
      · simp only [Value.slice.injEq] at h3; rw [h3.1] at hd; cases hd
      · simp only [Value.slice.injEq] at hv
        rw [hv.1] at hd
        cases hd
        simp only at hdk
        rw [hdk, HG5.out] at hh
        cases hh
    have q6 := (cells_cell hG6 0).trans (show _ = some (.slice a n c) from rfl)
    have HO6 := Hd.mk hO6
    have HB6 : Hd (Below w.heap.size w W6) := ⟨HB5.out.grown hg6 HB5.out.size (fun k hk => (World.ownsRow.lt HO5.out k hk).1)⟩
    clear q5 hO6 hg6 hG6
    go_wp2_with fail
    refine bodyPost_ret (results_tmp2 Try.results27 _ _ _) rfl ?_
    exact ⟨_, rfl, HO6.out, HB6.out⟩
end Go.Proofs.Ytinagiofolmhbaa
