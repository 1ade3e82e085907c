/- The law CapsNever. -/
import Derived.Test.YtinagiofolmhbaaC2
namespace Go.Proofs.Ytinagiofolmhbaa
open Go.RowKit
set_option linter.unusedVariables false
set_option linter.unusedSimpArgs false


theorem nv_keep {A W W' : World} {X : Nat} {x0 x1 x2 x3 : Int} {x4 : BitVec 8} (h : Below A.heap.size A W ∧ W.cell? ⟨X, 0, none⟩ = some (.int .i64 x0) ∧ W.cell? ⟨X, 1, none⟩ = some (.int .i64 x1) ∧ W.cell? ⟨X, 2, none⟩ = some (.int .i64 x2) ∧ W.cell? ⟨X, 3, none⟩ = some (.int .i64 x3) ∧ W.cell? ⟨X, 4, none⟩ = some (h8 x4)) (hB : Below W.heap.size W W') (hA : A.heap.size ≤ W.heap.size) : Below A.heap.size A W' ∧ W'.cell? ⟨X, 0, none⟩ = some (.int .i64 x0) ∧ W'.cell? ⟨X, 1, none⟩ = some (.int .i64 x1) ∧ W'.cell? ⟨X, 2, none⟩ = some (.int .i64 x2) ∧ W'.cell? ⟨X, 3, none⟩ = some (.int .i64 x3) ∧ W'.cell? ⟨X, 4, none⟩ = some (h8 x4) := by
  obtain ⟨hb, h0, h1, h2, h3, h4⟩ := h
  exact ⟨hb.trans (hB.mono hA), (hB.cell (p := ⟨X, 0, none⟩) (World.block_lt_of_cell? _ _ h0)).trans h0, (hB.cell (p := ⟨X, 1, none⟩) (World.block_lt_of_cell? _ _ h1)).trans h1, (hB.cell (p := ⟨X, 2, none⟩) (World.block_lt_of_cell? _ _ h2)).trans h2, (hB.cell (p := ⟨X, 3, none⟩) (World.block_lt_of_cell? _ _ h3)).trans h3, (hB.cell (p := ⟨X, 4, none⟩) (World.block_lt_of_cell? _ _ h4)).trans h4⟩
theorem nv_of {A W : World} {X : Nat} {x0 x1 x2 x3 : Int} {x4 : BitVec 8} (hB : Below A.heap.size A W) (h : W.heap[X]? = some (.cells #[.int .i64 x0, .int .i64 x1, .int .i64 x2, .int .i64 x3, h8 x4] 34 (0, 0))) : Below A.heap.size A W ∧ W.cell? ⟨X, 0, none⟩ = some (.int .i64 x0) ∧ W.cell? ⟨X, 1, none⟩ = some (.int .i64 x1) ∧ W.cell? ⟨X, 2, none⟩ = some (.int .i64 x2) ∧ W.cell? ⟨X, 3, none⟩ = some (.int .i64 x3) ∧ W.cell? ⟨X, 4, none⟩ = some (h8 x4) :=
  ⟨hB, (cells_cell h 0).trans (show _ = some (Value.int .i64 x0) from rfl), (cells_cell h 1).trans (show _ = some (Value.int .i64 x1) from rfl), (cells_cell h 2).trans (show _ = some (Value.int .i64 x2) from rfl), (cells_cell h 3).trans (show _ = some (Value.int .i64 x3) from rfl), (cells_cell h 4).trans (show _ = some (h8 x4) from rfl)⟩
def prvV (l : List Hn) : Nat → Int
  | 0 => 99
  | k + 1 => (l.getD k hn0).ser
theorem prv_lt {st : St} (hok : Ok st) (hf : Fam st) {k : Nat} (hk : k < (liveS st).length) : prvV (liveS st) k < (liveS st)[k].ser := by
  cases k with
  | zero =>
    have := hf.lo _ (live_mem.1 (List.getElem_mem hk))
    simp only [prvV]
    simp only at this
    omega
  | succ k =>
    have h1 : k < (liveS st).length := by omega
    have := List.pairwise_iff_getElem.1 (live_inc hok) k (k + 1) h1 hk (by omega)
    simp only [prvV, List.getD, List.getElem?_eq_getElem h1, Option.getD_some]
    exact this
set_option maxRecDepth 100000 in
set_option maxHeartbeats 8000000 in
theorem never_law {v : Value} {ls : List Sm} {w : World} (hl : SrcN sL w v ls) : Calls Try.prog 4 #[v] w fun e w' => e = .returned (.bool true) ∧ Below w.heap.size w w' := by
  have FL := Hd.mk hl
  clear hl
  go_enter Try.func4, Try.ntmps4
  go_wp2_with fail
  refine (awake_any _).mono ?_
  rintro e w1 ⟨rfl, hB0⟩
  have HB0 := Hd.mk hB0
  clear hB0
  go_wp2_with fail
  refine (made_any (FL.out.below HB0.out)).mono ?_
  rintro e w2 ⟨M, rfl, hm, hB1⟩
  have HM0 := Hd.mk hm
  have FB0 := Hd.mk (Held.below (HB0.out.trans (hB1.mono HB0.out.size)) (pr := fun k => k < w1.heap.size) (fun k hk => Nat.lt_of_lt_of_le hk HB0.out.size))
  have HSH := Hd.mk (made_sh ls)
  have HFA := Hd.mk (made_fam ls)
  clear hm hB1 HB0 FL
  generalize madeS ls = st at *
  go_wp2_with fail
  refine (y_all HM0.out rfl).mono ?_
  rintro e w3 ⟨a3, c3, p3, rfl, hm, hf, hs⟩
  have FNh3 := Hd.mk hf
  clear hf
  have FB_4 := Hd.mk (FB0.out.step hs)
  have HM4 := Hd.mk hm
  clear FB0 HM0
  clear hs hm
  obtain ⟨n, hn⟩ : ∃ n, (liveS st).length = n := ⟨_, rfl⟩
  have HN := Hd.mk hn
  rw [hn]
  obtain ⟨A, hA⟩ : ∃ A, w3 = A := ⟨_, rfl⟩
  subst hA
  have hn256 : n ≤ 256 := by rw [← hn]; exact HSH.out.ok.live
  clear hn
  go_wp2_with fail
  go_loopw [6, 24] (fun q i W => ∃ k : Nat, k ≤ n ∧ i = .int .i64 k ∧ q = .int .i64 (prvV (liveS st) k) ∧ Hd (Below w3.heap.size w3 W)) (fun _ i _ => n - (intOf i).toNat)
  case atStart => exact ⟨0, by omega, rfl, rfl, ⟨Below.refl _ _⟩⟩
  case round =>
    obtain ⟨k, hk, rfl, rfl, HB⟩ := hrel
    by_cases hlt : k < n
    · have hkl : k < (liveS st).length := by rw [HN.out]; exact hlt
      obtain ⟨b, off, rfl, _, hc⟩ := (OwnN.src (OwnN.below FNh3.out.now HB.out)).at k hkl
      have hpv := prv_lt HSH.out.ok HFA.out hkl
      have hmem := List.getElem_mem hkl
      have hnxt : prvV (liveS st) (k + 1) = (liveS st)[k].ser := by simp [prvV, List.getD, List.getElem?_eq_getElem hkl]
      obtain ⟨⟨x0, x1, x2, x3, x4⟩, hx⟩ : ∃ x, (liveS st)[k] = x := ⟨_, rfl⟩
      rw [hx] at hc hpv hmem hnxt
      simp only at hpv hnxt
      obtain ⟨pv, hpe⟩ : ∃ p, prvV (liveS st) k = p := ⟨_, rfl⟩
      rw [hpe] at hpv ⊢
      have HNX := Hd.mk hnxt
      have HMEM := Hd.mk hmem
      have v0 : wr.cell? ⟨b, off + k * 5, none⟩ = some (.int .i64 x0) := hc 0 _ rfl
      have v1 : wr.cell? ⟨b, off + k * 5 + 1, none⟩ = some (.int .i64 x1) := hc 1 _ rfl
      have v2 : wr.cell? ⟨b, off + k * 5 + 2, none⟩ = some (.int .i64 x2) := hc 2 _ rfl
      have v3 : wr.cell? ⟨b, off + k * 5 + 3, none⟩ = some (.int .i64 x3) := hc 3 _ rfl
      have v4 : wr.cell? ⟨b, off + k * 5 + 4, none⟩ = some (h8 x4) := hc 4 _ rfl
      have k0 : (0 : Int) ≤ (k : Int) := by omega
      have k1 : (k : Int) < (n : Int) := by omega
      have k2 : (k : Int) + 1 ≤ 9223372036854775807 := by omega
      have HK := Hd.mk (And.intro k0 (And.intro k1 k2))
      have HLT := Hd.mk hlt
      have HKL := Hd.mk hkl
      have hm0 := live_mem.1 hmem
      have hlo := HSH.out.ok.lo _ hm0
      have hho := HSH.out.ok.hols _ hm0
      have hri := HSH.out.ok.rtss _ hm0
      simp only at hlo hho hri
      have d1 : decide (x0 ≤ pv) = false := by simp; omega
      obtain ⟨nx, hnx⟩ : ∃ n, st.next = n := ⟨_, rfl⟩
      have HNXT := Hd.mk hnx
      rw [hnx] at hlo
      have d2 : decide (nx ≤ x0) = false := by simp; omega
      have d3 : badM x4 = false := by unfold badM; simp; omega
      have d4 : decide (x3 < 0) = false := by simp; omega
      have d5 : decide (16 < x3) = false := by simp; omega
      have FBW := Hd.mk (HB.out)
      clear hc hlt hk hkl hx hpv hmem hnxt hpe hm0 hlo hho hri hnx
      go_upto_region 11 with fail
      obtain ⟨W1, hW1⟩ : ∃ W, (wr.alloc (.cells #[.int .i64 x0, .int .i64 x1, .int .i64 x2, .int .i64 x3, h8 x4] 34)) = W := ⟨_, rfl⟩
      have hb1 : W1.heap[wr.heap.size]? = some (.cells #[.int .i64 x0, .int .i64 x1, .int .i64 x2, .int .i64 x3, h8 x4] 34 (0, 0)) := by rw [← hW1]; exact heap_alloc_new _ _
      have hB1 : Below w3.heap.size w3 W1 := by rw [← hW1]; exact HB.out.alloc HB.out.size _
      rw [hW1]
      obtain ⟨X, hX⟩ : ∃ X, wr.heap.size = X := ⟨_, rfl⟩
      rw [hX] at hb1 ⊢
      have hS0 := nv_of (A := w3) (W := W1.drew) (X := X) (x0 := x0) (x1 := x1) (x2 := x2) (x3 := x3) (x4 := x4) hB1.drew hb1
      have HA := Hd.mk (HM4.out)
      clear hW1 hb1 hB1 hX v0 v1 v2 v3 v4 k0 k1 k2 HB
      refine wp_region_held_drew (S := fun W => Below w3.heap.size w3 W ∧ W.cell? ⟨X, 0, none⟩ = some (.int .i64 x0) ∧ W.cell? ⟨X, 1, none⟩ = some (.int .i64 x1) ∧ W.cell? ⟨X, 2, none⟩ = some (.int .i64 x2) ∧ W.cell? ⟨X, 3, none⟩ = some (.int .i64 x3) ∧ W.cell? ⟨X, 4, none⟩ = some (h8 x4)) (by kernel_rfl) (hS0) (fun hS_ => ?_)
      try dsimp only at hS_
      refine takeW 0 ?_ rfl (by kernel_rfl) (by kernel_rfl) (by kernel_rfl) (fun _ _ _ h => h) (by rfl) ?_ hS_ ?_
      rotate_left
      · intro w hSw
        try dsimp only at hSw
        go_simp
        with_reducible rfl
      try simp only [Act.put, List.setIfInBounds_toArray, List.set_cons_zero, List.set_cons_succ]
      refine takeW 1 ?_ rfl (by kernel_rfl) (by kernel_rfl) (by kernel_rfl) (fun _ _ _ h => h) (by rfl) ?_ hS_ ?_
      rotate_left
      · intro w hSw
        try dsimp only at hSw
        go_simp
        with_reducible rfl
      try simp only [Act.put, List.setIfInBounds_toArray, List.set_cons_zero, List.set_cons_succ]
      refine takeW 2 ?_ rfl (by kernel_rfl) (by kernel_rfl) (by kernel_rfl) (fun _ _ _ h => h) (by rfl) ?_ hS_ ?_
      rotate_left
      · intro w hSw
        try dsimp only at hSw
        go_simp
        with_reducible rfl
      try simp only [Act.put, List.setIfInBounds_toArray, List.set_cons_zero, List.set_cons_succ]
      refine takeW 3 ?_ rfl (by kernel_rfl) (by kernel_rfl) (by kernel_rfl) (fun _ _ _ h => h) (by rfl) ?_ hS_ ?_
      rotate_left
      · intro w hSw
        try dsimp only at hSw
        go_simp
        with_reducible rfl
      try simp only [Act.put, List.setIfInBounds_toArray, List.set_cons_zero, List.set_cons_succ]
      refine takeW 4 ?_ rfl (by kernel_rfl) (by kernel_rfl) (by kernel_rfl) (fun _ _ _ h => h) (by rfl) ?_ hS_ ?_
      rotate_left
      · intro w hSw
        try dsimp only at hSw
        go_simp
        with_reducible rfl
      try simp only [Act.put, List.setIfInBounds_toArray, List.set_cons_zero, List.set_cons_succ]
      refine takeW 5 ?_ rfl (by kernel_rfl) (by kernel_rfl) (by kernel_rfl) (fun _ _ _ h => h) (by rfl) ?_ hS_ ?_
      rotate_left
      · intro w hSw
        try dsimp only at hSw
        go_simp
        with_reducible rfl
      try simp only [Act.put, List.setIfInBounds_toArray, List.set_cons_zero, List.set_cons_succ]
      refine takeW 6 ?_ rfl (by kernel_rfl) (by kernel_rfl) (by kernel_rfl) (fun _ _ _ h => h) (by rfl) ?_ hS_ ?_
      rotate_left
      · intro w hSw
        try dsimp only at hSw
        go_simp
        with_reducible rfl
      try simp only [Act.put, List.setIfInBounds_toArray, List.set_cons_zero, List.set_cons_succ]
      refine takeW 7 ?_ rfl (by kernel_rfl) (by kernel_rfl) (by kernel_rfl) (fun _ _ _ h => h) (by rfl) ?_ hS_ ?_
      rotate_left
      · intro w hSw
        try dsimp only at hSw
        go_simp
        with_reducible rfl
      try simp only [Act.put, List.setIfInBounds_toArray, List.set_cons_zero, List.set_cons_succ]
      refine wpAnyH_ready (rs := [8]) (by kernel_rfl) (by simp) (readyL rfl (fun K hK => ?_) AllReadyH.nil)
      go_simp
      refine (y_next (HA.out.below hS_.1).1 HNXT.out).mono ?_
      rintro e wk ⟨rfl, rfl⟩
      have hS2_ : Below w3.heap.size w3 W1.drew ∧ W1.drew.cell? ⟨X, 0, none⟩ = some (.int .i64 x0) ∧ W1.drew.cell? ⟨X, 1, none⟩ = some (.int .i64 x1) ∧ W1.drew.cell? ⟨X, 2, none⟩ = some (.int .i64 x2) ∧ W1.drew.cell? ⟨X, 3, none⟩ = some (.int .i64 x3) ∧ W1.drew.cell? ⟨X, 4, none⟩ = some (h8 x4) := nv_keep hS_ (Below.refl _ _) hS_.1.size
      refine hK.out _ _ hS2_ (fun _ => ?_)
      clear hK K hS_
      have hS_ := hS2_
      clear hS2_
      try simp only [Act.put, List.setIfInBounds_toArray, List.set_cons_zero, List.set_cons_succ]
      refine takeW 9 ?_ rfl (by kernel_rfl) (by kernel_rfl) (by kernel_rfl) (fun _ _ _ h => h) (by rfl) ?_ hS_ ?_
      rotate_left
      · intro w hSw
        try dsimp only at hSw
        go_simp
        with_reducible rfl
      try simp only [Act.put, List.setIfInBounds_toArray, List.set_cons_zero, List.set_cons_succ]
      refine takeW 10 ?_ rfl (by kernel_rfl) (by kernel_rfl) (by kernel_rfl) (fun _ _ _ h => h) (by rfl) ?_ hS_ ?_
      rotate_left
      · intro w hSw
        try dsimp only at hSw
        go_simp
        with_reducible rfl
      try simp only [Act.put, List.setIfInBounds_toArray, List.set_cons_zero, List.set_cons_succ]
      refine takeW 11 ?_ rfl (by kernel_rfl) (by kernel_rfl) (by kernel_rfl) (fun _ _ _ h => h) (by rfl) ?_ hS_ ?_
      rotate_left
      · intro w hSw
        try dsimp only at hSw
        go_simp
        with_reducible rfl
      try simp only [Act.put, List.setIfInBounds_toArray, List.set_cons_zero, List.set_cons_succ]
      refine takeW 12 ?_ rfl (by kernel_rfl) (by kernel_rfl) (by kernel_rfl) (fun _ _ _ h => h) (by rfl) ?_ hS_ ?_
      rotate_left
      · intro w hSw
        try dsimp only at hSw
        go_simp
        with_reducible rfl
      try simp only [Act.put, List.setIfInBounds_toArray, List.set_cons_zero, List.set_cons_succ]
      refine takeW 13 ?_ rfl (by kernel_rfl) (by kernel_rfl) (by kernel_rfl) (fun _ _ _ h => h) (by rfl) ?_ hS_ ?_
      rotate_left
      · intro w hSw
        try dsimp only at hSw
        go_simp
        with_reducible rfl
      try simp only [Act.put, List.setIfInBounds_toArray, List.set_cons_zero, List.set_cons_succ]
      refine wpAnyH_ready (rs := [14]) (by kernel_rfl) (by simp) (readyL rfl (fun K hK => ?_) AllReadyH.nil)
      go_simp
      refine (mright_any x4 _).mono ?_
      rintro e wk ⟨rfl, hBk⟩
      have hS2_ : Below w3.heap.size w3 wk ∧ wk.cell? ⟨X, 0, none⟩ = some (.int .i64 x0) ∧ wk.cell? ⟨X, 1, none⟩ = some (.int .i64 x1) ∧ wk.cell? ⟨X, 2, none⟩ = some (.int .i64 x2) ∧ wk.cell? ⟨X, 3, none⟩ = some (.int .i64 x3) ∧ wk.cell? ⟨X, 4, none⟩ = some (h8 x4) := nv_keep hS_ hBk hS_.1.size
      refine hK.out _ _ hS2_ (fun _ => ?_)
      clear hK K hS_
      have hS_ := hS2_
      clear hS2_
      try simp only [Act.put, List.setIfInBounds_toArray, List.set_cons_zero, List.set_cons_succ]
      refine takeW 15 ?_ rfl (by kernel_rfl) (by kernel_rfl) (by kernel_rfl) (fun _ _ _ h => h) (by rfl) ?_ hS_ ?_
      rotate_left
      · intro w hSw
        try dsimp only at hSw
        go_simp
        with_reducible rfl
      try simp only [Act.put, List.setIfInBounds_toArray, List.set_cons_zero, List.set_cons_succ]
      refine takeW 16 ?_ rfl (by kernel_rfl) (by kernel_rfl) (by kernel_rfl) (fun _ _ _ h => h) (by rfl) ?_ hS_ ?_
      rotate_left
      · intro w hSw
        try dsimp only at hSw
        go_simp
        with_reducible rfl
      try simp only [Act.put, List.setIfInBounds_toArray, List.set_cons_zero, List.set_cons_succ]
      refine takeW 17 ?_ rfl (by kernel_rfl) (by kernel_rfl) (by kernel_rfl) (fun _ _ _ h => h) (by rfl) ?_ hS_ ?_
      rotate_left
      · intro w hSw
        try dsimp only at hSw
        go_simp
        with_reducible rfl
      try simp only [Act.put, List.setIfInBounds_toArray, List.set_cons_zero, List.set_cons_succ]
      refine takeW 18 ?_ rfl (by kernel_rfl) (by kernel_rfl) (by kernel_rfl) (fun _ _ _ h => h) (by rfl) ?_ hS_ ?_
      rotate_left
      · intro w hSw
        try dsimp only at hSw
        go_simp
        with_reducible rfl
      try simp only [Act.put, List.setIfInBounds_toArray, List.set_cons_zero, List.set_cons_succ]
      refine takeW 19 ?_ rfl (by kernel_rfl) (by kernel_rfl) (by kernel_rfl) (fun _ _ _ h => h) (by rfl) ?_ hS_ ?_
      rotate_left
      · intro w hSw
        try dsimp only at hSw
        go_simp
        with_reducible rfl
      try simp only [Act.put, List.setIfInBounds_toArray, List.set_cons_zero, List.set_cons_succ]
      refine takeW 20 ?_ rfl (by kernel_rfl) (by kernel_rfl) (by kernel_rfl) (fun _ _ _ h => h) (by rfl) ?_ hS_ ?_
      rotate_left
      · intro w hSw
        try dsimp only at hSw
        go_simp
        with_reducible rfl
      try simp only [Act.put, List.setIfInBounds_toArray, List.set_cons_zero, List.set_cons_succ]
      refine takeW 21 ?_ rfl (by kernel_rfl) (by kernel_rfl) (by kernel_rfl) (fun _ _ _ h => h) (by rfl) ?_ hS_ ?_
      rotate_left
      · intro w hSw
        try dsimp only at hSw
        go_simp
        with_reducible rfl
      try simp only [Act.put, List.setIfInBounds_toArray, List.set_cons_zero, List.set_cons_succ]
      refine takeW 22 ?_ rfl (by kernel_rfl) (by kernel_rfl) (by kernel_rfl) (fun _ _ _ h => h) (by rfl) ?_ hS_ ?_
      rotate_left
      · intro w hSw
        try dsimp only at hSw
        go_simp
        with_reducible rfl
      try simp only [Act.put, List.setIfInBounds_toArray, List.set_cons_zero, List.set_cons_succ]
      refine takeW 23 ?_ rfl (by kernel_rfl) (by kernel_rfl) (by kernel_rfl) (fun _ _ _ h => h) (by rfl) ?_ hS_ ?_
      rotate_left
      · intro w hSw
        try dsimp only at hSw
        go_simp
        with_reducible rfl
      try simp only [Act.put, List.setIfInBounds_toArray, List.set_cons_zero, List.set_cons_succ]
      refine takeW 24 ?_ rfl (by kernel_rfl) (by kernel_rfl) (by kernel_rfl) (fun _ _ _ h => h) (by rfl) ?_ hS_ ?_
      rotate_left
      · intro w hSw
        try dsimp only at hSw
        go_simp
        with_reducible rfl
      try simp only [Act.put, List.setIfInBounds_toArray, List.set_cons_zero, List.set_cons_succ]
      refine takeW 25 ?_ rfl (by kernel_rfl) (by kernel_rfl) (by kernel_rfl) (fun _ _ _ h => h) (by rfl) ?_ hS_ ?_
      rotate_left
      · intro w hSw
        try dsimp only at hSw
        go_simp
        with_reducible rfl
      try simp only [Act.put, List.setIfInBounds_toArray, List.set_cons_zero, List.set_cons_succ]
      refine takeW 26 ?_ rfl (by kernel_rfl) (by kernel_rfl) (by kernel_rfl) (fun _ _ _ h => h) (by rfl) ?_ hS_ ?_
      rotate_left
      · intro w hSw
        try dsimp only at hSw
        go_simp
        with_reducible rfl
      try simp only [Act.put, List.setIfInBounds_toArray, List.set_cons_zero, List.set_cons_succ]
      refine wpAnyH_done (by kernel_rfl) ?_ _
      clear d1 d2 d3 d4 d5 hS0
      obtain ⟨hb2, q0, q1, q2, q3, q4⟩ := hS_
      by_cases hp : x1 = 0
      · subst hp
        have HB2 := Hd.mk hb2
        clear hb2
        go_upto_region 18 with fail
        obtain ⟨k0, k1, k2⟩ := HK.out
        go_wp2_with fail
        go_roundw
        case rel => exact ⟨k + 1, by have := HLT.out; omega, by go_num, by rw [HNX.out], HB2⟩
        case measure => have := HLT.out; simp [intOf]; omega
      · obtain ⟨u, hu, e1, e2, e3, e4⟩ := HFA.out.up _ HMEM.out hp
        have hget : getL (liveS st) x1 = some u := by
          have := getL_mem (live_inc HSH.out.ok) hu
          rw [e1] at this
          exact this
        have hlt := (HSH.out.ok.pars _ (live_mem.1 HMEM.out)).2
        have hri := HSH.out.ok.rtss _ (live_mem.1 HMEM.out)
        have hru := HSH.out.ok.rtss _ (live_mem.1 hu)
        obtain ⟨u0, u1, u2, u3, u4⟩ := u
        simp only at e1 e2 e3 e4 hlt hri hru
        subst e1 e2
        have hbel : belB x4 u4 = true := by
          unfold belB badM
          simp [e4]
          omega
        have d6 : decide (x0 ≤ u0) = false := by simp; omega
        have d7 : (u4 &&& 4#8 == 0#8) = false := by simpa using e3
        have hsrc := OwnN.src (OwnN.below FNh3.out.now hb2)
        rw [HN.out] at hsrc
        have HF := Hd.mk (y_find hsrc (t := u0) (a := u0) (b := u1) (c := u2) (d := u3) (r := u4) (is := true) (by rw [hget]; rfl) (by rw [hget]; rfl))
        have HB2 := Hd.mk hb2
        have HBEL := Hd.mk hbel
        clear hsrc hb2 hu e3 e4 hget hlt hri hru hbel
        have HS2 := Hd.mk (show Below w3.heap.size w3 wk ∧ wk.cell? ⟨X, 0, none⟩ = some (.int .i64 x0) ∧ wk.cell? ⟨X, 1, none⟩ = some (.int .i64 u0) ∧ wk.cell? ⟨X, 2, none⟩ = some (.int .i64 u2) ∧ wk.cell? ⟨X, 3, none⟩ = some (.int .i64 x3) ∧ wk.cell? ⟨X, 4, none⟩ = some (h8 x4) from ⟨HB2.out, q0, q1, q2, q3, q4⟩)
        clear q1 q2 q3 q4
        go_wp2_with fail
        refine HF.out.mono ?_
        rintro e w5 ⟨rfl, hB5⟩
        clear HF q0
        have hS5 := nv_keep HS2.out hB5 HB2.out.size
        obtain ⟨W6, hW6⟩ : ∃ W, (w5.alloc (.cells #[.int .i64 u0, .int .i64 u1, .int .i64 u2, .int .i64 u3, h8 u4] 34)) = W := ⟨_, rfl⟩
        have hb6 : W6.heap[w5.heap.size]? = some (.cells #[.int .i64 u0, .int .i64 u1, .int .i64 u2, .int .i64 u3, h8 u4] 34 (0, 0)) := by rw [← hW6]; exact heap_alloc_new _ _
        have hB6 : Below w5.heap.size w5 W6 := by rw [← hW6]; exact (Below.refl _ _).alloc (Nat.le_refl _) _
        obtain ⟨hb7, q0, q1, q2, q3, q4⟩ := nv_keep hS5 hB6 hS5.1.size
        have p0 := (cells_cell hb6 0).trans (show _ = some (Value.int .i64 u0) from rfl)
        have p2 := (cells_cell hb6 2).trans (show _ = some (Value.int .i64 u2) from rfl)
        have p4 := (cells_cell hb6 4).trans (show _ = some (h8 u4) from rfl)
        have HB7 := Hd.mk hb7
        have HW6 := Hd.mk hW6
        clear hB5 hS5 hb6 hB6 hb7 HS2 q1 q3 hW6
        go_upto_region 16 with fail
        rw [HW6.out]
        go_wp2_with fail
        refine (mbelow_any x4 u4 _).mono ?_
        rintro e w8 ⟨rfl, hB8⟩
        have HB8 := Hd.mk (HB7.out.trans (hB8.mono HB7.out.size))
        have hbel := HBEL.out
        clear hB8 q0 q2 q4 p0 p2 p4
        go_upto_region 18 with fail
        obtain ⟨k0, k1, k2⟩ := HK.out
        go_wp2_with fail
        go_roundw
        case rel => exact ⟨k + 1, by have := HLT.out; omega, by go_num, by rw [HNX.out], HB8⟩
        case measure => have := HLT.out; simp [intOf]; omega
    · obtain rfl : k = n := by omega
      clear hlt hk
      go_wp2_with fail
      refine (y_len (HM4.out.below HB.out).1 (n := (k : Int)) (by rw [HN.out])).mono ?_
      rintro e wq ⟨rfl, rfl⟩
      go_wp2_with fail
      go_ret
      exact ⟨rfl, (FB_4.out.step (HM4.out.below HB.out).2).now⟩
end Go.Proofs.Ytinagiofolmhbaa
