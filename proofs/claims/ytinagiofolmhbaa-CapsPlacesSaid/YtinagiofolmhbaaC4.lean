/- IsSorted, Contains, above. -/
import Derived.Test.YtinagiofolmhbaaC2
namespace Go.Proofs.Ytinagiofolmhbaa
open Go.RowKit
set_option linter.unusedVariables false
set_option linter.unusedSimpArgs false

open Go.Shelf
theorem s2_keep {W0 W W' : World} {p q : Addr} {a b : Value} (h : W.cell? p = some a ∧ W.cell? q = some b ∧ Below W0.heap.size W0 W) (hB : Below W.heap.size W W') :
    W'.cell? p = some a ∧ W'.cell? q = some b ∧ Below W0.heap.size W0 W' := by
  obtain ⟨h0, h1, h2⟩ := h
  exact ⟨(hB.cell (World.block_lt_of_cell? _ _ h0)).trans h0, (hB.cell (World.block_lt_of_cell? _ _ h1)).trans h1, h2.trans (hB.mono h2.size)⟩
set_option maxRecDepth 100000 in
set_option maxHeartbeats 1000000 in
theorem sorted_any (v : Value) (l : List Int) (w : World) (hs : SrcI w v l) (hp : l.Pairwise (· ≤ ·)) (hl : l.length ≤ 1000000) : Calls Try.prog 18 #[v] w fun e w' => e = .returned (.bool true) ∧ Below w.heap.size w w' := by
  have HS := Hd.mk hs
  have HP := Hd.mk hp
  obtain ⟨a, c, rfl⟩ := hs.shape
  clear hs hp
  have wl : IntKind.i64.wrap ((l.length : Int) - 1) = (l.length : Int) - 1 := IntWalk.i64_in _ ⟨by omega, by omega⟩
  go_enter Try.func18, Try.ntmps18
  go_wp2_with fail
  go_loopw [3] (fun i W => ∃ z : Int, -1 ≤ z ∧ z < l.length ∧ i = .int .i64 z ∧ Below w.heap.size w W) (fun i _ => (intOf i).toNat)
  case atStart => exact ⟨(l.length : Int) - 1, by omega, by omega, rfl, Below.refl _ _⟩
  case round =>
    obtain ⟨z, hz0, hz1, rfl, hB⟩ := hrel
    by_cases hz : 0 < z
    · obtain ⟨k, rfl⟩ : ∃ k : Nat, z = (k : Int) + 1 := ⟨(z - 1).toNat, by omega⟩
      have hk : k + 1 < l.length := by omega
      obtain ⟨b, off, rfl, hb, hx⟩ := (HS.out.below hB).at (k + 1) hk
      obtain ⟨b', off', hbb, -, hy⟩ := (HS.out.below hB).at k (by omega)
      obtain ⟨rfl, rfl⟩ : b = b' ∧ off = off' := by simpa using hbb
      have hle := List.pairwise_iff_getElem.1 HP.out k (k + 1) (by omega) hk (by omega)
      obtain ⟨x, hX⟩ : ∃ x, l[k + 1] = x := ⟨_, rfl⟩
      obtain ⟨y, hY⟩ : ∃ x, l[k] = x := ⟨_, rfl⟩
      rw [hX] at hx hle
      rw [hY] at hy hle
      have hd : decide (x < y) = false := decide_eq_false (by omega)
      have k0 : (0 : Int) ≤ (k : Int) := by omega
      have k1 : (k : Int) < (l.length : Int) := by omega
      have k2 : (k : Int) + 1 < (l.length : Int) := by omega
      have k3 : (0 : Int) ≤ (k : Int) + 1 := by omega
      have wk1 : IntKind.i64.wrap (k : Int) = (k : Int) := IntWalk.i64_in _ ⟨by omega, by omega⟩
      have HB := Hd.mk hB
      clear hbb hb hX hY hB
      go_upto_region 4 with fail
      have hS0 : wr.cell? ⟨b, off + (k + 1), none⟩ = some (.int .i64 x) ∧ wr.cell? ⟨b, off + k, none⟩ = some (.int .i64 y) ∧ Below wr.heap.size wr wr := ⟨hx, hy, Below.refl _ _⟩
      refine wp_region_held_drew (S := fun W => W.cell? ⟨b, off + (k + 1), none⟩ = some (.int .i64 x) ∧ W.cell? ⟨b, off + k, none⟩ = some (.int .i64 y) ∧ Below wr.heap.size wr W) (by kernel_rfl) (s2_keep hS0 (Below.refl _ _).drew) (fun hS_ => ?_)
      try dsimp only at hS_
      refine takeW 0 ?_ rfl (by kernel_rfl) (by kernel_rfl) (by kernel_rfl) (fun _ _ _ h => h) (by rfl) ?_ hS_ ?_
      rotate_left
      · intro w hSw
        try dsimp only at hSw
        go_simp
        with_reducible rfl
      try simp only [Act.put, List.setIfInBounds_toArray, List.set_cons_zero, List.set_cons_succ]
      refine takeW 1 ?_ rfl (by kernel_rfl) (by kernel_rfl) (by kernel_rfl) (fun _ _ _ h => h) (by rfl) ?_ hS_ ?_
      rotate_left
      · intro w hSw
        try dsimp only at hSw
        go_simp
        with_reducible rfl
      try simp only [Act.put, List.setIfInBounds_toArray, List.set_cons_zero, List.set_cons_succ]
      refine takeW 2 ?_ rfl (by kernel_rfl) (by kernel_rfl) (by kernel_rfl) (fun _ _ _ h => h) (by rfl) ?_ hS_ ?_
      rotate_left
      · intro w hSw
        try dsimp only at hSw
        go_simp
        with_reducible rfl
      try simp only [Act.put, List.setIfInBounds_toArray, List.set_cons_zero, List.set_cons_succ]
      refine takeW 3 ?_ rfl (by kernel_rfl) (by kernel_rfl) (by kernel_rfl) (fun _ _ _ h => h) (by rfl) ?_ hS_ ?_
      rotate_left
      · intro w hSw
        try dsimp only at hSw
        go_simp
        with_reducible rfl
      try simp only [Act.put, List.setIfInBounds_toArray, List.set_cons_zero, List.set_cons_succ]
      refine takeW 4 ?_ rfl (by kernel_rfl) (by kernel_rfl) (by kernel_rfl) (fun _ _ _ h => h) (by rfl) ?_ hS_ ?_
      rotate_left
      · intro w hSw
        try dsimp only at hSw
        go_simp
        with_reducible rfl
      try simp only [Act.put, List.setIfInBounds_toArray, List.set_cons_zero, List.set_cons_succ]
      refine takeW 5 ?_ rfl (by kernel_rfl) (by kernel_rfl) (by kernel_rfl) (fun _ _ _ h => h) (by rfl) ?_ hS_ ?_
      rotate_left
      · intro w hSw
        try dsimp only at hSw
        go_simp
        with_reducible rfl
      try simp only [Act.put, List.setIfInBounds_toArray, List.set_cons_zero, List.set_cons_succ]
      refine takeW 6 ?_ rfl (by kernel_rfl) (by kernel_rfl) (by kernel_rfl) (fun _ _ _ h => h) (by rfl) ?_ hS_ ?_
      rotate_left
      · intro w hSw
        try dsimp only at hSw
        go_simp
        with_reducible rfl
      try simp only [Act.put, List.setIfInBounds_toArray, List.set_cons_zero, List.set_cons_succ]
      refine takeW 7 ?_ rfl (by kernel_rfl) (by kernel_rfl) (by kernel_rfl) (fun _ _ _ h => h) (by rfl) ?_ hS_ ?_
      rotate_left
      · intro w hSw
        try dsimp only at hSw
        go_simp
        with_reducible rfl
      try simp only [Act.put, List.setIfInBounds_toArray, List.set_cons_zero, List.set_cons_succ]
      refine takeW 8 ?_ rfl (by kernel_rfl) (by kernel_rfl) (by kernel_rfl) (fun _ _ _ h => h) (by rfl) ?_ hS_ ?_
      rotate_left
      · intro w hSw
        try dsimp only at hSw
        go_simp
        with_reducible rfl
      try simp only [Act.put, List.setIfInBounds_toArray, List.set_cons_zero, List.set_cons_succ]
      refine wpAnyH_ready (rs := [9]) (by kernel_rfl) (by simp) (readyL rfl (fun K hK => ?_) AllReadyH.nil)
      go_simp
      refine (Try.cmp_Less_int2 _ _ _).mono ?_
      rintro e wk ⟨rfl, rfl⟩
      have hS2_ : wr.drew.cell? ⟨b, off + (k + 1), none⟩ = some (.int .i64 x) ∧ wr.drew.cell? ⟨b, off + k, none⟩ = some (.int .i64 y) ∧ Below wr.heap.size wr wr.drew := hS_
      refine hK.out _ _ hS2_ (fun _ => ?_)
      clear hK K hS_
      have hS_ := hS2_
      clear hS2_
      try simp only [Act.put, List.setIfInBounds_toArray, List.set_cons_zero, List.set_cons_succ]
      refine wpAnyH_done (by kernel_rfl) ?_ _
      have HB2 := Hd.mk (HB.out.trans (hS_.2.2.mono HB.out.size))
      clear hS_ hS0
      go_wp2_with fail
      go_roundw
      case rel => exact ⟨(k : Int), by omega, by omega, by go_num, HB2.out⟩
      case measure => simp [intOf] <;> omega
    · go_wp2_with fail
      go_ret
      exact ⟨rfl, hB⟩
theorem contains_any (v : Value) (l : List Int) (x : Int) (w : World) (hs : SrcI w v l) : Calls Try.prog 16 #[v, .int .i64 x] w fun e w' => e = .returned (.bool (l.contains x)) ∧ w = w' := by
  have hsm := hs.small
  obtain ⟨a, c, rfl⟩ := hs.shape
  by_cases h0 : l.length = 0
  · have hl0 := List.length_eq_zero_iff.1 h0
    subst hl0
    refine (Try.slices_Contains_int_empty a c x w).mono ?_
    rintro e w' ⟨rfl, rfl⟩
    exact ⟨rfl, rfl⟩
  · obtain ⟨b, off, rfl, _, _⟩ := hs.at 0 (by omega)
    refine (Try.slices_Contains_int b off l.length c l x w (Nat.le_refl _) hsm (fun j hj => ?_)).mono ?_
    · obtain ⟨b', off', hbb, _, hx⟩ := hs.at j hj
      obtain ⟨rfl, rfl⟩ : b = b' ∧ off = off' := by simpa using hbb
      rw [hx]
      simp [List.getD, List.getElem?_eq_getElem hj]
    · rintro e w' ⟨rfl, rfl⟩
      rw [List.take_length]
      exact ⟨rfl, rfl⟩
theorem contains_at {v : Value} {l : List Int} {x : Int} {w : World} {b : Bool} (hb : l.contains x = b) (hs : SrcI w v l) : Calls Try.prog 16 #[v, .int .i64 x] w fun e w' => e = .returned (.bool b) ∧ w = w' := by
  subst hb; exact contains_any v l x w hs

/-! ### above -/
def abvF (l : List Hn) (s : Int) : Nat → Hn → Bool
  | 0, _ => false
  | n + 1, h => if h.ser = s then true else match getL l h.par with
    | none => false
    | some u => abvF l s n u
theorem abv_und (l : List Hn) (s : Int) : ∀ n h, abvF l s (n + 1) h = undB l n h s
  | 0, h => by
    unfold abvF undB
    split
    · rename_i e; simp [e]
    · rename_i e
      split
      · simp [e]
      · simp [abvF, e]
  | n + 1, h => by
    rw [abvF, undB]
    split
    · rfl
    · cases hg : getL l h.par with
      | none => rfl
      | some u => exact abv_und l s n u
theorem abv_300 {l : List Hn} (ht : Tr l) (hl : l.length ≤ 256) {s : Int} {h : Hn} (hm : h ∈ l) : abvF l s 300 h = undB l l.length h s := by
  rw [abv_und]
  rw [Bool.eq_iff_iff, undB_iff ht hm]
  exact ⟨undB_und _ _, fun hu => und_undB ht hu hm _ (Nat.le_trans (List.length_filter_le _ _) (by omega))⟩
set_option maxRecDepth 100000 in
set_option maxHeartbeats 2000000 in
theorem above_any {v : Value} {l : List Hn} {w : World} (hl : SrcN hL w v l) (h : Hn) (t : Int) :
    Calls Try.prog 35 #[v, .agg #[.int .i64 h.ser, .int .i64 h.par, .int .i64 h.port, .int .i64 h.hol, h8 h.rts], .int .i64 t] w fun e w' => e = .returned (.bool (abvF l t 300 h)) ∧ Below w.heap.size w w' := by
  obtain ⟨a, c, rfl⟩ := hl.shape
  obtain ⟨n, hn⟩ : ∃ n, l.length = n := ⟨_, rfl⟩
  have hsm := hl.small
  rw [hn] at hl hsm ⊢
  obtain ⟨y0, y1, y2, y3, y4⟩ := h
  obtain ⟨W1, hW1⟩ : ∃ W, (w.alloc (.cells #[.int .i64 y0, .int .i64 y1, .int .i64 y2, .int .i64 y3, h8 y4] 34)) = W := ⟨_, rfl⟩
  have hB1 : Below w.heap.size w W1 := by rw [← hW1]; exact (Below.refl _ _).alloc (Nat.le_refl _) _
  have hb1 : W1.heap[w.heap.size]? = some (.cells #[.int .i64 y0, .int .i64 y1, .int .i64 y2, .int .i64 y3, h8 y4] 34 (0, 0)) := by rw [← hW1]; exact heap_alloc_new _ _
  obtain ⟨X, hX⟩ : ∃ r, w.heap.size = r := ⟨_, rfl⟩
  rw [hX] at hb1
  obtain ⟨R, hR⟩ : ∃ r : Bool, abvF l t 300 ⟨y0, y1, y2, y3, y4⟩ = r := ⟨_, rfl⟩
  rw [hR]
  have HL := Hd.mk hl
  have HW1 := Hd.mk hW1
  have HX := Hd.mk hX
  have H0 : Hd (∃ x0 x1 x2 x3 x4, W1.heap[X]? = some (.cells #[.int .i64 x0, .int .i64 x1, .int .i64 x2, .int .i64 x3, h8 x4] 34 (0, 0)) ∧ abvF l t (300 - 0) ⟨x0, x1, x2, x3, x4⟩ = R) := ⟨y0, y1, y2, y3, y4, hb1, hR⟩
  have HB1 := Hd.mk hB1
  clear hl hW1 hX hR hb1 hB1 hn
  go_enter Try.func35, Try.ntmps35
  go_upto_region 1 with fail
  rw [HW1.out]
  try rw [HX.out]
  go_wp2_with fail
  go_loopw [9] (fun i W => ∃ k : Nat, k ≤ 300 ∧ i = .int .i64 k ∧ Hd (∃ x0 x1 x2 x3 x4, W.heap[X]? = some (.cells #[.int .i64 x0, .int .i64 x1, .int .i64 x2, .int .i64 x3, h8 x4] 34 (0, 0)) ∧ abvF l t (300 - k) ⟨x0, x1, x2, x3, x4⟩ = R) ∧ Hd (Below w.heap.size w W)) (fun i _ => 300 - (intOf i).toNat)
  case atStart => exact ⟨0, by omega, rfl, H0, HB1⟩
  case round =>
    obtain ⟨k, hk, rfl, HA, HB⟩ := hrel
    obtain ⟨x0, x1, x2, x3, x4, hb, ha⟩ := HA.out
    by_cases hlt : k < 300
    · obtain ⟨m, hm⟩ : ∃ m, 300 - k = m + 1 := ⟨299 - k, by omega⟩
      have hm2 : 300 - (k + 1) = m := by omega
      rw [hm] at ha
      unfold abvF at ha
      simp only at ha
      have HM2 := Hd.mk hm2
      have k1 : (k : Int) < 300 := by omega
      have k0 : (0 : Int) ≤ (k : Int) := by omega
      have HLT := Hd.mk hlt
      have HBX := Hd.mk hb
      have q0 := (cells_cell hb 0).trans (show _ = some (Value.int .i64 x0) from rfl)
      have q1 := (cells_cell hb 1).trans (show _ = some (Value.int .i64 x1) from rfl)
      have q2 := (cells_cell hb 2).trans (show _ = some (Value.int .i64 x2) from rfl)
      have q3 := (cells_cell hb 3).trans (show _ = some (Value.int .i64 x3) from rfl)
      have q4 := (cells_cell hb 4).trans (show _ = some (h8 x4) from rfl)
      clear hm hm2 hb hk hlt HA
      by_cases he : x0 = t
      · subst he
        rw [if_pos rfl] at ha
        have HR := Hd.mk ha
        clear ha
        go_wp2_with fail
        go_ret
        exact ⟨by rw [← HR.out]; rfl, HB.out⟩
      · rw [if_neg he] at ha
        have hd : decide (x0 = t) = false := decide_eq_false he
        have HS := Hd.mk ((HL.out.below HB.out))
        cases hg : getL l x1 with
        | none =>
          rw [hg] at ha
          simp only at ha
          have HR := Hd.mk ha
          have HF := Hd.mk (y_find HS.out (t := x1) (a := 0) (b := 0) (c := 0) (d := 0) (r := 0#8) (is := false) (by rw [hg]; rfl) (by rw [hg]; rfl))
          clear ha hg
          go_wp2_with fail
          refine HF.out.mono ?_
          rintro e w5 ⟨rfl, hB5⟩
          have HB5 := Hd.mk ((HB.out.trans (hB5.mono HB.out.size)).alloc (Nat.le_trans HB.out.size hB5.size) (.cells #[.int .i64 0, .int .i64 0, .int .i64 0, .int .i64 0, h8 0#8] 34))
          clear hB5 q0 q1 q2 q3 q4
          go_wp2_with fail
          go_ret
          exact ⟨by rw [← HR.out]; rfl, HB5.out⟩
        | some u =>
          obtain ⟨u0, u1, u2, u3, u4⟩ := u
          rw [hg] at ha
          simp only at ha
          rw [← HM2.out] at ha
          have HR := Hd.mk ha
          have HF := Hd.mk (y_find HS.out (t := x1) (a := u0) (b := u1) (c := u2) (d := u3) (r := u4) (is := true) (by rw [hg]; rfl) (by rw [hg]; rfl))
          clear ha hg
          go_wp2_with fail
          refine HF.out.mono ?_
          rintro e w5 ⟨rfl, hB5⟩
          have hX5 := (hB5.block X (lt_heap HBX.out)).trans HBX.out
          obtain ⟨W6, hW6⟩ : ∃ W, (w5.alloc (.cells #[.int .i64 u0, .int .i64 u1, .int .i64 u2, .int .i64 u3, h8 u4] 34)) = W := ⟨_, rfl⟩
          have hb6 : W6.heap[w5.heap.size]? = some (.cells #[.int .i64 u0, .int .i64 u1, .int .i64 u2, .int .i64 u3, h8 u4] 34 (0, 0)) := by rw [← hW6]; exact heap_alloc_new _ _
          have hB6 : Below w5.heap.size w5 W6 := by rw [← hW6]; exact (Below.refl _ _).alloc (Nat.le_refl _) _
          have hX6 := (hB6.block X (lt_heap hX5)).trans hX5
          have HX6 := Hd.mk hX6
          have HB6 := Hd.mk ((HB.out.trans (hB5.mono HB.out.size)).trans (hB6.mono (Nat.le_trans HB.out.size hB5.size)))
          clear q0 q1 q2 q3 q4
          have q0 := (cells_cell hX6 0).trans (show _ = some (Value.int .i64 x0) from rfl)
          have q1 := (cells_cell hX6 1).trans (show _ = some (Value.int .i64 x1) from rfl)
          have q2 := (cells_cell hX6 2).trans (show _ = some (Value.int .i64 x2) from rfl)
          have q3 := (cells_cell hX6 3).trans (show _ = some (Value.int .i64 x3) from rfl)
          have q4 := (cells_cell hX6 4).trans (show _ = some (h8 x4) from rfl)
          have f0 := cells_free hX6 0
          have f1 := cells_free hX6 1
          have f2 := cells_free hX6 2
          have f3 := cells_free hX6 3
          have f4 := cells_free hX6 4
          have p0 := (cells_cell hb6 0).trans (show _ = some (Value.int .i64 u0) from rfl)
          have p1 := (cells_cell hb6 1).trans (show _ = some (Value.int .i64 u1) from rfl)
          have p2 := (cells_cell hb6 2).trans (show _ = some (Value.int .i64 u2) from rfl)
          have p3 := (cells_cell hb6 3).trans (show _ = some (Value.int .i64 u3) from rfl)
          have p4 := (cells_cell hb6 4).trans (show _ = some (h8 u4) from rfl)
          have HW6 := Hd.mk hW6
          clear hB5 hX5 hb6 hB6 hX6 hW6
          go_upto_region 6 with fail
          rw [HW6.out]
          go_wp2_with fail
          go_roundw
          case rel => exact ⟨k + 1, by have := HLT.out; omega, by go_num, ⟨u0, u1, u2, u3, u4, set5 HX6.out _ _ _ _ _, HR.out⟩, ⟨below5 HB6.out (Nat.le_of_eq HX.out) _ _ _ _ _⟩⟩
          case measure => have := HLT.out; simp [intOf]; omega
    · obtain rfl : k = 300 := by omega
      have HR := Hd.mk ha
      clear ha hb hk hlt
      go_wp2_with fail
      go_ret
      exact ⟨by rw [← HR.out]; rfl, HB.out⟩
theorem above_at {v : Value} {l : List Hn} {w : World} (hl : SrcN hL w v l) {a b c d t : Int} {r : BitVec 8} {u : Bool} (hu : undB l l.length ⟨a, b, c, d, r⟩ t = u) (ht : Tr l) (h256 : l.length ≤ 256) (hm : (⟨a, b, c, d, r⟩ : Hn) ∈ l) :
    Calls Try.prog 35 #[v, .agg #[.int .i64 a, .int .i64 b, .int .i64 c, .int .i64 d, h8 r], .int .i64 t] w fun e w' => e = .returned (.bool u) ∧ Below w.heap.size w w' := by
  have := above_any hl ⟨a, b, c, d, r⟩ t
  rw [abv_300 ht h256 hm, hu] at this
  exact this

end Go.Proofs.Ytinagiofolmhbaa
