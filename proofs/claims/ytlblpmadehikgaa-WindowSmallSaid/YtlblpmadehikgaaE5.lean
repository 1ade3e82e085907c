/- The reference's Next. -/
import Derived.Test.YtlblpmadehikgaaE4
namespace Go.Proofs.Ytlblpmadehikgaa
open Go.RowKit Go.Shelf
set_option linter.unusedVariables false


set_option maxRecDepth 100000 in
set_option maxHeartbeats 4000000 in
theorem rnext_any (v : Value) (l : List Int) (A H : Int) (w : World) (hs : SrcI w v l) (hz : wrE l A H = 0) : Calls Try.prog 43 #[v, .int .i64 A, .int .i64 H] w fun e w' =>
    ∃ v', e = .returned (.tuple #[.agg #[.int .i64 (nxW A H l).1, .int .i64 (nxW A H l).2], v', .int .i64 (nxE A H l)]) ∧ OwnI w' w.heap.size v' (nxI A H l) ∧ Below w.heap.size w w' := by
  have HS := Hd.mk hs
  have h0 := wr_zero hz
  have hl := h0.1
  obtain ⟨hA0, hA1⟩ := ahead_le h0.2.1
  obtain ⟨hH0, hH1⟩ := hor_iff.1 h0.2.2.1
  have HTB := Hd.mk (fun t (ht : t ∈ l) => time_iff.1 (h0.2.2.2 t ht))
  have hnx := lst_next hz
  generalize nxE A H l = E at *
  generalize nxI A H l = I at *
  obtain ⟨⟨x, m⟩, hp⟩ : ∃ p, nxW A H l = p := ⟨_, rfl⟩
  rw [hp] at hnx ⊢
  have HNX := Hd.mk hnx
  clear hp hnx
  obtain ⟨a, c, rfl⟩ := hs.shape
  clear hs h0
  have hX := World.alloc_heap_new w (.cells #[.int .i64 0, .int .i64 0] 61)
  have hB0 : Below w.heap.size w (w.alloc (.cells #[.int .i64 0, .int .i64 0] 61)) := bl_alloc (Below.refl _ _)
  have HBX := Hd.mk hX
  have HB0 := Hd.mk hB0
  go_enter Try.func43, Try.ntmps43
  go_wp2_with fail
  obtain ⟨w1, hw1⟩ : ∃ x, w.alloc (.cells #[.int .i64 0, .int .i64 0] 61) = x := ⟨_, rfl⟩
  have HZ1 : Hd (w1.heap.size = w.heap.size + 1) := ⟨by rw [← hw1]; simp⟩
  rw [hw1] at HBX HB0 ⊢
  clear hw1 hX hB0
  go_loop [9, 10] (fun a i => ∃ k : Nat, k ≤ l.length ∧ a = .int .i64 (lstV (l.take k)) ∧ i = .int .i64 k) (fun _ i => l.length - (intOf i).toNat)
  case atStart => exact ⟨0, by omega, rfl, rfl⟩
  case round =>
    obtain ⟨k, hk, rfl, rfl⟩ := hrel
    by_cases hlt : k < l.length
    · obtain ⟨b, off, rfl, _, hx⟩ := (HS.out.below HB0.out).at k hlt
      have hls := lstV_succ hlt
      obtain ⟨x, hXx⟩ : ∃ x, l[k] = x := ⟨_, rfl⟩
      rw [hXx] at hx hls
      have HLS := Hd.mk hls
      have HLT := Hd.mk hlt
      have k0 : (0 : Int) ≤ (k : Int) := by omega
      have k1 : (k : Int) < (l.length : Int) := by omega
      clear hls hXx
      obtain ⟨L, hL⟩ : ∃ L, lstV (l.take k) = L := ⟨_, rfl⟩
      rw [hL] at HLS ⊢
      clear hL
      by_cases h1 : L < 0
      · have HN : Hd (lstV (l.take (k + 1)) = x) := ⟨by rw [HLS.out, if_pos (Or.inl h1)]⟩
        go_wp2_with fail
        go_round
        case rel => exact ⟨k + 1, HLT.out, by rw [HN.out], by go_num⟩
        case measure => have := HLT.out; simp [intOf] <;> omega
      · by_cases h2 : x < L
        · have HN : Hd (lstV (l.take (k + 1)) = x) := ⟨by rw [HLS.out, if_pos (Or.inr h2)]⟩
          go_wp2_with fail
          go_round
          case rel => exact ⟨k + 1, HLT.out, by rw [HN.out], by go_num⟩
          case measure => have := HLT.out; simp [intOf] <;> omega
        · have HN : Hd (lstV (l.take (k + 1)) = L) := ⟨by rw [HLS.out, if_neg (by omega)]⟩
          go_wp2_with fail
          go_round
          case rel => exact ⟨k + 1, HLT.out, by rw [HN.out], by go_num⟩
          case measure => have := HLT.out; simp [intOf] <;> omega
    · obtain rfl : k = l.length := by omega
      rw [List.take_length]
      obtain ⟨L, hL⟩ : ∃ L, lstV l = L := ⟨_, rfl⟩
      have hnx := HNX.out
      rw [hL] at hnx ⊢
      clear hL HNX hlt hk
      have c0 := cells_cell HBX.out 0
      have c1 := cells_cell HBX.out 1
      have f0 := cells_free HBX.out 0
      have f1 := cells_free HBX.out 1
      rcases hnx with ⟨e1, e2, e3, hno⟩ | ⟨e1, e2, e3, hL0, hLH, hLm, hle⟩
      · subst e1 e3
        obtain ⟨rfl, rfl⟩ : x = 0 ∧ m = 0 := by simpa using e2
        clear e2
        have hr := set2_heap HBX.out (.int .i64 0) (.int .i64 0)
        have HR := Hd.mk hr
        clear hr
        rcases (by omega : L < 0 ∨ (¬ L < 0 ∧ H ≤ L)) with h1 | ⟨h1, h2⟩
        · clear hno
          go_wp2_with fail
          refine bodyPost_ret (results_cell_row3 Try.results43 _ _ w.heap.size 61 #[.int .i64 0, .int .i64 0] (0, 0) _ rfl HR.out Try.underlying61 rfl (by kernel_rfl)) rfl ?_
          exact ⟨_, rfl, OwnI.nil _ _, (HB0.out.setCell (Nat.le_refl _) _).setCell (Nat.le_refl _) _⟩
        · clear hno
          go_wp2_with fail
          refine bodyPost_ret (results_cell_row3 Try.results43 _ _ w.heap.size 61 #[.int .i64 0, .int .i64 0] (0, 0) _ rfl HR.out Try.underlying61 rfl (by kernel_rfl)) rfl ?_
          exact ⟨_, rfl, OwnI.nil _ _, (HB0.out.setCell (Nat.le_refl _) _).setCell (Nat.le_refl _) _⟩
      · subst e1
        obtain ⟨rfl, hm⟩ : x = L ∧ m = min (L + A) H := by simpa using e2
        have HI : Hd (I = inL l m l.length) := ⟨by rw [e3, hm]⟩
        clear e3
        clear e2 c0 c1 f0 f1
        have hLT := HTB.out x hLm
        have hLT1 := hLT.2
        have hw : IntKind.i64.wrap (x + A) = x + A := IntWalk.i64_in _ ⟨by omega, by omega⟩
        have HLE := Hd.mk hle
        have hL1 : ¬ x < 0 := by omega
        have hLm' : x < m := by omega
        have hHm : m ≤ H := by omega
        have hmx : m ≤ x + A := by omega
        clear hle hLm hLT
        have hway : (H < x + A ∧ m = H) ∨ (x + A ≤ H ∧ x + A = m) := by omega
        have hwm : IntKind.i64.wrap m = m := IntWalk.i64_in _ ⟨by omega, by omega⟩
        have hzz := HZ1.out
        clear hm hmx
        rcases hway with ⟨h1, rfl⟩ | ⟨h1, h2⟩
        · go_upto_region 14 with fail
          have hb11 : (w1.alloc (.cells #[.int .i64 x, .int .i64 m] 61)).heap[w.heap.size + 1]? = some (.cells #[.int .i64 x, .int .i64 m] 61 (0, 0)) := by rw [← hzz]; exact World.alloc_heap_new _ _
          have hb6 : (w1.alloc (.cells #[.int .i64 x, .int .i64 m] 61)).heap[w.heap.size]? = some (.cells #[.int .i64 0, .int .i64 0] 61 (0, 0)) := (Below.heap_alloc _ _ _ (by omega)).trans HBX.out
          have hbw : Below w.heap.size w (w1.alloc (.cells #[.int .i64 x, .int .i64 m] 61)) := bl_alloc HB0.out
          have hbz : (w1.alloc (.cells #[.int .i64 x, .int .i64 m] 61)).heap.size = w.heap.size + 2 := by simp [hzz]
          obtain ⟨W2, hW2⟩ : ∃ Y, (w1.alloc (.cells #[.int .i64 x, .int .i64 m] 61)) = Y := ⟨_, rfl⟩
          rw [hW2] at hb11 hb6 hbw hbz
          try rw [hW2]
          clear hW2
          have HB11 := Hd.mk hb11
          have HB6 := Hd.mk hb6
          have HBW := Hd.mk hbw
          have HBZ := Hd.mk hbz
          clear hb11 hb6 hbw hbz hzz
          go_loopw [12, 13] (fun v i W => ∃ k : Nat, k ≤ l.length ∧ i = .int .i64 k ∧ AppI W W2.heap.size v (inL l m k) ∧ Below W2.heap.size W2 W) (fun _ i _ => l.length - (intOf i).toNat)
          case atStart => exact ⟨0, by omega, rfl, OwnE.nil _ _ _ _, Below.refl _ _⟩
          case round =>
            obtain ⟨k, hk, rfl, hO, hB⟩ := hrel
            have HO := Hd.mk hO
            have HB := Hd.mk hB
            have hin := inL_len l m k
            by_cases hlt : k < l.length
            · obtain ⟨b, off, rfl, hbb, hx⟩ := (HS.out.below (HBW.out.trans (hB.mono HBW.out.size))).at k hlt
              obtain ⟨t, ht⟩ : ∃ t, l[k] = t := ⟨_, rfl⟩
              have hxt : x ≤ t := by rw [← ht]; exact HLE.out _ (List.getElem_mem hlt)
              have hgd : l.getD k 0 = t := by rw [List.getD_eq_getElem?_getD, List.getElem?_eq_getElem hlt, Option.getD_some, ht]
              rw [ht] at hx
              have HGD := Hd.mk hgd
              have HLT := Hd.mk hlt
              have k0 : (0 : Int) ≤ (k : Int) := by omega
              have k1 : (k : Int) < (l.length : Int) := by omega
              have hb11 := (hB.block _ (lt_of_heap HB11.out)).trans HB11.out
              have c0 := cells_cell hb11 0
              have c1 := cells_cell hb11 1
              simp only [List.getElem?_toArray, List.getElem?_cons_zero, List.getElem?_cons_succ] at c0 c1
              have hd1 : decide (x ≤ t) = true := decide_eq_true hxt
              have HOd := Hd.mk (OwnE.below hO (bl_drew (Below.refl _ _)))
              clear ht hgd hbb hO hB hb11
              go_upto_region 16 with fail
              have hS0 : wr.cell? ⟨b, off + k, none⟩ = some (.int .i64 t) ∧ wr.cell? ⟨w.heap.size + 1, 0, none⟩ = some (.int .i64 x) ∧ wr.cell? ⟨w.heap.size + 1, 1, none⟩ = some (.int .i64 m) ∧ Below wr.heap.size wr wr := ⟨hx, c0, c1, Below.refl _ _⟩
              by_cases htm : t < m
              · have hd2 : decide (t < m) = true := decide_eq_true htm
                refine wp_region_held_drew (S := fun W => W.cell? ⟨b, off + k, none⟩ = some (.int .i64 t) ∧ W.cell? ⟨w.heap.size + 1, 0, none⟩ = some (.int .i64 x) ∧ W.cell? ⟨w.heap.size + 1, 1, none⟩ = some (.int .i64 m) ∧ Below wr.heap.size wr W) (by kernel_rfl) (s8_keep hS0 (bl_drew (Below.refl _ _))) (fun hS_ => ?_)
                try dsimp only at hS_
                refine takeW 0 ?_ rfl (by kernel_rfl) (by kernel_rfl) (by kernel_rfl) (fun _ _ _ h => h) (by rfl) ?_ hS_ ?_
                rotate_left
                · intro w hSw
                  try dsimp only at hSw
                  go_simp
                  with_reducible rfl
                try simp only [Act.put, List.setIfInBounds_toArray, List.set_cons_zero, List.set_cons_succ]
                refine takeW 1 ?_ rfl (by kernel_rfl) (by kernel_rfl) (by kernel_rfl) (fun _ _ _ h => h) (by rfl) ?_ hS_ ?_
                rotate_left
                · intro w hSw
                  try dsimp only at hSw
                  go_simp
                  with_reducible rfl
                try simp only [Act.put, List.setIfInBounds_toArray, List.set_cons_zero, List.set_cons_succ]
                refine takeW 2 ?_ rfl (by kernel_rfl) (by kernel_rfl) (by kernel_rfl) (fun _ _ _ h => h) (by rfl) ?_ hS_ ?_
                rotate_left
                · intro w hSw
                  try dsimp only at hSw
                  go_simp
                  with_reducible rfl
                try simp only [Act.put, List.setIfInBounds_toArray, List.set_cons_zero, List.set_cons_succ]
                refine takeW 3 ?_ rfl (by kernel_rfl) (by kernel_rfl) (by kernel_rfl) (fun _ _ _ h => h) (by rfl) ?_ hS_ ?_
                rotate_left
                · intro w hSw
                  try dsimp only at hSw
                  go_simp
                  with_reducible rfl
                try simp only [Act.put, List.setIfInBounds_toArray, List.set_cons_zero, List.set_cons_succ]
                refine takeW 4 ?_ rfl (by kernel_rfl) (by kernel_rfl) (by kernel_rfl) (fun _ _ _ h => h) (by rfl) ?_ hS_ ?_
                rotate_left
                · intro w hSw
                  try dsimp only at hSw
                  go_simp
                  with_reducible rfl
                try simp only [Act.put, List.setIfInBounds_toArray, List.set_cons_zero, List.set_cons_succ]
                refine takeW 5 ?_ rfl (by kernel_rfl) (by kernel_rfl) (by kernel_rfl) (fun _ _ _ h => h) (by rfl) ?_ hS_ ?_
                rotate_left
                · intro w hSw
                  try dsimp only at hSw
                  go_simp
                  with_reducible rfl
                try simp only [Act.put, List.setIfInBounds_toArray, List.set_cons_zero, List.set_cons_succ]
                refine takeW 6 ?_ rfl (by kernel_rfl) (by kernel_rfl) (by kernel_rfl) (fun _ _ _ h => h) (by rfl) ?_ hS_ ?_
                rotate_left
                · intro w hSw
                  try dsimp only at hSw
                  go_simp
                  with_reducible rfl
                try simp only [Act.put, List.setIfInBounds_toArray, List.set_cons_zero, List.set_cons_succ]
                refine takeW 7 ?_ rfl (by kernel_rfl) (by kernel_rfl) (by kernel_rfl) (fun _ _ _ h => h) (by rfl) ?_ hS_ ?_
                rotate_left
                · intro w hSw
                  try dsimp only at hSw
                  go_simp
                  with_reducible rfl
                try simp only [Act.put, List.setIfInBounds_toArray, List.set_cons_zero, List.set_cons_succ]
                refine takeW 8 ?_ rfl (by kernel_rfl) (by kernel_rfl) (by kernel_rfl) (fun _ _ _ h => h) (by rfl) ?_ hS_ ?_
                rotate_left
                · intro w hSw
                  try dsimp only at hSw
                  go_simp
                  with_reducible rfl
                try simp only [Act.put, List.setIfInBounds_toArray, List.set_cons_zero, List.set_cons_succ]
                refine takeW 9 ?_ rfl (by kernel_rfl) (by kernel_rfl) (by kernel_rfl) (fun _ _ _ h => h) (by rfl) ?_ hS_ ?_
                rotate_left
                · intro w hSw
                  try dsimp only at hSw
                  go_simp
                  with_reducible rfl
                try simp only [Act.put, List.setIfInBounds_toArray, List.set_cons_zero, List.set_cons_succ]
                refine takeW 10 ?_ rfl (by kernel_rfl) (by kernel_rfl) (by kernel_rfl) (fun _ _ _ h => h) (by rfl) ?_ hS_ ?_
                rotate_left
                · intro w hSw
                  try dsimp only at hSw
                  go_simp
                  with_reducible rfl
                try simp only [Act.put, List.setIfInBounds_toArray, List.set_cons_zero, List.set_cons_succ]
                refine takeW 11 ?_ rfl (by kernel_rfl) (by kernel_rfl) (by kernel_rfl) (fun _ _ _ h => h) (by rfl) ?_ hS_ ?_
                rotate_left
                · intro w hSw
                  try dsimp only at hSw
                  go_simp
                  with_reducible rfl
                try simp only [Act.put, List.setIfInBounds_toArray, List.set_cons_zero, List.set_cons_succ]
                refine takeW 12 ?_ rfl (by kernel_rfl) (by kernel_rfl) (by kernel_rfl) (fun _ _ _ h => h) (by rfl) ?_ hS_ ?_
                rotate_left
                · intro w hSw
                  try dsimp only at hSw
                  go_simp
                  with_reducible rfl
                try simp only [Act.put, List.setIfInBounds_toArray, List.set_cons_zero, List.set_cons_succ]
                refine takeW 13 ?_ rfl (by kernel_rfl) (by kernel_rfl) (by kernel_rfl) (fun _ _ _ h => h) (by rfl) ?_ hS_ ?_
                rotate_left
                · intro w hSw
                  try dsimp only at hSw
                  go_simp
                  with_reducible rfl
                try simp only [Act.put, List.setIfInBounds_toArray, List.set_cons_zero, List.set_cons_succ]
                refine takeW 14 ?_ rfl (by kernel_rfl) (by kernel_rfl) (by kernel_rfl) (fun _ _ _ h => h) (by rfl) ?_ hS_ ?_
                rotate_left
                · intro w hSw
                  try dsimp only at hSw
                  go_simp
                  with_reducible rfl
                try simp only [Act.put, List.setIfInBounds_toArray, List.set_cons_zero, List.set_cons_succ]
                refine takeW 15 ?_ rfl (by kernel_rfl) (by kernel_rfl) (by kernel_rfl) (fun _ _ _ h => h) (by rfl) ?_ hS_ ?_
                rotate_left
                · intro w hSw
                  try dsimp only at hSw
                  go_simp
                  with_reducible rfl
                try simp only [Act.put, List.setIfInBounds_toArray, List.set_cons_zero, List.set_cons_succ]
                refine wpAnyH_done (by kernel_rfl) ?_ _
                have HIN : Hd (inL l m (k + 1) = inL l m k ++ [(k : Int)]) := ⟨inL_yes (by rw [HGD.out]; exact htm)⟩
                have HBd := Hd.mk (HB.out.drew)
                obtain ⟨wd, hwd⟩ : ∃ Y, wr.drew = Y := ⟨_, rfl⟩
                rw [hwd] at HOd HBd ⊢
                obtain ⟨v', w2, hrun, ho2, hB2, -⟩ := push_i (k : Int) HOd.out HBd.out HBd.out.size (by omega)
                have HO2 := Hd.mk ho2
                have HB2 := Hd.mk hB2
                clear hwd ho2 hB2 hS_ hS0
                go_wp2_with (at_builtin; refine wpList_append_run rfl _ _ _ rfl rfl rfl hrun ?_; clear hrun)
                go_roundw
                case rel => exact ⟨k + 1, HLT.out, by go_num, by rw [HIN.out]; exact HO2.out, HB2.out⟩
                case measure => have := HLT.out; simp [intOf] <;> omega
              · have hd2 : decide (t < m) = false := decide_eq_false htm
                refine wp_region_held_drew (S := fun W => W.cell? ⟨b, off + k, none⟩ = some (.int .i64 t) ∧ W.cell? ⟨w.heap.size + 1, 0, none⟩ = some (.int .i64 x) ∧ W.cell? ⟨w.heap.size + 1, 1, none⟩ = some (.int .i64 m) ∧ Below wr.heap.size wr W) (by kernel_rfl) (s8_keep hS0 (bl_drew (Below.refl _ _))) (fun hS_ => ?_)
                try dsimp only at hS_
                refine takeW 0 ?_ rfl (by kernel_rfl) (by kernel_rfl) (by kernel_rfl) (fun _ _ _ h => h) (by rfl) ?_ hS_ ?_
                rotate_left
                · intro w hSw
                  try dsimp only at hSw
                  go_simp
                  with_reducible rfl
                try simp only [Act.put, List.setIfInBounds_toArray, List.set_cons_zero, List.set_cons_succ]
                refine takeW 1 ?_ rfl (by kernel_rfl) (by kernel_rfl) (by kernel_rfl) (fun _ _ _ h => h) (by rfl) ?_ hS_ ?_
                rotate_left
                · intro w hSw
                  try dsimp only at hSw
                  go_simp
                  with_reducible rfl
                try simp only [Act.put, List.setIfInBounds_toArray, List.set_cons_zero, List.set_cons_succ]
                refine takeW 2 ?_ rfl (by kernel_rfl) (by kernel_rfl) (by kernel_rfl) (fun _ _ _ h => h) (by rfl) ?_ hS_ ?_
                rotate_left
                · intro w hSw
                  try dsimp only at hSw
                  go_simp
                  with_reducible rfl
                try simp only [Act.put, List.setIfInBounds_toArray, List.set_cons_zero, List.set_cons_succ]
                refine takeW 3 ?_ rfl (by kernel_rfl) (by kernel_rfl) (by kernel_rfl) (fun _ _ _ h => h) (by rfl) ?_ hS_ ?_
                rotate_left
                · intro w hSw
                  try dsimp only at hSw
                  go_simp
                  with_reducible rfl
                try simp only [Act.put, List.setIfInBounds_toArray, List.set_cons_zero, List.set_cons_succ]
                refine takeW 4 ?_ rfl (by kernel_rfl) (by kernel_rfl) (by kernel_rfl) (fun _ _ _ h => h) (by rfl) ?_ hS_ ?_
                rotate_left
                · intro w hSw
                  try dsimp only at hSw
                  go_simp
                  with_reducible rfl
                try simp only [Act.put, List.setIfInBounds_toArray, List.set_cons_zero, List.set_cons_succ]
                refine takeW 5 ?_ rfl (by kernel_rfl) (by kernel_rfl) (by kernel_rfl) (fun _ _ _ h => h) (by rfl) ?_ hS_ ?_
                rotate_left
                · intro w hSw
                  try dsimp only at hSw
                  go_simp
                  with_reducible rfl
                try simp only [Act.put, List.setIfInBounds_toArray, List.set_cons_zero, List.set_cons_succ]
                refine takeW 6 ?_ rfl (by kernel_rfl) (by kernel_rfl) (by kernel_rfl) (fun _ _ _ h => h) (by rfl) ?_ hS_ ?_
                rotate_left
                · intro w hSw
                  try dsimp only at hSw
                  go_simp
                  with_reducible rfl
                try simp only [Act.put, List.setIfInBounds_toArray, List.set_cons_zero, List.set_cons_succ]
                refine takeW 7 ?_ rfl (by kernel_rfl) (by kernel_rfl) (by kernel_rfl) (fun _ _ _ h => h) (by rfl) ?_ hS_ ?_
                rotate_left
                · intro w hSw
                  try dsimp only at hSw
                  go_simp
                  with_reducible rfl
                try simp only [Act.put, List.setIfInBounds_toArray, List.set_cons_zero, List.set_cons_succ]
                refine takeW 8 ?_ rfl (by kernel_rfl) (by kernel_rfl) (by kernel_rfl) (fun _ _ _ h => h) (by rfl) ?_ hS_ ?_
                rotate_left
                · intro w hSw
                  try dsimp only at hSw
                  go_simp
                  with_reducible rfl
                try simp only [Act.put, List.setIfInBounds_toArray, List.set_cons_zero, List.set_cons_succ]
                refine takeW 9 ?_ rfl (by kernel_rfl) (by kernel_rfl) (by kernel_rfl) (fun _ _ _ h => h) (by rfl) ?_ hS_ ?_
                rotate_left
                · intro w hSw
                  try dsimp only at hSw
                  go_simp
                  with_reducible rfl
                try simp only [Act.put, List.setIfInBounds_toArray, List.set_cons_zero, List.set_cons_succ]
                refine takeW 10 ?_ rfl (by kernel_rfl) (by kernel_rfl) (by kernel_rfl) (fun _ _ _ h => h) (by rfl) ?_ hS_ ?_
                rotate_left
                · intro w hSw
                  try dsimp only at hSw
                  go_simp
                  with_reducible rfl
                try simp only [Act.put, List.setIfInBounds_toArray, List.set_cons_zero, List.set_cons_succ]
                refine takeW 11 ?_ rfl (by kernel_rfl) (by kernel_rfl) (by kernel_rfl) (fun _ _ _ h => h) (by rfl) ?_ hS_ ?_
                rotate_left
                · intro w hSw
                  try dsimp only at hSw
                  go_simp
                  with_reducible rfl
                try simp only [Act.put, List.setIfInBounds_toArray, List.set_cons_zero, List.set_cons_succ]
                refine takeW 12 ?_ rfl (by kernel_rfl) (by kernel_rfl) (by kernel_rfl) (fun _ _ _ h => h) (by rfl) ?_ hS_ ?_
                rotate_left
                · intro w hSw
                  try dsimp only at hSw
                  go_simp
                  with_reducible rfl
                try simp only [Act.put, List.setIfInBounds_toArray, List.set_cons_zero, List.set_cons_succ]
                refine takeW 13 ?_ rfl (by kernel_rfl) (by kernel_rfl) (by kernel_rfl) (fun _ _ _ h => h) (by rfl) ?_ hS_ ?_
                rotate_left
                · intro w hSw
                  try dsimp only at hSw
                  go_simp
                  with_reducible rfl
                try simp only [Act.put, List.setIfInBounds_toArray, List.set_cons_zero, List.set_cons_succ]
                refine takeW 14 ?_ rfl (by kernel_rfl) (by kernel_rfl) (by kernel_rfl) (fun _ _ _ h => h) (by rfl) ?_ hS_ ?_
                rotate_left
                · intro w hSw
                  try dsimp only at hSw
                  go_simp
                  with_reducible rfl
                try simp only [Act.put, List.setIfInBounds_toArray, List.set_cons_zero, List.set_cons_succ]
                refine takeW 15 ?_ rfl (by kernel_rfl) (by kernel_rfl) (by kernel_rfl) (fun _ _ _ h => h) (by rfl) ?_ hS_ ?_
                rotate_left
                · intro w hSw
                  try dsimp only at hSw
                  go_simp
                  with_reducible rfl
                try simp only [Act.put, List.setIfInBounds_toArray, List.set_cons_zero, List.set_cons_succ]
                refine wpAnyH_done (by kernel_rfl) ?_ _
                have HIN : Hd (inL l m (k + 1) = inL l m k) := ⟨inL_no (by rw [HGD.out]; exact htm)⟩
                have HBd := Hd.mk (HB.out.drew)
                clear hS_ hS0
                go_wp2_with fail
                go_roundw
                case rel => exact ⟨k + 1, HLT.out, by go_num, by rw [HIN.out]; exact HOd.out, HBd.out⟩
                case measure => have := HLT.out; simp [intOf] <;> omega
            · obtain rfl : k = l.length := by omega
              have hb11 := (hB.block _ (lt_of_heap HB11.out)).trans HB11.out
              have hb6 := (hB.block _ (lt_of_heap HB6.out)).trans HB6.out
              have c0 := cells_cell hb11 0
              have c1 := cells_cell hb11 1
              have d0 := cells_cell hb6 0
              have d1 := cells_cell hb6 1
              have f0 := cells_free hb6 0
              have f1 := cells_free hb6 1
              have HR := Hd.mk (set2_heap hb6 (.int .i64 x) (.int .i64 m))
              clear hO hB hb11 hb6 hlt
              obtain ⟨av, cv, rfl⟩ := SrcE.shape (OwnE.src HO.out)
              go_wp2_with fail
              refine bodyPost_ret (results_cell_row3 Try.results43 _ _ w.heap.size 61 #[.int .i64 x, .int .i64 m] (0, 0) _ rfl HR.out Try.underlying61 rfl (by kernel_rfl)) rfl ?_
              have hz2 := HBZ.out
              have o1 : AppI wr (w.heap.size + 1) (.slice av (inL l m l.length).length cv) (inL l m l.length) := AppI.lower HO.out (by omega)
              have o2 := OwnE.kept o1 (grown_set wr w.heap.size 0 (.int .i64 x)) (own_ne o1 (by omega))
              have o3 := OwnE.kept o2 (grown_set _ w.heap.size 1 (.int .i64 m)) (own_ne o2 (by omega))
              exact ⟨_, rfl, by rw [HI.out]; exact OwnI.of (AppI.lower o3 (by omega)), ((HBW.out.trans (HB.out.mono HBW.out.size)).setCell (Nat.le_refl _) _).setCell (Nat.le_refl _) _⟩
        · have hmH : decide (H < m) = false := decide_eq_false (by omega)
          go_upto_region 14 with fail
          have hb11 : (w1.alloc (.cells #[.int .i64 x, .int .i64 m] 61)).heap[w.heap.size + 1]? = some (.cells #[.int .i64 x, .int .i64 m] 61 (0, 0)) := by rw [← hzz]; exact World.alloc_heap_new _ _
          have hb6 : (w1.alloc (.cells #[.int .i64 x, .int .i64 m] 61)).heap[w.heap.size]? = some (.cells #[.int .i64 0, .int .i64 0] 61 (0, 0)) := (Below.heap_alloc _ _ _ (by omega)).trans HBX.out
          have hbw : Below w.heap.size w (w1.alloc (.cells #[.int .i64 x, .int .i64 m] 61)) := bl_alloc HB0.out
          have hbz : (w1.alloc (.cells #[.int .i64 x, .int .i64 m] 61)).heap.size = w.heap.size + 2 := by simp [hzz]
          obtain ⟨W2, hW2⟩ : ∃ Y, (w1.alloc (.cells #[.int .i64 x, .int .i64 m] 61)) = Y := ⟨_, rfl⟩
          rw [hW2] at hb11 hb6 hbw hbz
          try rw [hW2]
          clear hW2
          have HB11 := Hd.mk hb11
          have HB6 := Hd.mk hb6
          have HBW := Hd.mk hbw
          have HBZ := Hd.mk hbz
          clear hb11 hb6 hbw hbz hzz
          clear h2
          go_loopw [12, 13] (fun v i W => ∃ k : Nat, k ≤ l.length ∧ i = .int .i64 k ∧ AppI W W2.heap.size v (inL l m k) ∧ Below W2.heap.size W2 W) (fun _ i _ => l.length - (intOf i).toNat)
          case atStart => exact ⟨0, by omega, rfl, OwnE.nil _ _ _ _, Below.refl _ _⟩
          case round =>
            obtain ⟨k, hk, rfl, hO, hB⟩ := hrel
            have HO := Hd.mk hO
            have HB := Hd.mk hB
            have hin := inL_len l m k
            by_cases hlt : k < l.length
            · obtain ⟨b, off, rfl, hbb, hx⟩ := (HS.out.below (HBW.out.trans (hB.mono HBW.out.size))).at k hlt
              obtain ⟨t, ht⟩ : ∃ t, l[k] = t := ⟨_, rfl⟩
              have hxt : x ≤ t := by rw [← ht]; exact HLE.out _ (List.getElem_mem hlt)
              have hgd : l.getD k 0 = t := by rw [List.getD_eq_getElem?_getD, List.getElem?_eq_getElem hlt, Option.getD_some, ht]
              rw [ht] at hx
              have HGD := Hd.mk hgd
              have HLT := Hd.mk hlt
              have k0 : (0 : Int) ≤ (k : Int) := by omega
              have k1 : (k : Int) < (l.length : Int) := by omega
              have hb11 := (hB.block _ (lt_of_heap HB11.out)).trans HB11.out
              have c0 := cells_cell hb11 0
              have c1 := cells_cell hb11 1
              simp only [List.getElem?_toArray, List.getElem?_cons_zero, List.getElem?_cons_succ] at c0 c1
              have hd1 : decide (x ≤ t) = true := decide_eq_true hxt
              have HOd := Hd.mk (OwnE.below hO (bl_drew (Below.refl _ _)))
              clear ht hgd hbb hO hB hb11
              go_upto_region 16 with fail
              have hS0 : wr.cell? ⟨b, off + k, none⟩ = some (.int .i64 t) ∧ wr.cell? ⟨w.heap.size + 1, 0, none⟩ = some (.int .i64 x) ∧ wr.cell? ⟨w.heap.size + 1, 1, none⟩ = some (.int .i64 m) ∧ Below wr.heap.size wr wr := ⟨hx, c0, c1, Below.refl _ _⟩
              by_cases htm : t < m
              · have hd2 : decide (t < m) = true := decide_eq_true htm
                refine wp_region_held_drew (S := fun W => W.cell? ⟨b, off + k, none⟩ = some (.int .i64 t) ∧ W.cell? ⟨w.heap.size + 1, 0, none⟩ = some (.int .i64 x) ∧ W.cell? ⟨w.heap.size + 1, 1, none⟩ = some (.int .i64 m) ∧ Below wr.heap.size wr W) (by kernel_rfl) (s8_keep hS0 (bl_drew (Below.refl _ _))) (fun hS_ => ?_)
                try dsimp only at hS_
                refine takeW 0 ?_ rfl (by kernel_rfl) (by kernel_rfl) (by kernel_rfl) (fun _ _ _ h => h) (by rfl) ?_ hS_ ?_
                rotate_left
                · intro w hSw
                  try dsimp only at hSw
                  go_simp
                  with_reducible rfl
                try simp only [Act.put, List.setIfInBounds_toArray, List.set_cons_zero, List.set_cons_succ]
                refine takeW 1 ?_ rfl (by kernel_rfl) (by kernel_rfl) (by kernel_rfl) (fun _ _ _ h => h) (by rfl) ?_ hS_ ?_
                rotate_left
                · intro w hSw
                  try dsimp only at hSw
                  go_simp
                  with_reducible rfl
                try simp only [Act.put, List.setIfInBounds_toArray, List.set_cons_zero, List.set_cons_succ]
                refine takeW 2 ?_ rfl (by kernel_rfl) (by kernel_rfl) (by kernel_rfl) (fun _ _ _ h => h) (by rfl) ?_ hS_ ?_
                rotate_left
                · intro w hSw
                  try dsimp only at hSw
                  go_simp
                  with_reducible rfl
                try simp only [Act.put, List.setIfInBounds_toArray, List.set_cons_zero, List.set_cons_succ]
                refine takeW 3 ?_ rfl (by kernel_rfl) (by kernel_rfl) (by kernel_rfl) (fun _ _ _ h => h) (by rfl) ?_ hS_ ?_
                rotate_left
                · intro w hSw
                  try dsimp only at hSw
                  go_simp
                  with_reducible rfl
                try simp only [Act.put, List.setIfInBounds_toArray, List.set_cons_zero, List.set_cons_succ]
                refine takeW 4 ?_ rfl (by kernel_rfl) (by kernel_rfl) (by kernel_rfl) (fun _ _ _ h => h) (by rfl) ?_ hS_ ?_
                rotate_left
                · intro w hSw
                  try dsimp only at hSw
                  go_simp
                  with_reducible rfl
                try simp only [Act.put, List.setIfInBounds_toArray, List.set_cons_zero, List.set_cons_succ]
                refine takeW 5 ?_ rfl (by kernel_rfl) (by kernel_rfl) (by kernel_rfl) (fun _ _ _ h => h) (by rfl) ?_ hS_ ?_
                rotate_left
                · intro w hSw
                  try dsimp only at hSw
                  go_simp
                  with_reducible rfl
                try simp only [Act.put, List.setIfInBounds_toArray, List.set_cons_zero, List.set_cons_succ]
                refine takeW 6 ?_ rfl (by kernel_rfl) (by kernel_rfl) (by kernel_rfl) (fun _ _ _ h => h) (by rfl) ?_ hS_ ?_
                rotate_left
                · intro w hSw
                  try dsimp only at hSw
                  go_simp
                  with_reducible rfl
                try simp only [Act.put, List.setIfInBounds_toArray, List.set_cons_zero, List.set_cons_succ]
                refine takeW 7 ?_ rfl (by kernel_rfl) (by kernel_rfl) (by kernel_rfl) (fun _ _ _ h => h) (by rfl) ?_ hS_ ?_
                rotate_left
                · intro w hSw
                  try dsimp only at hSw
                  go_simp
                  with_reducible rfl
                try simp only [Act.put, List.setIfInBounds_toArray, List.set_cons_zero, List.set_cons_succ]
                refine takeW 8 ?_ rfl (by kernel_rfl) (by kernel_rfl) (by kernel_rfl) (fun _ _ _ h => h) (by rfl) ?_ hS_ ?_
                rotate_left
                · intro w hSw
                  try dsimp only at hSw
                  go_simp
                  with_reducible rfl
                try simp only [Act.put, List.setIfInBounds_toArray, List.set_cons_zero, List.set_cons_succ]
                refine takeW 9 ?_ rfl (by kernel_rfl) (by kernel_rfl) (by kernel_rfl) (fun _ _ _ h => h) (by rfl) ?_ hS_ ?_
                rotate_left
                · intro w hSw
                  try dsimp only at hSw
                  go_simp
                  with_reducible rfl
                try simp only [Act.put, List.setIfInBounds_toArray, List.set_cons_zero, List.set_cons_succ]
                refine takeW 10 ?_ rfl (by kernel_rfl) (by kernel_rfl) (by kernel_rfl) (fun _ _ _ h => h) (by rfl) ?_ hS_ ?_
                rotate_left
                · intro w hSw
                  try dsimp only at hSw
                  go_simp
                  with_reducible rfl
                try simp only [Act.put, List.setIfInBounds_toArray, List.set_cons_zero, List.set_cons_succ]
                refine takeW 11 ?_ rfl (by kernel_rfl) (by kernel_rfl) (by kernel_rfl) (fun _ _ _ h => h) (by rfl) ?_ hS_ ?_
                rotate_left
                · intro w hSw
                  try dsimp only at hSw
                  go_simp
                  with_reducible rfl
                try simp only [Act.put, List.setIfInBounds_toArray, List.set_cons_zero, List.set_cons_succ]
                refine takeW 12 ?_ rfl (by kernel_rfl) (by kernel_rfl) (by kernel_rfl) (fun _ _ _ h => h) (by rfl) ?_ hS_ ?_
                rotate_left
                · intro w hSw
                  try dsimp only at hSw
                  go_simp
                  with_reducible rfl
                try simp only [Act.put, List.setIfInBounds_toArray, List.set_cons_zero, List.set_cons_succ]
                refine takeW 13 ?_ rfl (by kernel_rfl) (by kernel_rfl) (by kernel_rfl) (fun _ _ _ h => h) (by rfl) ?_ hS_ ?_
                rotate_left
                · intro w hSw
                  try dsimp only at hSw
                  go_simp
                  with_reducible rfl
                try simp only [Act.put, List.setIfInBounds_toArray, List.set_cons_zero, List.set_cons_succ]
                refine takeW 14 ?_ rfl (by kernel_rfl) (by kernel_rfl) (by kernel_rfl) (fun _ _ _ h => h) (by rfl) ?_ hS_ ?_
                rotate_left
                · intro w hSw
                  try dsimp only at hSw
                  go_simp
                  with_reducible rfl
                try simp only [Act.put, List.setIfInBounds_toArray, List.set_cons_zero, List.set_cons_succ]
                refine takeW 15 ?_ rfl (by kernel_rfl) (by kernel_rfl) (by kernel_rfl) (fun _ _ _ h => h) (by rfl) ?_ hS_ ?_
                rotate_left
                · intro w hSw
                  try dsimp only at hSw
                  go_simp
                  with_reducible rfl
                try simp only [Act.put, List.setIfInBounds_toArray, List.set_cons_zero, List.set_cons_succ]
                refine wpAnyH_done (by kernel_rfl) ?_ _
                have HIN : Hd (inL l m (k + 1) = inL l m k ++ [(k : Int)]) := ⟨inL_yes (by rw [HGD.out]; exact htm)⟩
                have HBd := Hd.mk (HB.out.drew)
                obtain ⟨wd, hwd⟩ : ∃ Y, wr.drew = Y := ⟨_, rfl⟩
                rw [hwd] at HOd HBd ⊢
                obtain ⟨v', w2, hrun, ho2, hB2, -⟩ := push_i (k : Int) HOd.out HBd.out HBd.out.size (by omega)
                have HO2 := Hd.mk ho2
                have HB2 := Hd.mk hB2
                clear hwd ho2 hB2 hS_ hS0
                go_wp2_with (at_builtin; refine wpList_append_run rfl _ _ _ rfl rfl rfl hrun ?_; clear hrun)
                go_roundw
                case rel => exact ⟨k + 1, HLT.out, by go_num, by rw [HIN.out]; exact HO2.out, HB2.out⟩
                case measure => have := HLT.out; simp [intOf] <;> omega
              · have hd2 : decide (t < m) = false := decide_eq_false htm
                refine wp_region_held_drew (S := fun W => W.cell? ⟨b, off + k, none⟩ = some (.int .i64 t) ∧ W.cell? ⟨w.heap.size + 1, 0, none⟩ = some (.int .i64 x) ∧ W.cell? ⟨w.heap.size + 1, 1, none⟩ = some (.int .i64 m) ∧ Below wr.heap.size wr W) (by kernel_rfl) (s8_keep hS0 (bl_drew (Below.refl _ _))) (fun hS_ => ?_)
                try dsimp only at hS_
                refine takeW 0 ?_ rfl (by kernel_rfl) (by kernel_rfl) (by kernel_rfl) (fun _ _ _ h => h) (by rfl) ?_ hS_ ?_
                rotate_left
                · intro w hSw
                  try dsimp only at hSw
                  go_simp
                  with_reducible rfl
                try simp only [Act.put, List.setIfInBounds_toArray, List.set_cons_zero, List.set_cons_succ]
                refine takeW 1 ?_ rfl (by kernel_rfl) (by kernel_rfl) (by kernel_rfl) (fun _ _ _ h => h) (by rfl) ?_ hS_ ?_
                rotate_left
                · intro w hSw
                  try dsimp only at hSw
                  go_simp
                  with_reducible rfl
                try simp only [Act.put, List.setIfInBounds_toArray, List.set_cons_zero, List.set_cons_succ]
                refine takeW 2 ?_ rfl (by kernel_rfl) (by kernel_rfl) (by kernel_rfl) (fun _ _ _ h => h) (by rfl) ?_ hS_ ?_
                rotate_left
                · intro w hSw
                  try dsimp only at hSw
                  go_simp
                  with_reducible rfl
                try simp only [Act.put, List.setIfInBounds_toArray, List.set_cons_zero, List.set_cons_succ]
                refine takeW 3 ?_ rfl (by kernel_rfl) (by kernel_rfl) (by kernel_rfl) (fun _ _ _ h => h) (by rfl) ?_ hS_ ?_
                rotate_left
                · intro w hSw
                  try dsimp only at hSw
                  go_simp
                  with_reducible rfl
                try simp only [Act.put, List.setIfInBounds_toArray, List.set_cons_zero, List.set_cons_succ]
                refine takeW 4 ?_ rfl (by kernel_rfl) (by kernel_rfl) (by kernel_rfl) (fun _ _ _ h => h) (by rfl) ?_ hS_ ?_
                rotate_left
                · intro w hSw
                  try dsimp only at hSw
                  go_simp
                  with_reducible rfl
                try simp only [Act.put, List.setIfInBounds_toArray, List.set_cons_zero, List.set_cons_succ]
                refine takeW 5 ?_ rfl (by kernel_rfl) (by kernel_rfl) (by kernel_rfl) (fun _ _ _ h => h) (by rfl) ?_ hS_ ?_
                rotate_left
                · intro w hSw
                  try dsimp only at hSw
                  go_simp
                  with_reducible rfl
                try simp only [Act.put, List.setIfInBounds_toArray, List.set_cons_zero, List.set_cons_succ]
                refine takeW 6 ?_ rfl (by kernel_rfl) (by kernel_rfl) (by kernel_rfl) (fun _ _ _ h => h) (by rfl) ?_ hS_ ?_
                rotate_left
                · intro w hSw
                  try dsimp only at hSw
                  go_simp
                  with_reducible rfl
                try simp only [Act.put, List.setIfInBounds_toArray, List.set_cons_zero, List.set_cons_succ]
                refine takeW 7 ?_ rfl (by kernel_rfl) (by kernel_rfl) (by kernel_rfl) (fun _ _ _ h => h) (by rfl) ?_ hS_ ?_
                rotate_left
                · intro w hSw
                  try dsimp only at hSw
                  go_simp
                  with_reducible rfl
                try simp only [Act.put, List.setIfInBounds_toArray, List.set_cons_zero, List.set_cons_succ]
                refine takeW 8 ?_ rfl (by kernel_rfl) (by kernel_rfl) (by kernel_rfl) (fun _ _ _ h => h) (by rfl) ?_ hS_ ?_
                rotate_left
                · intro w hSw
                  try dsimp only at hSw
                  go_simp
                  with_reducible rfl
                try simp only [Act.put, List.setIfInBounds_toArray, List.set_cons_zero, List.set_cons_succ]
                refine takeW 9 ?_ rfl (by kernel_rfl) (by kernel_rfl) (by kernel_rfl) (fun _ _ _ h => h) (by rfl) ?_ hS_ ?_
                rotate_left
                · intro w hSw
                  try dsimp only at hSw
                  go_simp
                  with_reducible rfl
                try simp only [Act.put, List.setIfInBounds_toArray, List.set_cons_zero, List.set_cons_succ]
                refine takeW 10 ?_ rfl (by kernel_rfl) (by kernel_rfl) (by kernel_rfl) (fun _ _ _ h => h) (by rfl) ?_ hS_ ?_
                rotate_left
                · intro w hSw
                  try dsimp only at hSw
                  go_simp
                  with_reducible rfl
                try simp only [Act.put, List.setIfInBounds_toArray, List.set_cons_zero, List.set_cons_succ]
                refine takeW 11 ?_ rfl (by kernel_rfl) (by kernel_rfl) (by kernel_rfl) (fun _ _ _ h => h) (by rfl) ?_ hS_ ?_
                rotate_left
                · intro w hSw
                  try dsimp only at hSw
                  go_simp
                  with_reducible rfl
                try simp only [Act.put, List.setIfInBounds_toArray, List.set_cons_zero, List.set_cons_succ]
                refine takeW 12 ?_ rfl (by kernel_rfl) (by kernel_rfl) (by kernel_rfl) (fun _ _ _ h => h) (by rfl) ?_ hS_ ?_
                rotate_left
                · intro w hSw
                  try dsimp only at hSw
                  go_simp
                  with_reducible rfl
                try simp only [Act.put, List.setIfInBounds_toArray, List.set_cons_zero, List.set_cons_succ]
                refine takeW 13 ?_ rfl (by kernel_rfl) (by kernel_rfl) (by kernel_rfl) (fun _ _ _ h => h) (by rfl) ?_ hS_ ?_
                rotate_left
                · intro w hSw
                  try dsimp only at hSw
                  go_simp
                  with_reducible rfl
                try simp only [Act.put, List.setIfInBounds_toArray, List.set_cons_zero, List.set_cons_succ]
                refine takeW 14 ?_ rfl (by kernel_rfl) (by kernel_rfl) (by kernel_rfl) (fun _ _ _ h => h) (by rfl) ?_ hS_ ?_
                rotate_left
                · intro w hSw
                  try dsimp only at hSw
                  go_simp
                  with_reducible rfl
                try simp only [Act.put, List.setIfInBounds_toArray, List.set_cons_zero, List.set_cons_succ]
                refine takeW 15 ?_ rfl (by kernel_rfl) (by kernel_rfl) (by kernel_rfl) (fun _ _ _ h => h) (by rfl) ?_ hS_ ?_
                rotate_left
                · intro w hSw
                  try dsimp only at hSw
                  go_simp
                  with_reducible rfl
                try simp only [Act.put, List.setIfInBounds_toArray, List.set_cons_zero, List.set_cons_succ]
                refine wpAnyH_done (by kernel_rfl) ?_ _
                have HIN : Hd (inL l m (k + 1) = inL l m k) := ⟨inL_no (by rw [HGD.out]; exact htm)⟩
                have HBd := Hd.mk (HB.out.drew)
                clear hS_ hS0
                go_wp2_with fail
                go_roundw
                case rel => exact ⟨k + 1, HLT.out, by go_num, by rw [HIN.out]; exact HOd.out, HBd.out⟩
                case measure => have := HLT.out; simp [intOf] <;> omega
            · obtain rfl : k = l.length := by omega
              have hb11 := (hB.block _ (lt_of_heap HB11.out)).trans HB11.out
              have hb6 := (hB.block _ (lt_of_heap HB6.out)).trans HB6.out
              have c0 := cells_cell hb11 0
              have c1 := cells_cell hb11 1
              have d0 := cells_cell hb6 0
              have d1 := cells_cell hb6 1
              have f0 := cells_free hb6 0
              have f1 := cells_free hb6 1
              have HR := Hd.mk (set2_heap hb6 (.int .i64 x) (.int .i64 m))
              clear hO hB hb11 hb6 hlt
              obtain ⟨av, cv, rfl⟩ := SrcE.shape (OwnE.src HO.out)
              go_wp2_with fail
              refine bodyPost_ret (results_cell_row3 Try.results43 _ _ w.heap.size 61 #[.int .i64 x, .int .i64 m] (0, 0) _ rfl HR.out Try.underlying61 rfl (by kernel_rfl)) rfl ?_
              have hz2 := HBZ.out
              have o1 : AppI wr (w.heap.size + 1) (.slice av (inL l m l.length).length cv) (inL l m l.length) := AppI.lower HO.out (by omega)
              have o2 := OwnE.kept o1 (grown_set wr w.heap.size 0 (.int .i64 x)) (own_ne o1 (by omega))
              have o3 := OwnE.kept o2 (grown_set _ w.heap.size 1 (.int .i64 m)) (own_ne o2 (by omega))
              exact ⟨_, rfl, by rw [HI.out]; exact OwnI.of (AppI.lower o3 (by omega)), ((HBW.out.trans (HB.out.mono HBW.out.size)).setCell (Nat.le_refl _) _).setCell (Nat.le_refl _) _⟩
end Go.Proofs.Ytlblpmadehikgaa
