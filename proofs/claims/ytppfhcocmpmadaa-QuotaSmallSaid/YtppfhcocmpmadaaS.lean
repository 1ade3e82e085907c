/- The law QuotaSmall: its walk. -/
import Derived.Test.YtppfhcocmpmadaaS4
import Derived.Test.YtppfhcocmpmadaaB8
import Derived.Deep.CutBlock
import Derived.OwnWalk
namespace Go.Proofs.Ytppfhcocmpmadaa
open Go.RowKit
set_option linter.unusedVariables false

theorem qs8_keep {B W W' : World} {g : Nat} {L U : Nat → Int} (h : W.cell? ⟨g, 0, none⟩ = some (.int .i64 (L 0)) ∧ W.cell? ⟨g, 1, none⟩ = some (.int .i64 (L 1)) ∧ W.cell? ⟨g, 2, none⟩ = some (.int .i64 (L 2)) ∧ W.cell? ⟨g, 3, none⟩ = some (.int .i64 (L 3)) ∧ W.cell? ⟨g, 4, none⟩ = some (.int .i64 (U 0)) ∧ W.cell? ⟨g, 5, none⟩ = some (.int .i64 (U 1)) ∧ W.cell? ⟨g, 6, none⟩ = some (.int .i64 (U 2)) ∧ W.cell? ⟨g, 7, none⟩ = some (.int .i64 (U 3)) ∧ Below B.heap.size B W) (hB : Below W.heap.size W W') :
    W'.cell? ⟨g, 0, none⟩ = some (.int .i64 (L 0)) ∧ W'.cell? ⟨g, 1, none⟩ = some (.int .i64 (L 1)) ∧ W'.cell? ⟨g, 2, none⟩ = some (.int .i64 (L 2)) ∧ W'.cell? ⟨g, 3, none⟩ = some (.int .i64 (L 3)) ∧ W'.cell? ⟨g, 4, none⟩ = some (.int .i64 (U 0)) ∧ W'.cell? ⟨g, 5, none⟩ = some (.int .i64 (U 1)) ∧ W'.cell? ⟨g, 6, none⟩ = some (.int .i64 (U 2)) ∧ W'.cell? ⟨g, 7, none⟩ = some (.int .i64 (U 3)) ∧ Below B.heap.size B W' := by
  obtain ⟨h0, h1, h2, h3, h4, h5, h6, h7, h8⟩ := h
  exact ⟨(hB.cell (p := ⟨g, 0, none⟩) (World.block_lt_of_cell? _ _ h0)).trans h0, (hB.cell (p := ⟨g, 1, none⟩) (World.block_lt_of_cell? _ _ h1)).trans h1, (hB.cell (p := ⟨g, 2, none⟩) (World.block_lt_of_cell? _ _ h2)).trans h2, (hB.cell (p := ⟨g, 3, none⟩) (World.block_lt_of_cell? _ _ h3)).trans h3, (hB.cell (p := ⟨g, 4, none⟩) (World.block_lt_of_cell? _ _ h4)).trans h4, (hB.cell (p := ⟨g, 5, none⟩) (World.block_lt_of_cell? _ _ h5)).trans h5, (hB.cell (p := ⟨g, 6, none⟩) (World.block_lt_of_cell? _ _ h6)).trans h6, (hB.cell (p := ⟨g, 7, none⟩) (World.block_lt_of_cell? _ _ h7)).trans h7, ch4 h8 hB⟩
theorem qs8_below {B W : World} {g : Nat} {L U : Nat → Int} (h : W.cell? ⟨g, 0, none⟩ = some (.int .i64 (L 0)) ∧ W.cell? ⟨g, 1, none⟩ = some (.int .i64 (L 1)) ∧ W.cell? ⟨g, 2, none⟩ = some (.int .i64 (L 2)) ∧ W.cell? ⟨g, 3, none⟩ = some (.int .i64 (L 3)) ∧ W.cell? ⟨g, 4, none⟩ = some (.int .i64 (U 0)) ∧ W.cell? ⟨g, 5, none⟩ = some (.int .i64 (U 1)) ∧ W.cell? ⟨g, 6, none⟩ = some (.int .i64 (U 2)) ∧ W.cell? ⟨g, 7, none⟩ = some (.int .i64 (U 3)) ∧ Below B.heap.size B W) : Below B.heap.size B W := by
  obtain ⟨h0, h1, h2, h3, h4, h5, h6, h7, h8⟩ := h
  exact h8
theorem qs8_of {B : World} {g : Nat} {L U : Nat → Int} (h : B.heap[g]? = some (.cells (bk L U) 27 (0, 0))) :
    B.cell? ⟨g, 0, none⟩ = some (.int .i64 (L 0)) ∧ B.cell? ⟨g, 1, none⟩ = some (.int .i64 (L 1)) ∧ B.cell? ⟨g, 2, none⟩ = some (.int .i64 (L 2)) ∧ B.cell? ⟨g, 3, none⟩ = some (.int .i64 (L 3)) ∧ B.cell? ⟨g, 4, none⟩ = some (.int .i64 (U 0)) ∧ B.cell? ⟨g, 5, none⟩ = some (.int .i64 (U 1)) ∧ B.cell? ⟨g, 6, none⟩ = some (.int .i64 (U 2)) ∧ B.cell? ⟨g, 7, none⟩ = some (.int .i64 (U 3)) ∧ Below B.heap.size B B := by
  obtain ⟨⟨c0, c1, c2, c3, c4, c5, c6, c7⟩, -⟩ := bk_cells h
  exact ⟨c0, c1, c2, c3, c4, c5, c6, c7, Below.refl _ _⟩
theorem k0qs (w : World) (o1 o2 : Obj) : Below w.heap.size w ((w.alloc o1).alloc o2) := ((Below.refl _ _).alloc (Nat.le_refl _) _).alloc (by simp) _

def s9 : List (Int × Int) := [(0, 1), (0, 2), (0, (-1)), (0, (-3)), (1, 1), (1, (-1)), (3, 5), (2, 0), (4, 1)]
def B24 : Array Value := #[.int .i64 2, .int .i64 1, .int .i64 0, .int .i64 5, .int .i64 0, .int .i64 0, .int .i64 0, .int .i64 0, .int .i64 3, .int .i64 1, .int .i64 1, .int .i64 5, .int .i64 2, .int .i64 0, .int .i64 0, .int .i64 0, .int .i64 1, .int .i64 0, .int .i64 9, .int .i64 4, .int .i64 1, .int .i64 0, .int .i64 0, .int .i64 0]
def N10 : Array Value := #[.int .i64 (-9223372036854775808), .int .i64 (-1099511627777), .int .i64 (-1099511627776), .int .i64 (-1), .int .i64 0, .int .i64 1, .int .i64 1099511627775, .int .i64 1099511627776, .int .i64 1099511627777, .int .i64 9223372036854775807]
theorem b24_at {W : World} {g : Nat} (h : W.heap[g]? = some (.cells B24 27 (0, 0))) (j : Nat) (hj : j < 3) : ∃ L U : Nat → Int, W.cell? ⟨g, j * 8, none⟩ = some (.int .i64 (L 0)) ∧ W.cell? ⟨g, j * 8 + 1, none⟩ = some (.int .i64 (L 1)) ∧ W.cell? ⟨g, j * 8 + 2, none⟩ = some (.int .i64 (L 2)) ∧ W.cell? ⟨g, j * 8 + 3, none⟩ = some (.int .i64 (L 3)) ∧ W.cell? ⟨g, j * 8 + 4, none⟩ = some (.int .i64 (U 0)) ∧ W.cell? ⟨g, j * 8 + 5, none⟩ = some (.int .i64 (U 1)) ∧ W.cell? ⟨g, j * 8 + 6, none⟩ = some (.int .i64 (U 2)) ∧ W.cell? ⟨g, j * 8 + 7, none⟩ = some (.int .i64 (U 3)) := by
  have : j = 0 ∨ j = 1 ∨ j = 2 := by omega
  rcases this with rfl | rfl | rfl
  · exact ⟨lst [2, 1, 0, 5], lst [0], cells_cell h _, cells_cell h _, cells_cell h _, cells_cell h _, cells_cell h _, cells_cell h _, cells_cell h _, cells_cell h _⟩
  · exact ⟨lst [3, 1, 1, 5], lst [2], cells_cell h _, cells_cell h _, cells_cell h _, cells_cell h _, cells_cell h _, cells_cell h _, cells_cell h _, cells_cell h _⟩
  · exact ⟨lst [1, 0, 9, 4], lst [1], cells_cell h _, cells_cell h _, cells_cell h _, cells_cell h _, cells_cell h _, cells_cell h _, cells_cell h _, cells_cell h _⟩
theorem n10_at {W : World} {g : Nat} (h : W.heap[g]? = some (.cells N10 3 (0, 0))) (k : Nat) (hk : k < 10) : ∃ p : Int, W.cell? ⟨g, k, none⟩ = some (.int .i64 p) := by
  have : k = 0 ∨ k = 1 ∨ k = 2 ∨ k = 3 ∨ k = 4 ∨ k = 5 ∨ k = 6 ∨ k = 7 ∨ k = 8 ∨ k = 9 := by omega
  rcases this with rfl | rfl | rfl | rfl | rfl | rfl | rfl | rfl | rfl | rfl <;> exact ⟨_, cells_cell h _⟩
theorem bigN_set {W : World} {g : Nat} {cur : Array Value} (h : SrcC W (.slice (some ⟨g, 0, none⟩) 4097 4097) bigC) (hh : W.heap[g]? = some (.cells cur 32 (0, 0))) : SrcC (W.setCell ⟨g, 0, none⟩ (.int .i64 (-1))) (.slice (some ⟨g, 0, none⟩) 4097 4097) bigN := by
  have hs := cells_set (o := 0) hh (.int .i64 (-1))
  have hat : ∀ j (hj : j < bigC.length), cur[j * 2]? = some (.int .i64 bigC[j].1) ∧ cur[j * 2 + 1]? = some (.int .i64 bigC[j].2) := fun j hj => by
    rcases h with ⟨h, -⟩ | ⟨b, off, c, hv, -, -, -, hc⟩
    · have := bigC_len; rw [h] at this; simp at this
    · simp only [Value.slice.injEq, Option.some.injEq, Addr.mk.injEq] at hv
      obtain ⟨⟨rfl, rfl, -⟩, -, -⟩ := hv
      have := hc j hj
      rw [Nat.zero_add, cells_cell hh, cells_cell hh] at this
      exact this
  refine .inr ⟨g, 0, 4097, by rw [bigN_len], by rw [bigN_len]; exact Nat.le_refl _, by simp [maxLen], lt_of_heap hs, fun j hj => ?_⟩
  have hj' : j < 4097 := by rwa [bigN_len] at hj
  have hjC : j < bigC.length := by rw [bigC_len]; exact hj'
  obtain ⟨h1, h2⟩ := hat j hjC
  rw [bigC_get j hjC] at h1 h2
  rw [Nat.zero_add, bigN_get j hj, cells_cell hs, cells_cell hs]
  have hsz : j * 2 + 1 < cur.size := by
    rcases Nat.lt_or_ge (j * 2 + 1) cur.size with h | h
    · exact h
    · rw [Array.getElem?_eq_none h] at h2; cases h2
  refine ⟨?_, ?_⟩
  · by_cases h0 : j = 0
    · subst h0; rw [if_pos rfl, Array.getElem?_setIfInBounds, if_pos (by omega), if_pos (by omega)]
    · rw [if_neg h0, Array.getElem?_setIfInBounds, if_neg (by omega)]; exact h1
  · rw [Array.getElem?_setIfInBounds, if_neg (by omega)]; exact h2
theorem s5_make {w : World} {ops : Array Oper} {rest : List Oper} {o : Oper} {a : Act} {Q : Exit → Act → World → Prop} (hg : o.guard = none) (l c : Operand) (hop : o.op = Op.makeSlice 28 l c) (base : Nat)
    (hl : a.eval l = .int .i64 4097) (hc : a.eval c = .int .i64 4097) (b4 : base ≤ w.heap.size)
    (hK : ∀ w' xs, w'.ownsRow base 32 2 (.slice (some ⟨w.heap.size, 0, none⟩) 4097 4097) 4097 xs → w.grownBy w' none → wpList Try.prog ops Q rest (a.put o.dst (.slice (some ⟨w.heap.size, 0, none⟩) 4097 4097)) w') : wpList Try.prog ops Q (o :: rest) a w := by
  obtain ⟨i, z, hi, hz, hzs, hsz, hby⟩ := info32
  exact wpList_make_full w hg l c 28 hop base 32 i z 2 Try.underlying28 hi hz hsz .i64 .i64 4097 4097 4097 hl hc rfl rfl (by rw [hby]; decide) (by simp [maxLen]) b4 (fun w' h1 h2 => hK w' _ h1 h2)
theorem s5_cells {W : World} {g : Nat} (h : W.heap[g]? = some (.cells (bk bigL bigU) 27 (0, 0))) :
    W.cell? ⟨g, 0, none⟩ = some (.int .i64 1099511627776) ∧ W.cell? ⟨g, 1, none⟩ = some (.int .i64 1099511627776) ∧ W.cell? ⟨g, 2, none⟩ = some (.int .i64 1099511627776) ∧ W.cell? ⟨g, 3, none⟩ = some (.int .i64 1099511627776) ∧
    W.cell? ⟨g, 4, none⟩ = some (.int .i64 0) ∧ W.cell? ⟨g, 5, none⟩ = some (.int .i64 0) ∧ W.cell? ⟨g, 6, none⟩ = some (.int .i64 0) ∧ W.cell? ⟨g, 7, none⟩ = some (.int .i64 0) :=
  ⟨cells_cell h 0, cells_cell h 1, cells_cell h 2, cells_cell h 3, cells_cell h 4, cells_cell h 5, cells_cell h 6, cells_cell h 7⟩
theorem s5_steps (v : Value) (w : World) (hs : SrcC w v bigC) : Calls Try.prog 13 #[v8 1099511627776 1099511627776 1099511627776 1099511627776 0 0 0 0, v] w fun e w' => e = .returned (.tuple #[v8 0 0 0 0 0 0 0 0, .int .i64 (-1), .int .i64 5]) ∧ Below w.heap.size w w' := s4_steps (L := bigL) (U := bigU) (long_both big_right bigC_long) (by decide) v w hs
theorem s5_stepsN (v : Value) (w : World) (hs : SrcC w v bigN) : Calls Try.prog 13 #[v8 1099511627776 1099511627776 1099511627776 1099511627776 0 0 0 0, v] w fun e w' => e = .returned (.tuple #[v8 0 0 0 0 0 0 0 0, .int .i64 (-1), .int .i64 5]) ∧ Below w.heap.size w w' := s4_steps (L := bigL) (U := bigU) (long_both big_right bigN_long) (by decide) v w hs
theorem s5_bar (v : Value) (w : World) (hs : SrcC w v bigC) : Calls Try.prog 17 #[v8 1099511627776 1099511627776 1099511627776 1099511627776 0 0 0 0, v] w fun e w' => e = .returned (.tuple #[v8 0 0 0 0 0 0 0 0, .int .i64 (-1), .int .i64 5]) ∧ Below w.heap.size w w' := s4_bar (L := bigL) (U := bigU) (long_both big_right bigC_long) (by decide) v w hs
theorem s5_peak (v : Value) (w : World) (hs : SrcC w v bigC) : Calls Try.prog 14 #[v8 1099511627776 1099511627776 1099511627776 1099511627776 0 0 0 0, v] w fun e w' => e = .returned (.tuple #[v4 0 0 0 0, .int .i64 5]) ∧ Below w.heap.size w w' := s4_peak (L := bigL) (U := bigU) (long_both big_right bigC_long) (by decide) v w hs
theorem s5_wrong (v : Value) (w : World) (hs : SrcC w v bigC) : Calls Try.prog 13 #[v8 5 0 0 0 9 0 0 0, v] w fun e w' => e = .returned (.tuple #[v8 0 0 0 0 0 0 0 0, .int .i64 (-1), .int .i64 250]) ∧ Below w.heap.size w w' :=
  s4_steps (L := s4L) (U := s4U) (by rw [bothV, if_neg (by rw [s4_wrong]; decide)]) (by decide) v w hs
theorem s5_first {W : World} {g : Nat} (h : SrcC W (.slice (some ⟨g, 0, none⟩) 4097 4097) bigC) : W.cell? ⟨g, 0, none⟩ = some (.int .i64 0) := by
  rcases h with ⟨h, -⟩ | ⟨b, off, c, hv, -, -, -, hc⟩
  · have := bigC_len; rw [h] at this; simp at this
  · simp only [Value.slice.injEq, Option.some.injEq, Addr.mk.injEq] at hv
    obtain ⟨⟨rfl, rfl, -⟩, -, -⟩ := hv
    have hj : 0 < bigC.length := by rw [bigC_len]; omega
    have := (hc 0 hj).1
    rw [bigC_get 0 hj] at this
    exact this

set_option maxRecDepth 100000 in
set_option maxHeartbeats 8000000 in
theorem qsmall (haw : AwakeC) (w : World) : Calls Try.prog 10 #[] w fun e w' => e = .returned (.bool true) ∧ Below w.heap.size w w' := by
  have H_haw := Hd.mk haw
  clear haw
  go_enter Try.func10, Try.ntmps10
  go_upto_region 2 with fail
  obtain ⟨W1, hW⟩ : ∃ x, x = w.alloc (.cells #[.int .i64 0, .int .i64 1, .int .i64 0, .int .i64 2, .int .i64 0, .int .i64 (-1), .int .i64 0, .int .i64 (-3), .int .i64 1, .int .i64 1, .int .i64 1, .int .i64 (-1), .int .i64 3, .int .i64 5, .int .i64 2, .int .i64 0, .int .i64 4, .int .i64 1] 32) := ⟨_, rfl⟩
  have HB1 : Hd (Below w.heap.size w W1) := ⟨by rw [hW]; exact (Below.refl _ _).alloc (Nat.le_refl _) _⟩
  have HS1 : Hd (SrcC W1 (.slice (some ⟨w.heap.size, 0, none⟩) 9 9) s9) := ⟨by rw [hW]; exact srcLit w s9 (by simp [s9])⟩
  rw [← hW]
  clear hW
  go_wp2_with fail
  refine (s2_book 0 2 1 0 5 _ _ (World.alloc_heap_new W1 _)).mono ?_
  rintro e w2 ⟨rfl, hB⟩
  have hX := ((Below.refl W1.heap.size W1).alloc (Nat.le_refl _) (.cells #[.int .i64 2, .int .i64 1, .int .i64 0, .int .i64 5] 3)).trans (hB.mono (by simp))
  have HB_2 := Hd.mk (ch4 HB1.out hX)
  have SS_2 := Hd.mk (HS1.out.below hX)
  clear HB1 HS1
  clear hB hX
  go_wp2_with fail
  refine (s2_book 2 3 1 1 5 _ _ (World.alloc_heap_new w2 _)).mono ?_
  rintro e w3 ⟨rfl, hB⟩
  have hX := ((Below.refl w2.heap.size w2).alloc (Nat.le_refl _) (.cells #[.int .i64 3, .int .i64 1, .int .i64 1, .int .i64 5] 3)).trans (hB.mono (by simp))
  have HB_3 := Hd.mk (ch4 HB_2.out hX)
  have SS_3 := Hd.mk (SS_2.out.below hX)
  clear HB_2 SS_2
  clear hB hX
  go_wp2_with fail
  refine (s2_book 1 1 0 9 4 _ _ (World.alloc_heap_new w3 _)).mono ?_
  rintro e w4 ⟨rfl, hB⟩
  have hX := ((Below.refl w3.heap.size w3).alloc (Nat.le_refl _) (.cells #[.int .i64 1, .int .i64 0, .int .i64 9, .int .i64 4] 3)).trans (hB.mono (by simp))
  have HB_4 := Hd.mk (ch4 HB_3.out hX)
  have SS_4 := Hd.mk (SS_3.out.below hX)
  clear HB_3 SS_3
  clear hB hX
  go_upto_region 3 with fail
  obtain ⟨W5, hW⟩ : ∃ W, W = w4.alloc (.cells #[.int .i64 2, .int .i64 1, .int .i64 0, .int .i64 5, .int .i64 0, .int .i64 0, .int .i64 0, .int .i64 0, .int .i64 3, .int .i64 1, .int .i64 1, .int .i64 5, .int .i64 2, .int .i64 0, .int .i64 0, .int .i64 0, .int .i64 1, .int .i64 0, .int .i64 9, .int .i64 4, .int .i64 1, .int .i64 0, .int .i64 0, .int .i64 0] 27) := ⟨_, rfl⟩
  have hX : Below w4.heap.size w4 W5 := by rw [hW]; exact (Below.refl _ _).alloc (Nat.le_refl _) _
  have hT : W5.heap[w4.heap.size]? = some (.cells B24 27 (0, 0)) := by rw [hW]; exact World.alloc_heap_new _ _
  rw [← hW]
  have HT2 := Hd.mk hT
  clear hT
  clear hW
  have HB_c5 := Hd.mk (ch4 HB_4.out hX)
  have SS_c5 := Hd.mk (SS_4.out.below hX)
  clear HB_4 SS_4
  clear hX
  go_wp2_with fail
  go_loopw [54] (fun i W => ∃ k : Nat, k ≤ 6561 ∧ i = .int .i64 k ∧ Below W5.heap.size W5 W) (fun i _ => 6561 - (intOf i).toNat)
  case atStart => exact ⟨0, Nat.zero_le _, rfl, Below.refl _ _⟩
  case round =>
    obtain ⟨k, hk, rfl, hB⟩ := hrel
    have HRB := Hd.mk hB
    by_cases hlt : k < 6561
    · have HR2 := keep HT2.out hB
      have HRS := Hd.mk (SS_c5.out.below hB)
      have HBK := Hd.mk (b24_at HR2)
      have k1 : (k : Int) < 6561 := by omega
      have k0 : (0 : Int) ≤ (k : Int) := by omega
      have HLT := Hd.mk hlt
      clear hB HR2 hlt
      go_upto_block 1 with fail
      refine rS1 k HLT.out w.heap.size w4.heap.size s9 rfl wr HRS HBK _ (fun _ _ _ _ _ h => h) ?_
      intro u3 u4 u56 u57 u58 u59 u60 u61 u62 u63 u64 u65 u66 u67 u68 u69 u70 u71 u72 u73 u74 u75 u76 u77 u78 u79 u80 u81 u82 u83 u84 u85 u86 u87 u88 u89 u90 u91 u92 u93 u94 u95 u96 u97 u98 u99 u100 u101 u102 u103 u104 u105 u106 u107 u108 u109 u110 u111 wx hBx
      have HBX := Hd.mk (ch4 HRB.out hBx)
      clear hBx
      go_wp2_with fail
      go_roundw
      case rel => exact ⟨k + 1, HLT.out, by go_num, HBX.out⟩
      case measure => have := HLT.out; simp [intOf] <;> omega
    · obtain rfl : k = 6561 := by omega
      clear hlt hk HRB
      have HB_6 := Hd.mk (ch4 HB_c5.out hB)
      have HT2_6 := Hd.mk (keep HT2.out hB)
      have SS_6 := Hd.mk (SS_c5.out.below hB)
      clear HB_c5 HT2 SS_c5
      clear hB
      go_upto_region 11 with fail
      obtain ⟨W7, hW⟩ : ∃ W, W = wr.alloc (.cells #[.int .i64 (-9223372036854775808), .int .i64 (-1099511627777), .int .i64 (-1099511627776), .int .i64 (-1), .int .i64 0, .int .i64 1, .int .i64 1099511627775, .int .i64 1099511627776, .int .i64 1099511627777, .int .i64 9223372036854775807] 3) := ⟨_, rfl⟩
      have hX : Below wr.heap.size wr W7 := by rw [hW]; exact (Below.refl _ _).alloc (Nat.le_refl _) _
      have hT : W7.heap[wr.heap.size]? = some (.cells N10 3 (0, 0)) := by rw [hW]; exact World.alloc_heap_new _ _
      rw [← hW]
      have HT5 := Hd.mk hT
      clear hT
      clear hW
      have HB_c7 := Hd.mk (ch4 HB_6.out hX)
      have SS_c7 := Hd.mk (SS_6.out.below hX)
      clear HB_6 SS_6
      clear hX
      go_wp2_with fail
      obtain ⟨g5, hg5⟩ : ∃ g, g = wr.heap.size := ⟨_, rfl⟩
      rw [← hg5] at HT5 ⊢
      clear hg5
      go_loopw [116] (fun i W => ∃ k : Nat, k ≤ 10 ∧ i = .int .i64 k ∧ Below W7.heap.size W7 W) (fun i _ => 10 - (intOf i).toNat)
      case atStart => exact ⟨0, Nat.zero_le _, rfl, Below.refl _ _⟩
      case round =>
        obtain ⟨k, hk, rfl, hB⟩ := hrel
        have HRB := Hd.mk hB
        by_cases hlt : k < 10
        · obtain ⟨p, hp⟩ := n10_at (keep HT5.out hB) k hlt
          have k1 : (k : Int) < 10 := by omega
          have k0 : (0 : Int) ≤ (k : Int) := by omega
          have dk : decide ((k : Int) < 10) = true := decide_eq_true k1
          have HLT := Hd.mk hlt
          clear hB hlt
          go_wp2_with fail
          clear hp
          go_loopw [122] (fun i W => ∃ m : Nat, m ≤ 10 ∧ i = .int .i64 m ∧ Below W7.heap.size W7 W) (fun i _ => 10 - (intOf i).toNat)
          case atStart => exact ⟨0, Nat.zero_le _, rfl, HRB.out⟩
          case round =>
            obtain ⟨m, hm, rfl, hB⟩ := hrel
            have HRB2 := Hd.mk hB
            by_cases hlm : m < 10
            · obtain ⟨q, hq⟩ := n10_at (keep HT5.out hB) m hlm
              have m1 : (m : Int) < 10 := by omega
              have m0 : (0 : Int) ≤ (m : Int) := by omega
              have dm : decide ((m : Int) < 10) = true := decide_eq_true m1
              have HLM := Hd.mk hlm
              clear hB hlm
              go_wp2_with fail
              clear hq
              go_loopw [126] (fun i W => ∃ t : Nat, t ≤ 4 ∧ i = .int .i64 t ∧ Below W7.heap.size W7 W) (fun i _ => 4 - (intOf i).toNat)
              case atStart => exact ⟨0, Nat.zero_le _, rfl, HRB2.out⟩
              case round =>
                obtain ⟨t, ht, rfl, hB⟩ := hrel
                have HRB3 := Hd.mk hB
                by_cases hlt : t < 4
                · have t1 : (t : Int) < 4 := by omega
                  have t0 : (0 : Int) ≤ (t : Int) := by omega
                  have HLT3 := Hd.mk hlt
                  clear hB hlt
                  go_upto_block 7 with fail
                  refine rS2 p q t HLT3.out wr _ ?_
                  intro u10 u11 u12 u128 u129 u130 u131 u132 u133 u134 u135 u136 u137 u138 u139 u140 u141 u142 u143 u144 u145 u146 u147 u148 u149 u150 u151 u152 u153 u154 u155 u156 u157 u158 u159 u160 u161 u162 u163 u164 u165 u166 u167 u168 u169 u170 u171 u172 u173 u174 u175 u176 wx hBx
                  have HBX := Hd.mk (ch4 HRB3.out hBx)
                  clear hBx
                  go_wp2_with fail
                  go_roundw
                  case rel => exact ⟨t + 1, HLT3.out, by go_num, HBX.out⟩
                  case measure => have := HLT3.out; simp [intOf] <;> omega
                · obtain rfl : t = 4 := by omega
                  clear hlt ht
                  go_wp2_with fail
                  go_roundw
                  case rel => exact ⟨m + 1, HLM.out, by go_num, HRB3.out⟩
                  case measure => have := HLM.out; simp [intOf] <;> omega
            · obtain rfl : m = 10 := by omega
              clear hlm hm
              go_wp2_with fail
              go_roundw
              case rel => exact ⟨k + 1, HLT.out, by go_num, HRB2.out⟩
              case measure => have := HLT.out; simp [intOf] <;> omega
        · obtain rfl : k = 10 := by omega
          clear hlt hk HRB
          have HB_8 := Hd.mk (ch4 HB_c7.out hB)
          have HT5_8 := Hd.mk (keep HT5.out hB)
          have SS_8 := Hd.mk (SS_c7.out.below hB)
          clear HB_c7 HT5 SS_c7
          clear hB
          skip
          obtain ⟨W8, hW8⟩ : ∃ x, x = wr := ⟨_, rfl⟩
          rw [← hW8] at HB_8 ⊢
          clear hW8
          have hgmw : w.heap.size ≤ W8.heap.size := HB_8.out.size
          go_wp2_with (refine s5_make rfl _ _ rfl W8.heap.size rfl rfl (Nat.le_refl _) ?_)
          intro w9 xs9 ho9 hg9
          have hX : Below W8.heap.size W8 w9 := ⟨hg9.os, hg9.tape, hg9.output, hg9.size, fun k hk => hg9.block k hk (by simp)⟩
          have HO9 := Hd.mk ho9
          clear ho9 hg9
          have HB_9 := Hd.mk (ch4 HB_8.out hX)
          clear HB_8
          clear hX
          obtain ⟨gm, hgm⟩ : ∃ g, g = W8.heap.size := ⟨_, rfl⟩
          rw [← hgm] at HO9 hgmw ⊢
          clear hgm
          go_upto_block 8 with fail
          refine rS3 gm gm w9 _ HO9 _ ?_
          intro u14 u183 u184 u185 u186 u187 u188 u189 u190 u191 u192 u193 u194 u195 u196 u197 u198 u199 wx xs hox hxx hBx
          have hcur : ∃ cur, wx.heap[gm]? = some (.cells cur 32 (0, 0)) := by
            rcases hox.2 with ⟨h, -⟩ | ⟨g', cap', cur, h, -, hg, -⟩
            · simp at h
            · simp only [Value.slice.injEq, Option.some.injEq, Addr.mk.injEq, and_true, true_and] at h; exact ⟨cur, by rw [h.1]; exact hg⟩
          obtain ⟨cur, hcur⟩ := hcur
          have HSM := Hd.mk (big_src hox hxx)
          have HCUR := Hd.mk hcur
          have HBx : Hd (Below w.heap.size w wx) := ⟨HB_9.out.trans (hBx.mono (by have := hgmw; exact this))⟩
          clear hox hxx hBx hcur HO9 HB_9
          go_wp2_with fail
          refine (s2_book 0 1099511627776 1099511627776 1099511627776 1099511627776 _ _ (World.alloc_heap_new wx _)).mono ?_
          rintro e w10 ⟨rfl, hB⟩
          have hX := ((Below.refl wx.heap.size wx).alloc (Nat.le_refl _) (.cells #[.int .i64 1099511627776, .int .i64 1099511627776, .int .i64 1099511627776, .int .i64 1099511627776] 3)).trans (hB.mono (by simp))
          have HB_10 := Hd.mk (ch4 HBx.out hX)
          have HT13_10 := Hd.mk (keep HCUR.out hX)
          have SM_10 := Hd.mk (HSM.out.below hX)
          clear HBx HCUR HSM
          clear hB hX
          have hgm10 := lt_of_heap HT13_10.out
          go_upto_region 37 with fail
          obtain ⟨W10, hW⟩ : ∃ W, W = w10.alloc (.cells #[.int .i64 1099511627776, .int .i64 1099511627776, .int .i64 1099511627776, .int .i64 1099511627776, .int .i64 0, .int .i64 0, .int .i64 0, .int .i64 0] 27) := ⟨_, rfl⟩
          have hX : Below w10.heap.size w10 W10 := by rw [hW]; exact (Below.refl _ _).alloc (Nat.le_refl _) _
          have hT : W10.heap[w10.heap.size]? = some (.cells (bk bigL bigU) 27 (0, 0)) := by rw [hW]; exact World.alloc_heap_new _ _
          rw [← hW]
          have HT15 := Hd.mk hT
          clear hT
          clear hW
          have HB_c10 := Hd.mk (ch4 HB_10.out hX)
          have HT13_c10 := Hd.mk (keep HT13_10.out hX)
          have SM_c10 := Hd.mk (SM_10.out.below hX)
          clear HB_10 HT13_10 SM_10
          clear hX
          have hk4 : (4096 : Int) ≤ 4097 := by omega
          have hz10 := lt_of_heap HT15.out
          have hne15 : w10.heap.size ≠ gm := by omega
          go_cut [16, 17, 18] (fun v16 v17 v18 wx => ∃ g, W10.heap.size ≤ g ∧ v16 = .pointer (some ⟨g, 0, none⟩) ∧ wx.heap[g]? = some (.cells #[.int .i64 1099511627776, .int .i64 1099511627776, .int .i64 1099511627776, .int .i64 1099511627776, .int .i64 0, .int .i64 0, .int .i64 0, .int .i64 0] 27 (0, 0)) ∧ v17 = .int .i64 (-1) ∧ v18 = .int .i64 0 ∧ Below W10.heap.size W10 wx)
          case first =>
            have hS0 := qs8_of HT15.out
            go_region_held3 (fun W => W.cell? ⟨w10.heap.size, 0, none⟩ = some (.int .i64 (bigL 0)) ∧ W.cell? ⟨w10.heap.size, 1, none⟩ = some (.int .i64 (bigL 1)) ∧ W.cell? ⟨w10.heap.size, 2, none⟩ = some (.int .i64 (bigL 2)) ∧ W.cell? ⟨w10.heap.size, 3, none⟩ = some (.int .i64 (bigL 3)) ∧ W.cell? ⟨w10.heap.size, 4, none⟩ = some (.int .i64 (bigU 0)) ∧ W.cell? ⟨w10.heap.size, 5, none⟩ = some (.int .i64 (bigU 1)) ∧ W.cell? ⟨w10.heap.size, 6, none⟩ = some (.int .i64 (bigU 2)) ∧ W.cell? ⟨w10.heap.size, 7, none⟩ = some (.int .i64 (bigU 3)) ∧ Below W10.heap.size W10 W)
              (first | with_reducible assumption | exact qs8_keep hS0 (by repeat (with_reducible first | exact Below.refl _ _ | apply bl_alloc | apply bl_drew | (refine bl_set ?_ (by simp) _) | (apply bl_call; assumption))))
              (first
              | (go_at_call 13; refine (big_ok _ _ _ _ (SM_c10.out.below (qs8_below (by assumption)))).mono ?_; rintro e wk ⟨rfl, hBk⟩; (first | (have hz := hBk.block (W10.heap.size) (by (try rw [drew_heap]); simp only [World.size_alloc]; omega); (try rw [drew_heap] at hz); rw [two_old] at hz; obtain ⟨⟨e0, e1, e2, e3, e4, e5, e6, e7⟩, ⟨f0, f1, f2, f3, f4, f5, f6, f7⟩⟩ := z_cells hz) | (have hz := hBk.block (W10.heap.size + 1) (by (try rw [drew_heap]); simp only [World.size_alloc]; omega); (try rw [drew_heap] at hz); rw [two_new] at hz; obtain ⟨⟨e0, e1, e2, e3, e4, e5, e6, e7⟩, ⟨f0, f1, f2, f3, f4, f5, f6, f7⟩⟩ := z_cells hz) | (have hz := hBk.block (W10.heap.size) (by (try rw [drew_heap]); simp only [World.size_alloc]; omega); (try rw [drew_heap] at hz); rw [World.alloc_heap_new] at hz; obtain ⟨⟨e0, e1, e2, e3, e4, e5, e6, e7⟩, ⟨f0, f1, f2, f3, f4, f5, f6, f7⟩⟩ := z_cells hz) | skip))
              )
            · have HF := Hd.mk (qs8_below (by assumption))
              go_wp2_with fail
              go_meet
              exact ⟨_, hBk.size, rfl, World.alloc_heap_new _ _, rfl, rfl, HF.out⟩
            · have HF := Hd.mk (qs8_below (by assumption))
              have HZ := Hd.mk (set_bk bigL bigU hz)
              go_wp2_with fail
              go_meet
              exact ⟨_, Nat.le_refl _, rfl, HZ.out, rfl, rfl, HF.out⟩
          case rest =>
          obtain ⟨g16, hg16, rfl, hG, rfl, rfl, hBx⟩ := hcut
          have hne16 : g16 ≠ gm := by omega
          have HB_11 := Hd.mk (ch4 HB_c10.out hBx)
          have HT13_11 := Hd.mk (keep HT13_c10.out hBx)
          have HT15_11 := Hd.mk (keep HT15.out hBx)
          have SM_11 := Hd.mk (SM_c10.out.below hBx)
          clear HB_c10 HT13_c10 HT15 SM_c10
          have HT16 : Hd (wc.heap[g16]? = some (.cells (bk bigL bigU) 27 (0, 0))) := ⟨hG⟩
          clear hBx hG hk4
          obtain ⟨c0, c1, c2, c3, c4, c5, c6, c7⟩ := s5_cells HT15_11.out
          go_wp2_with fail
          refine (s5_steps _ _ SM_11.out).mono ?_
          rintro e w12 ⟨rfl, hB⟩
          have HB_12 := Hd.mk (ch4 HB_11.out hB)
          have HT13_12 := Hd.mk (keep HT13_11.out hB)
          have HT15_12 := Hd.mk (keep HT15_11.out hB)
          have HT16_12 := Hd.mk (keep HT16.out hB)
          have SM_12 := Hd.mk (SM_11.out.below hB)
          clear HB_11 HT13_11 HT15_11 HT16 SM_11
          clear hB
          clear c0 c1 c2 c3 c4 c5 c6 c7
          go_upto_region 39 with fail
          obtain ⟨W12b, hW⟩ : ∃ W, W = w12.alloc (.cells #[.int .i64 0, .int .i64 0, .int .i64 0, .int .i64 0, .int .i64 0, .int .i64 0, .int .i64 0, .int .i64 0] 27) := ⟨_, rfl⟩
          have hX : Below w12.heap.size w12 W12b := by rw [hW]; exact (Below.refl _ _).alloc (Nat.le_refl _) _
          rw [← hW]
          clear hW
          have HB_c12b := Hd.mk (ch4 HB_12.out hX)
          have HT13_c12b := Hd.mk (keep HT13_12.out hX)
          have HT15_c12b := Hd.mk (keep HT15_12.out hX)
          have HT16_c12b := Hd.mk (keep HT16_12.out hX)
          have SM_c12b := Hd.mk (SM_12.out.below hX)
          clear HB_12 HT13_12 HT15_12 HT16_12 SM_12
          clear hX
          obtain ⟨c0, c1, c2, c3, c4, c5, c6, c7⟩ := s5_cells HT15_c12b.out
          go_wp2_with fail
          refine (s5_bar _ _ SM_c12b.out).mono ?_
          rintro e w13 ⟨rfl, hB⟩
          have HB_13 := Hd.mk (ch4 HB_c12b.out hB)
          have HT13_13 := Hd.mk (keep HT13_c12b.out hB)
          have HT15_13 := Hd.mk (keep HT15_c12b.out hB)
          have HT16_13 := Hd.mk (keep HT16_c12b.out hB)
          have SM_13 := Hd.mk (SM_c12b.out.below hB)
          clear HB_c12b HT13_c12b HT15_c12b HT16_c12b SM_c12b
          clear hB
          clear c0 c1 c2 c3 c4 c5 c6 c7
          go_upto_region 40 with fail
          obtain ⟨W13b, hW⟩ : ∃ W, W = w13.alloc (.cells #[.int .i64 0, .int .i64 0, .int .i64 0, .int .i64 0, .int .i64 0, .int .i64 0, .int .i64 0, .int .i64 0] 27) := ⟨_, rfl⟩
          have hX : Below w13.heap.size w13 W13b := by rw [hW]; exact (Below.refl _ _).alloc (Nat.le_refl _) _
          rw [← hW]
          clear hW
          have HB_c13b := Hd.mk (ch4 HB_13.out hX)
          have HT13_c13b := Hd.mk (keep HT13_13.out hX)
          have HT15_c13b := Hd.mk (keep HT15_13.out hX)
          have HT16_c13b := Hd.mk (keep HT16_13.out hX)
          have SM_c13b := Hd.mk (SM_13.out.below hX)
          clear HB_13 HT13_13 HT15_13 HT16_13 SM_13
          clear hX
          obtain ⟨c0, c1, c2, c3, c4, c5, c6, c7⟩ := s5_cells HT15_c13b.out
          go_wp2_with fail
          refine (s5_peak _ _ SM_c13b.out).mono ?_
          rintro e w14 ⟨rfl, hB⟩
          have HB_14 := Hd.mk (ch4 HB_c13b.out hB)
          have HT13_14 := Hd.mk (keep HT13_c13b.out hB)
          have HT15_14 := Hd.mk (keep HT15_c13b.out hB)
          have HT16_14 := Hd.mk (keep HT16_c13b.out hB)
          have SM_14 := Hd.mk (SM_c13b.out.below hB)
          clear HB_c13b HT13_c13b HT15_c13b HT16_c13b SM_c13b
          clear hB
          clear c0 c1 c2 c3 c4 c5 c6 c7
          go_upto_region 41 with fail
          obtain ⟨W14b, hW⟩ : ∃ W, W = w14.alloc (.cells #[.int .i64 0, .int .i64 0, .int .i64 0, .int .i64 0] 25) := ⟨_, rfl⟩
          have hX : Below w14.heap.size w14 W14b := by rw [hW]; exact (Below.refl _ _).alloc (Nat.le_refl _) _
          rw [← hW]
          clear hW
          have HB_c14b := Hd.mk (ch4 HB_14.out hX)
          have HT13_c14b := Hd.mk (keep HT13_14.out hX)
          have HT15_c14b := Hd.mk (keep HT15_14.out hX)
          have HT16_c14b := Hd.mk (keep HT16_14.out hX)
          have SM_c14b := Hd.mk (SM_14.out.below hX)
          clear HB_14 HT13_14 HT15_14 HT16_14 SM_14
          clear hX
          go_wp2_with fail
          refine (s4_back (long_chk bigC_long) (by decide) _ _ SM_c14b.out).mono ?_
          rintro e w15 ⟨rfl, hB⟩
          have HB_15 := Hd.mk (ch4 HB_c14b.out hB)
          have HT13_15 := Hd.mk (keep HT13_c14b.out hB)
          have HT15_15 := Hd.mk (keep HT15_c14b.out hB)
          have HT16_15 := Hd.mk (keep HT16_c14b.out hB)
          have SM_15 := Hd.mk (SM_c14b.out.below hB)
          clear HB_c14b HT13_c14b HT15_c14b HT16_c14b SM_c14b
          clear hB
          go_wp2_with fail
          refine (s4_sum (long_chk bigC_long) (by decide) _ _ SM_15.out).mono ?_
          rintro e w16 ⟨rfl, hB⟩
          have HB_16 := Hd.mk (ch4 HB_15.out hB)
          have HT13_16 := Hd.mk (keep HT13_15.out hB)
          have HT15_16 := Hd.mk (keep HT15_15.out hB)
          have HT16_16 := Hd.mk (keep HT16_15.out hB)
          have SM_16 := Hd.mk (SM_15.out.below hB)
          clear HB_15 HT13_15 HT15_15 HT16_15 SM_15
          clear hB
          go_upto_region 43 with fail
          obtain ⟨W16b, hW⟩ : ∃ W, W = w16.alloc (.cells #[.int .i64 0, .int .i64 0, .int .i64 0, .int .i64 0] 25) := ⟨_, rfl⟩
          have hX : Below w16.heap.size w16 W16b := by rw [hW]; exact (Below.refl _ _).alloc (Nat.le_refl _) _
          rw [← hW]
          clear hW
          have HB_c16b := Hd.mk (ch4 HB_16.out hX)
          have HT13_c16b := Hd.mk (keep HT13_16.out hX)
          have HT15_c16b := Hd.mk (keep HT15_16.out hX)
          have HT16_c16b := Hd.mk (keep HT16_16.out hX)
          have SM_c16b := Hd.mk (SM_16.out.below hX)
          clear HB_16 HT13_16 HT15_16 HT16_16 SM_16
          clear hX
          go_wp2_with fail
          refine (s4_book _ _ (World.alloc_heap_new W16b _)).mono ?_
          rintro e w17 ⟨rfl, hB⟩
          have hX := ((Below.refl W16b.heap.size W16b).alloc (Nat.le_refl _) (.cells #[.int .i64 5] 3)).trans (hB.mono (by simp))
          have HB_17 := Hd.mk (ch4 HB_c16b.out hX)
          have HT13_17 := Hd.mk (keep HT13_c16b.out hX)
          have HT15_17 := Hd.mk (keep HT15_c16b.out hX)
          have HT16_17 := Hd.mk (keep HT16_c16b.out hX)
          have SM_17 := Hd.mk (SM_c16b.out.below hX)
          clear HB_c16b HT13_c16b HT15_c16b HT16_c16b SM_c16b
          clear hB hX
          go_wp2_with fail
          refine (s5_wrong _ _ SM_17.out).mono ?_
          rintro e w18 ⟨rfl, hB⟩
          have HB_18 := Hd.mk (ch4 HB_17.out hB)
          have HT13_18 := Hd.mk (keep HT13_17.out hB)
          have HT15_18 := Hd.mk (keep HT15_17.out hB)
          have HT16_18 := Hd.mk (keep HT16_17.out hB)
          have SM_18 := Hd.mk (SM_17.out.below hB)
          clear HB_17 HT13_17 HT15_17 HT16_17 SM_17
          clear hB
          go_upto_region 44 with fail
          obtain ⟨W18b, hW⟩ : ∃ W, W = w18.alloc (.cells #[.int .i64 0, .int .i64 0, .int .i64 0, .int .i64 0, .int .i64 0, .int .i64 0, .int .i64 0, .int .i64 0] 27) := ⟨_, rfl⟩
          have hX : Below w18.heap.size w18 W18b := by rw [hW]; exact (Below.refl _ _).alloc (Nat.le_refl _) _
          rw [← hW]
          clear hW
          have HB_c18b := Hd.mk (ch4 HB_18.out hX)
          have HT13_c18b := Hd.mk (keep HT13_18.out hX)
          have HT15_c18b := Hd.mk (keep HT15_18.out hX)
          have HT16_c18b := Hd.mk (keep HT16_18.out hX)
          have SM_c18b := Hd.mk (SM_18.out.below hX)
          clear HB_18 HT13_18 HT15_18 HT16_18 SM_18
          clear hX
          have hc0 : W18b.cell? ⟨gm, 0, none⟩ = some (.int .i64 0) := s5_first SM_c18b.out
          have hf0 := cells_free HT13_c18b.out 0
          have HSN := Hd.mk (bigN_set SM_c18b.out HT13_c18b.out)
          have HT15s := Hd.mk ((Below.heap_setCell W18b ⟨gm, 0, none⟩ (.int .i64 (-1)) _ hne15).trans HT15_c18b.out)
          have HT16s := Hd.mk ((Below.heap_setCell W18b ⟨gm, 0, none⟩ (.int .i64 (-1)) _ hne16).trans HT16_c18b.out)
          have HBs := Hd.mk (HB_c18b.out.setCell (p := ⟨gm, 0, none⟩) hgmw (.int .i64 (-1)))
          go_upto_region 45 with fail
          obtain ⟨Ws, hWs⟩ : ∃ x, x = W18b.setCell ⟨gm, 0, none⟩ (.int .i64 (-1)) := ⟨_, rfl⟩
          rw [← hWs] at HSN HT15s HT16s HBs ⊢
          clear hWs hc0 hf0 SM_c18b HT13_c18b HT15_c18b HT16_c18b HB_c18b
          obtain ⟨c0, c1, c2, c3, c4, c5, c6, c7⟩ := s5_cells HT15s.out
          go_wp2_with fail
          refine (s5_stepsN _ _ HSN.out).mono ?_
          rintro e w19 ⟨rfl, hB⟩
          have HB_19 := Hd.mk (ch4 HBs.out hB)
          have HT15_19 := Hd.mk (keep HT15s.out hB)
          have HT16_19 := Hd.mk (keep HT16s.out hB)
          have SM_19 := Hd.mk (HSN.out.below hB)
          clear HBs HT15s HT16s HSN
          clear hB
          clear c0 c1 c2 c3 c4 c5 c6 c7
          go_upto_region 46 with fail
          obtain ⟨W19b, hW⟩ : ∃ W, W = w19.alloc (.cells #[.int .i64 0, .int .i64 0, .int .i64 0, .int .i64 0, .int .i64 0, .int .i64 0, .int .i64 0, .int .i64 0] 27) := ⟨_, rfl⟩
          have hX : Below w19.heap.size w19 W19b := by rw [hW]; exact (Below.refl _ _).alloc (Nat.le_refl _) _
          rw [← hW]
          clear hW
          have HB_c19b := Hd.mk (ch4 HB_19.out hX)
          have HT15_c19b := Hd.mk (keep HT15_19.out hX)
          have HT16_c19b := Hd.mk (keep HT16_19.out hX)
          have SM_c19b := Hd.mk (SM_19.out.below hX)
          clear HB_19 HT15_19 HT16_19 SM_19
          clear hX
          obtain ⟨c0, c1, c2, c3, c4, c5, c6, c7⟩ := s5_cells HT15_c19b.out
          obtain ⟨d0, d1, d2, d3, d4, d5, d6, d7⟩ := s5_cells HT16_c19b.out
          have heq : ∀ W : World, (binOp .eql 27 (v8 1099511627776 1099511627776 1099511627776 1099511627776 0 0 0 0) (v8 1099511627776 1099511627776 1099511627776 1099511627776 0 0 0 0)).run Try.prog W = .ok (.bool true) W := fun W => by have := eqv_bk bigL bigU bigL bigU W; rwa [eq4_self, eq4_self] at this
          have gd27 := guard27
          go_wp2_with fail
          clear c0 c1 c2 c3 c4 c5 c6 c7
          clear d0 d1 d2 d3 d4 d5 d6 d7
          refine (s4_charges (long_chk bigN_long) (by decide) _ _ SM_c19b.out).mono ?_
          rintro e w20 ⟨rfl, hB⟩
          have HB_20 := Hd.mk (ch4 HB_c19b.out hB)
          have HT15_20 := Hd.mk (keep HT15_c19b.out hB)
          have HT16_20 := Hd.mk (keep HT16_c19b.out hB)
          have SM_20 := Hd.mk (SM_c19b.out.below hB)
          clear HB_c19b HT15_c19b HT16_c19b SM_c19b
          clear hB
          go_wp2_with fail
          refine (H_haw.out _).mono ?_
          rintro e w21 ⟨rfl, hB⟩
          have HB_21 := Hd.mk (ch4 HB_20.out hB)
          have HT15_21 := Hd.mk (keep HT15_20.out hB)
          have HT16_21 := Hd.mk (keep HT16_20.out hB)
          have SM_21 := Hd.mk (SM_20.out.below hB)
          clear HB_20 HT15_20 HT16_20 SM_20
          clear hB
          go_wp2_with fail
          go_ret
          exact ⟨rfl, HB_21.out⟩
end Go.Proofs.Ytppfhcocmpmadaa
