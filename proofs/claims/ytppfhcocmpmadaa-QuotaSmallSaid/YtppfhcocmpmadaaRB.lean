/- The reference: used, after. -/
import Derived.Test.YtppfhcocmpmadaaC0
namespace Go.Proofs.Ytppfhcocmpmadaa
open Go.RowKit
set_option linter.unusedVariables false

structure Small (U : Nat → Int) (cs : List (Int × Int)) : Prop where
  ok : ∀ x ∈ cs, okC x = true
  len : cs.length ≤ 4096
  use : ∀ j, j < 4 → -1099511627776 ≤ U j ∧ U j ≤ 1099511627776

set_option maxRecDepth 100000 in
set_option maxHeartbeats 4000000 in
theorem rused_any (L U : Nat → Int) (v : Value) (cs : List (Int × Int)) (j n : Nat) (hj : j < 4) (hn : n ≤ cs.length) (hsm : Small U cs) (w : World) (hs : SrcC w v cs) :
    Calls Try.prog 47 #[.agg (bk L U), v, .int .i64 (j : Int), .int .i64 (n : Int)] w fun e w' => e = .returned (.int .i64 (useK U cs n j)) ∧ Below w.heap.size w w' := by
  have hlen := hsm.len
  obtain ⟨a, c, rfl⟩ := hs.shape
  have HS := Hd.mk hs
  have HM := Hd.mk hsm
  have HJ := Hd.mk hj
  clear hs hsm
  have HB0 : Hd (Below w.heap.size w (w.alloc (.cells (bk L U) 68))) := ⟨(Below.refl _ _).alloc (Nat.le_refl _) _⟩
  have hu := (cells_cell (World.alloc_heap_new w (.cells (bk L U) 68)) (4 + j)).trans (bk_use L U j hj)
  have j0 : (0 : Int) ≤ (j : Int) := by omega
  have j1 : (j : Int) < 4 := by omega
  have n0 : (0 : Int) ≤ (n : Int) := by omega
  clear hj
  go_enter Try.func47, Try.ntmps47
  go_wp2_with fail
  clear hu
  obtain ⟨w1, hw1⟩ : ∃ w1, w.alloc (.cells (bk L U) 68) = w1 := ⟨_, rfl⟩
  rw [hw1] at HB0 ⊢
  clear hw1
  go_loopw [9, 10] (fun s i W => ∃ k : Nat, k ≤ n ∧ i = .int .i64 k ∧ s = .int .i64 (useK U cs k j) ∧ Below w1.heap.size w1 W) (fun _ i _ => n - (intOf i).toNat)
  case atStart => exact ⟨0, by omega, rfl, by rw [useK_zero], Below.refl _ _⟩
  case round =>
    obtain ⟨k, hk, rfl, rfl, hB⟩ := hrel
    by_cases hlt : k < n
    · have hk4 : k < cs.length := by omega
      obtain ⟨b, off, rfl, hb, hc1, hc2⟩ := (HS.out.below (ch4 HB0.out hB)).at k hk4
      have hs := useK_succ U cs k hk4 j
      have hx := (okC_iff cs[k]).1 (HM.out.ok _ (List.getElem_mem hk4))
      have hb1 := useK_bound U cs HM.out.ok HM.out.len HM.out.use k j (by omega) HJ.out
      obtain ⟨p, hp⟩ : ∃ p, cs[k].1 = p := ⟨_, rfl⟩
      obtain ⟨q, hq⟩ : ∃ p, cs[k].2 = p := ⟨_, rfl⟩
      obtain ⟨s, hs'⟩ : ∃ s, useK U cs k j = s := ⟨_, rfl⟩
      rw [hp] at hc1 hs hx
      rw [hq] at hc2 hs hx
      rw [hs'] at hs hb1 ⊢
      obtain ⟨-, -, x1, x2⟩ := hx
      obtain ⟨s1, s2⟩ := hb1
      have i0 : (0 : Int) ≤ (k : Int) := by omega
      have i1 : (k : Int) < (cs.length : Int) := by omega
      have i2 : (k : Int) < (n : Int) := by omega
      have hw : IntKind.i64.wrap (s + q) = s + q := IntWalk.i64_in _ ⟨by omega, by omega⟩
      clear hp hq hs'
      by_cases he : p = (j : Int)
      · rw [if_pos he] at hs
        have HE := Hd.mk hs
        subst he
        clear hs
        go_wp2_with fail
        go_roundw
        case rel => exact ⟨k + 1, by omega, by go_num, by rw [HE.out], hB⟩
        case measure => simp [intOf]; omega
      · rw [if_neg he, Int.add_zero] at hs
        have HE := Hd.mk hs
        have he2 : decide (p = (j : Int)) = false := decide_eq_false he
        have he3 : (p == (j : Int)) = false := by simpa using he
        clear hs
        go_wp2_with fail
        go_roundw
        case rel => exact ⟨k + 1, by omega, by go_num, by rw [HE.out], hB⟩
        case measure => simp [intOf]; omega
    · obtain rfl : k = n := by omega
      have HB := Hd.mk (ch4 HB0.out hB)
      clear hB
      go_wp2_with fail
      go_ret
      exact ⟨rfl, HB.out⟩

/-- What is used, account by account, up to some account. -/
def afK (U V : Nat → Int) (k : Nat) : Nat → Int := fun j => if j < k then V j else U j
theorem afK_zero (U V : Nat → Int) : afK U V 0 = U := by funext j; simp [afK]
theorem afK_step (U V : Nat → Int) (k : Nat) : upd (afK U V k) k (V k) = afK U V (k + 1) := by
  funext j
  unfold upd afK
  by_cases e : j = k
  · rw [if_pos e, if_pos (by omega), e]
  · rw [if_neg e]
    by_cases h : j < k
    · rw [if_pos h, if_pos (by omega)]
    · rw [if_neg h, if_neg (by omega)]
theorem afK_four (L U V : Nat → Int) : bk L (afK U V 4) = bk L V := by simp [bk, afK]

set_option maxRecDepth 100000 in
set_option maxHeartbeats 4000000 in
theorem rafter_any (L U V : Nat → Int) (v : Value) (cs : List (Int × Int)) (hV : useK U cs cs.length = V) (hsm : Small U cs) (w : World) (hs : SrcC w v cs) :
    Calls Try.prog 48 #[.agg (bk L U), v] w fun e w' => e = .returned (.agg (bk L V)) ∧ Below w.heap.size w w' := by
  have hlen := hsm.len
  obtain ⟨a, c, rfl⟩ := hs.shape
  have HS := Hd.mk hs
  have HM := Hd.mk hsm
  have HV := Hd.mk hV
  clear hs hsm hV
  obtain ⟨W1, hW1⟩ : ∃ x, x = (w.alloc (.cells (bk L U) 68)).alloc (.cells #[.int .i64 0, .int .i64 0, .int .i64 0, .int .i64 0, .int .i64 0, .int .i64 0, .int .i64 0, .int .i64 0] 68) := ⟨_, rfl⟩
  have HB1 : Hd (Below w.heap.size w W1) := ⟨by rw [hW1]; exact ((Below.refl _ _).alloc (Nat.le_refl _) _).alloc (by simp) _⟩
  have HG0 : Hd (W1.heap[w.heap.size]? = some (.cells (bk L U) 68 (0, 0))) := ⟨by rw [hW1]; exact (Below.heap_alloc _ _ _ (by simp)).trans (World.alloc_heap_new w _)⟩
  have HG1 : Hd (W1.heap[w.heap.size + 1]? = some (.cells (bk zf zf) 68 (0, 0))) := ⟨by rw [hW1]; exact two_new w _ _⟩
  have HW1 := Hd.mk hW1
  have HZ1 : Hd (W1.heap.size = w.heap.size + 2) := ⟨by rw [hW1]; simp⟩
  clear hW1
  go_enter Try.func48, Try.ntmps48
  go_upto_region 1 with fail
  rw [← HW1.out]
  clear HW1
  obtain ⟨c0, c1, c2, c3, c4, c5, c6, c7⟩ := lit8 HG0.out
  go_upto_region 2 with fail
  clear c0 c1 c2 c3 c4 c5 c6 c7
  obtain ⟨W2, hW2⟩ : ∃ x, x = W1.alloc (.cells (bk L U) 68) := ⟨_, rfl⟩
  have HB2 : Hd (Below W1.heap.size W1 W2) := ⟨by rw [hW2]; exact (Below.refl _ _).alloc (Nat.le_refl _) _⟩
  have HG2 : Hd (W2.heap[W1.heap.size]? = some (.cells (bk L U) 68 (0, 0))) := ⟨by rw [hW2]; exact World.alloc_heap_new _ _⟩
  simp only [bk] at hW2
  rw [← hW2]
  clear hW2
  go_wp2_with fail
  go_loopw [6] (fun i W => ∃ k : Nat, k ≤ 4 ∧ i = .int .i64 k ∧ W.heap[W1.heap.size]? = some (.cells (bk L (afK U V k)) 68 (0, 0)) ∧ Below W1.heap.size W1 W) (fun i _ => 4 - (intOf i).toNat)
  case atStart => exact ⟨0, by omega, rfl, by rw [afK_zero]; exact HG2.out, HB2.out⟩
  case round =>
    obtain ⟨k, hk, rfl, hT, hB⟩ := hrel
    have HT := Hd.mk hT
    have HB := Hd.mk hB
    clear HB2 HG2 hT hB
    by_cases hlt : k < 4
    · have HR0 := Hd.mk (keep HG0.out HB.out)
      obtain ⟨c0, c1, c2, c3, c4, c5, c6, c7⟩ := lit8 HR0.out
      have HLT := Hd.mk hlt
      have i0 : (0 : Int) ≤ (k : Int) := by omega
      have i1 : (k : Int) < 4 := by omega
      clear hlt
      go_wp2_with fail
      refine (rused_any L U _ cs k cs.length HLT.out (Nat.le_refl _) HM.out _ (HS.out.below (ch4 HB1.out HB.out))).mono ?_
      rw [HV.out]
      rintro e w3 ⟨rfl, hB3⟩
      have hT3 := keep HT.out hB3
      have hu := (cells_cell hT3 (4 + k)).trans (bk_use L (afK U V k) k HLT.out)
      have hf := cells_free hT3 (4 + k)
      have HN : Hd ((w3.setCell ⟨W1.heap.size, 4 + k, none⟩ (.int .i64 (V k))).heap[W1.heap.size]? = some (.cells (bk L (afK U V (k + 1))) 68 (0, 0))) := ⟨by
        rw [← afK_step U V k, ← bk_set_use L _ k HLT.out]; exact cells_set hT3 _⟩
      have HBN : Hd (Below W1.heap.size W1 (w3.setCell ⟨W1.heap.size, 4 + k, none⟩ (.int .i64 (V k)))) := ⟨(ch4 HB.out hB3).setCell (Nat.le_refl _) _⟩
      clear hT3 hB3 c0 c1 c2 c3 c4 c5 c6 c7
      go_wp2_with fail
      go_roundw
      case rel => exact ⟨k + 1, HLT.out, by go_num, HN.out, HBN.out⟩
      case measure => simp [intOf] <;> omega
    · obtain rfl : k = 4 := by omega
      have hT := HT.out
      rw [afK_four] at hT
      obtain ⟨c0, c1, c2, c3, c4, c5, c6, c7⟩ := lit8 hT
      have hR := keep HG1.out HB.out
      have HR := Hd.mk hR
      obtain ⟨⟨e0, e1, e2, e3, e4, e5, e6, e7⟩, ⟨f0, f1, f2, f3, f4, f5, f6, f7⟩⟩ := bk_cells hR
      clear hT hR
      have HF := Hd.mk (bk_setall L V HR.out)
      have HFB := Hd.mk (set8_below (ch4 HB1.out HB.out) L V (by omega : w.heap.size ≤ w.heap.size + 1))
      go_wp2_with fail
      refine bodyPost_ret (results_cell_row Try.results48 _ _ _ 68 (bk L V) (0, 0) _ rfl HF.out Try.underlying68 rfl (by kernel_rfl)) rfl ⟨rfl, HFB.out⟩
end Go.Proofs.Ytppfhcocmpmadaa
