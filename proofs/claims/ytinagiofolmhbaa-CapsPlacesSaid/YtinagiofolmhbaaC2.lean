/- find. -/
import Derived.Test.YtinagiofolmhbaaC1
import Derived.Test.YtinagiofolmhbaaPL3
namespace Go.Proofs.Ytinagiofolmhbaa
open Go.RowKit
set_option linter.unusedVariables false
set_option linter.unusedSimpArgs false


def findV (l : List Hn) (s : Int) : Hn := (getL l s).getD hn0
set_option maxRecDepth 100000 in
set_option maxHeartbeats 2000000 in
theorem find_any {v : Value} {l : List Hn} {w : World} (h : SrcN hL w v l) (t : Int) : Calls Try.prog 22 #[v, .int .i64 t] w fun e w' => e = .returned (.tuple #[hV ((getL l t).getD hn0), .bool (getL l t).isSome]) ∧ Below w.heap.size w w' := by
  have hsm := h.small
  obtain ⟨a, c, rfl⟩ := h.shape
  obtain ⟨W1, hW1⟩ : ∃ W, (w.alloc (.cells #[.int .i64 0, .int .i64 0, .int .i64 0, .int .i64 0, .int .u8 0] 34)) = W := ⟨_, rfl⟩
  have hB1 : Below w.heap.size w W1 := by rw [← hW1]; exact (Below.refl _ _).alloc (Nat.le_refl _) _
  have hb1 : W1.heap[w.heap.size]? = some (.cells #[.int .i64 0, .int .i64 0, .int .i64 0, .int .i64 0, .int .u8 0] 34 (0, 0)) := by rw [← hW1]; exact heap_alloc_new _ _
  obtain ⟨R, hR⟩ : ∃ r, w.heap.size = r := ⟨_, rfl⟩
  have HL := Hd.mk (h.below hB1)
  have HW1 := Hd.mk hW1
  rw [hR] at hb1
  have HB1 := Hd.mk hB1
  have HX1 := Hd.mk hb1
  have HR := Hd.mk hR
  obtain ⟨n, hn⟩ : ∃ n, l.length = n := ⟨_, rfl⟩
  have HN := Hd.mk hn
  rw [hn] at hsm ⊢
  have H0 : Hd (∀ j (hj : j < l.length), j < 0 → ¬ l[j].ser = t) := ⟨fun j hj h => by omega⟩
  clear h hW1 hB1 hb1 hR hn
  go_enter Try.func22, Try.ntmps22
  go_upto_region 1 with fail
  rw [HW1.out]
  try rw [HR.out]
  go_wp2_with fail
  go_loopw [10] (fun i W => ∃ k : Nat, k ≤ n ∧ i = .int .i64 k ∧ Hd (∀ j (hj : j < l.length), j < k → ¬ l[j].ser = t) ∧ Hd (Below W1.heap.size W1 W)) (fun i _ => n - (intOf i).toNat)
  case atStart => exact ⟨0, by omega, rfl, H0, ⟨Below.refl _ _⟩⟩
  case round =>
    obtain ⟨k, hk, rfl, HNO, HB⟩ := hrel
    by_cases hlt : k < n
    · have hkl : k < l.length := by rw [HN.out]; exact hlt
      obtain ⟨b, off, rfl, _, hc⟩ := (HL.out.below HB.out).at k hkl
      obtain ⟨⟨x0, x1, x2, x3, x4⟩, hx⟩ : ∃ x, l[k] = x := ⟨_, rfl⟩
      rw [hx] at hc
      have v0 : wr.cell? ⟨b, off + k * 5, none⟩ = some (.int .i64 x0) := hc 0 _ rfl
      have v1 : wr.cell? ⟨b, off + k * 5 + 1, none⟩ = some (.int .i64 x1) := hc 1 _ rfl
      have v2 : wr.cell? ⟨b, off + k * 5 + 2, none⟩ = some (.int .i64 x2) := hc 2 _ rfl
      have v3 : wr.cell? ⟨b, off + k * 5 + 3, none⟩ = some (.int .i64 x3) := hc 3 _ rfl
      have v4 : wr.cell? ⟨b, off + k * 5 + 4, none⟩ = some (h8 x4) := hc 4 _ rfl
      have k0 : (0 : Int) ≤ (k : Int) := by omega
      have k1 : (k : Int) < (n : Int) := by omega
      have k2 : (k : Int) + 1 ≤ 9223372036854775807 := by omega
      have HK := Hd.mk (And.intro k0 (And.intro k1 k2))
      have HLT := Hd.mk hlt
      have HKL := Hd.mk hkl
      have HX := Hd.mk hx
      clear hc hlt hk hx
      go_upto_region 4 with fail
      obtain ⟨W2, hW2⟩ : ∃ W, (wr.alloc (.cells #[.int .i64 x0, .int .i64 x1, .int .i64 x2, .int .i64 x3, h8 x4] 34)) = W := ⟨_, rfl⟩
      have hB2 : Below W1.heap.size W1 W2 := by rw [← hW2]; exact HB.out.alloc HB.out.size _
      have hn2 : W2.heap[wr.heap.size]? = some (.cells #[.int .i64 x0, .int .i64 x1, .int .i64 x2, .int .i64 x3, h8 x4] 34 (0, 0)) := by rw [← hW2]; exact heap_alloc_new _ _
      rw [hW2]
      have hb2 := (hB2.block R (lt_heap HX1.out)).trans HX1.out
      have HB2 := Hd.mk hB2
      have HX2 := Hd.mk hb2
      have q0 := cells_cell hb2 0
      have q1 := cells_cell hb2 1
      have q2 := cells_cell hb2 2
      have q3 := cells_cell hb2 3
      have q4 := cells_cell hb2 4
      have f0 := cells_free hb2 0
      have f1 := cells_free hb2 1
      have f2 := cells_free hb2 2
      have f3 := cells_free hb2 3
      have f4 := cells_free hb2 4
      have p0 := cells_cell hn2 0
      have p1 := cells_cell hn2 1
      have p2 := cells_cell hn2 2
      have p3 := cells_cell hn2 3
      have p4 := cells_cell hn2 4
      simp only [List.getElem?_toArray, List.getElem?_cons_zero, List.getElem?_cons_succ] at q0 q1 q2 q3 q4 p0 p1 p2 p3 p4
      clear hW2 hB2 hn2 hb2 v0 v1 v2 v3 v4 k0 k1 k2
      by_cases he : x0 = t
      · subst he
        have hg : getL l x0 = some ⟨x0, x1, x2, x3, x4⟩ := by
          have := getL_first HKL.out (s := x0) (by rw [HX.out]) HNO.out
          rw [HX.out] at this
          exact this
        have HG := Hd.mk hg
        clear hg
        go_wp2_with fail
        refine bodyPost_ret (results_cell_row2 Try.results22 _ _ R 34 #[.int .i64 x0, .int .i64 x1, .int .i64 x2, .int .i64 x3, h8 x4] (0, 0) _ rfl (set5 HX2.out (.int .i64 x0) (.int .i64 x1) (.int .i64 x2) (.int .i64 x3) (h8 x4)) Try.underlying34 rfl (by kernel_rfl)) rfl ?_
        exact ⟨by rw [HG.out]; rfl, below5 (HB1.out.trans (HB2.out.mono HB1.out.size)) (Nat.le_of_eq HR.out) _ _ _ _ _⟩
      · have hd : decide (x0 = t) = false := decide_eq_false he
        have HNX : Hd (∀ j (hj : j < l.length), j < k + 1 → ¬ l[j].ser = t) := ⟨fun j hj h => by
          by_cases e : j = k
          · subst e; rw [HX.out]; exact he
          · exact HNO.out j hj (by omega)⟩
        clear q0 q1 q2 q3 q4 f0 f1 f2 f3 f4
        go_upto_region 6 with fail
        obtain ⟨k0, k1, k2⟩ := HK.out
        go_wp2_with fail
        go_roundw
        case rel => exact ⟨k + 1, by have := HLT.out; omega, by go_num, HNX, HB2⟩
        case measure => have := HLT.out; simp [intOf]; omega
    · obtain rfl : k = n := by omega
      clear hlt hk
      have HG := Hd.mk (getL_no (fun j hj => HNO.out j hj (by rw [← HN.out]; exact hj)))
      have hb2 := (HB.out.block R (lt_heap HX1.out)).trans HX1.out
      have HX2 := Hd.mk hb2
      have q0 := cells_cell hb2 0
      have q1 := cells_cell hb2 1
      have q2 := cells_cell hb2 2
      have q3 := cells_cell hb2 3
      have q4 := cells_cell hb2 4
      have f0 := cells_free hb2 0
      have f1 := cells_free hb2 1
      have f2 := cells_free hb2 2
      have f3 := cells_free hb2 3
      have f4 := cells_free hb2 4
      simp only [List.getElem?_toArray, List.getElem?_cons_zero, List.getElem?_cons_succ] at q0 q1 q2 q3 q4
      clear hb2
      go_wp2_with fail
      refine bodyPost_ret (results_cell_row2 Try.results22 _ _ R 34 #[.int .i64 0, .int .i64 0, .int .i64 0, .int .i64 0, .int .u8 0] (0, 0) _ rfl (set5 HX2.out _ _ _ _ _) Try.underlying34 rfl (by kernel_rfl)) rfl ?_
      exact ⟨by rw [HG.out]; rfl, below5 (HB1.out.trans (HB.out.mono HB1.out.size)) (Nat.le_of_eq HR.out) _ _ _ _ _⟩
theorem y_find {v : Value} {l : List Hn} {w : World} (h : SrcN hL w v l) {t a b c d : Int} {r : BitVec 8} {is : Bool} (hg : (getL l t).getD hn0 = ⟨a, b, c, d, r⟩) (hi : (getL l t).isSome = is) :
    Calls Try.prog 22 #[v, .int .i64 t] w fun e w' => e = .returned (.tuple #[.agg #[.int .i64 a, .int .i64 b, .int .i64 c, .int .i64 d, h8 r], .bool is]) ∧ Below w.heap.size w w' := by
  have := find_any h t
  rw [hg, hi] at this
  exact this

end Go.Proofs.Ytinagiofolmhbaa
