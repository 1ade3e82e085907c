/- The reference: masks. -/
import Derived.Test.YtinagiofolmhbaaB9
namespace Go.Proofs.Ytinagiofolmhbaa
open Go.RowKit
set_option linter.unusedVariables false
set_option linter.unusedSimpArgs false


theorem set4 {W : World} {b e : Nat} {z0 z1 z2 z3 : Value} (h : W.heap[b]? = some (.cells #[z0, z1, z2, z3] e (0, 0))) (a0 a1 a2 a3 : Value) :
    ((((W.setCell ⟨b, 0, none⟩ a0).setCell ⟨b, 1, none⟩ a1).setCell ⟨b, 2, none⟩ a2).setCell ⟨b, 3, none⟩ a3).heap[b]? = some (.cells #[a0, a1, a2, a3] e (0, 0)) :=
  cells_set (o := 3) (cells_set (o := 2) (cells_set (o := 1) (cells_set (o := 0) h a0) a1) a2) a3
theorem below4 {B : Nat} {w W : World} (h : Below B w W) {b : Nat} (hb : B ≤ b) (a0 a1 a2 a3 : Value) :
    Below B w ((((W.setCell ⟨b, 0, none⟩ a0).setCell ⟨b, 1, none⟩ a1).setCell ⟨b, 2, none⟩ a2).setCell ⟨b, 3, none⟩ a3) := by
  refine ((((h.setCell (p := ⟨b, 0, none⟩) hb a0).setCell (p := ⟨b, 1, none⟩) hb a1).setCell (p := ⟨b, 2, none⟩) hb a2).setCell (p := ⟨b, 3, none⟩) hb a3)
def bt (r : BitVec 8) (k : Nat) : Bool := r.getLsbD k
def arr4 (r : BitVec 8) (k : Nat) : Array Value := #[.bool (decide (0 < k) && bt r 0), .bool (decide (1 < k) && bt r 1), .bool (decide (2 < k) && bt r 2), .bool (decide (3 < k) && bt r 3)]
theorem arr4_step (r : BitVec 8) {k : Nat} (hk : k < 4) : (arr4 r k).setIfInBounds k (.bool (bt r k)) = arr4 r (k + 1) := by
  match k, hk with
  | 0, _ => rfl
  | 1, _ => rfl
  | 2, _ => rfl
  | 3, _ => rfl
theorem arr4_get (r : BitVec 8) {k : Nat} (hk : k < 4) : ∃ z, (arr4 r k)[k]? = some (.bool z) := by
  match k, hk with
  | 0, _ => exact ⟨_, rfl⟩
  | 1, _ => exact ⟨_, rfl⟩
  | 2, _ => exact ⟨_, rfl⟩
  | 3, _ => exact ⟨_, rfl⟩
theorem bt_div (r : BitVec 8) (k : Nat) : bt r k = decide (r.toNat / 2 ^ k % 2 = 1) := by
  unfold bt
  rw [BitVec.getLsbD, Nat.testBit_eq_decide_div_mod_eq]
theorem info129 : (Try.prog.info? 129).map (·.size) = some 4 := by kernel_rfl
set_option maxRecDepth 100000 in
set_option maxHeartbeats 1000000 in
theorem refhas_any (r : BitVec 8) (w : World) : Calls Try.prog 86 #[.int .i64 (n8 r)] w fun e w' => e = .returned (.tuple #[.agg #[.bool (bt r 0), .bool (bt r 1), .bool (bt r 2), .bool (bt r 3)], .bool (!badM r)]) ∧ Below w.heap.size w w' := by
  obtain ⟨W0, hW0⟩ : ∃ W, ((w.alloc (.cells #[.bool false, .bool false, .bool false, .bool false] 129)).alloc (.cells #[.bool false, .bool false, .bool false, .bool false] 129)) = W := ⟨_, rfl⟩
  have hB1 := (Below.refl w.heap.size w).alloc (Nat.le_refl _) (.cells #[.bool false, .bool false, .bool false, .bool false] 129)
  have hs1 : (w.alloc (.cells #[.bool false, .bool false, .bool false, .bool false] 129)).heap.size = w.heap.size + 1 := by simp
  have HB0 : Hd (Below w.heap.size w W0) := ⟨by rw [← hW0]; exact hB1.alloc (by rw [hs1]; omega) _⟩
  have HA0 : Hd (W0.heap[w.heap.size + 1]? = some (.cells (arr4 r 0) 129 (0, 0))) := ⟨by
    rw [← hW0, ← hs1]; exact heap_alloc_new _ _⟩
  have HP0 : Hd (W0.heap[w.heap.size]? = some (.cells #[.bool false, .bool false, .bool false, .bool false] 129 (0, 0))) := ⟨by
    rw [← hW0]; exact (Below.heap_alloc _ _ _ (lt_heap (heap_alloc_new w _))).trans (heap_alloc_new w _)⟩
  have HW0 := Hd.mk hW0
  have hr8 := r.isLt
  have HR8 := Hd.mk hr8
  clear hW0 hB1 hs1 hr8
  go_enter Try.func86, Try.ntmps86
  go_upto_region 3 with fail
  rw [HW0.out]
  go_loopw [0, 5] (fun v i W => ∃ k : Nat, k ≤ 4 ∧ i = .int .i64 k ∧ v = .int .i64 ((r.toNat / 2 ^ k : Nat) : Int) ∧ Hd (W.heap[w.heap.size + 1]? = some (.cells (arr4 r k) 129 (0, 0))) ∧ Hd (W.heap[w.heap.size]? = some (.cells #[.bool false, .bool false, .bool false, .bool false] 129 (0, 0))) ∧ Hd (Below w.heap.size w W)) (fun _ i _ => 4 - (intOf i).toNat)
  case atStart => exact ⟨0, by omega, rfl, by simp [n8], HA0, HP0, HB0⟩
  case round =>
    obtain ⟨k, hk, rfl, rfl, HA, HP, HB⟩ := hrel
    by_cases hlt : k < 4
    · obtain ⟨z, hz⟩ := arr4_get r hlt
      have q0 : wr.cell? ⟨w.heap.size + 1, k, none⟩ = some (.bool z) := (cells_cell HA.out k).trans hz
      have f0 := cells_free HA.out k
      have hbt := bt_div r k
      have hle : r.toNat / 2 ^ k ≤ 255 := Nat.le_trans (Nat.div_le_self _ _) (by have := HR8.out; omega)
      have hdv : r.toNat / 2 ^ (k + 1) = r.toNat / 2 ^ k / 2 := by rw [Nat.pow_succ, Nat.div_div_eq_div_mul]
      have HA1 : Hd ((wr.setCell ⟨w.heap.size + 1, k, none⟩ (.bool (bt r k))).heap[w.heap.size + 1]? = some (.cells (arr4 r (k + 1)) 129 (0, 0))) := ⟨by rw [← arr4_step r hlt]; exact cells_set (o := k) HA.out _⟩
      have HP1 : Hd ((wr.setCell ⟨w.heap.size + 1, k, none⟩ (.bool (bt r k))).heap[w.heap.size]? = some (.cells #[.bool false, .bool false, .bool false, .bool false] 129 (0, 0))) := ⟨(setCell_other (by omega)).trans HP.out⟩
      have HB1 : Hd (Below w.heap.size w (wr.setCell ⟨w.heap.size + 1, k, none⟩ (.bool (bt r k)))) := ⟨HB.out.setCell (p := ⟨w.heap.size + 1, k, none⟩) (by simp) _⟩
      obtain ⟨b, hb⟩ : ∃ b, bt r k = b := ⟨_, rfl⟩
      rw [hb] at hbt HA1 HP1 HB1
      obtain ⟨x, hx⟩ : ∃ x, r.toNat / 2 ^ k = x := ⟨_, rfl⟩
      rw [hx] at hbt hle hdv ⊢
      obtain ⟨y, hy⟩ : ∃ y, x % 2 = y := ⟨_, rfl⟩
      obtain ⟨q, hq⟩ : ∃ y, x / 2 = y := ⟨_, rfl⟩
      have r1 : Int.tmod (x : Int) 2 = (y : Int) := by rw [Int.tmod_eq_emod_of_nonneg (by omega)]; omega
      have r2 : (x : Int) % 2 = (y : Int) := by omega
      have r3 : Int.tdiv (x : Int) 2 = (q : Int) := by rw [Int.tdiv_eq_ediv_of_nonneg (by omega)]; omega
      have r4 : (x : Int) / 2 = (q : Int) := by omega
      have r5 : IntKind.i64.wrap (y : Int) = (y : Int) := IntWalk.i64_in _ ⟨by omega, by omega⟩
      have r6 : IntKind.i64.wrap (q : Int) = (q : Int) := IntWalk.i64_in _ ⟨by omega, by omega⟩
      have r7 : ((y : Int) == 1) = b := by rw [hbt, hy]; by_cases h : y = 1 <;> simp [h]; omega
      have r8 : decide ((y : Int) = 1) = b := by rw [hbt, hy]; by_cases h : y = 1 <;> simp [h]; omega
      have HDV : Hd (r.toNat / 2 ^ (k + 1) = q) := ⟨by rw [hdv, hq]⟩
      have k0 : (0 : Int) ≤ (k : Int) := by omega
      have k1 : (k : Int) < 4 := by omega
      have hwk : IntKind.i64.wrap ((k : Int) + 1) = (k : Int) + 1 := IntWalk.i64_in _ ⟨by omega, by omega⟩
      have HLT := Hd.mk hlt
      clear hlt hk hz hbt hle hdv hb hx hy hq
      go_wp2_with fail
      go_roundw
      case rel => exact ⟨k + 1, by have := HLT.out; omega, by go_num, by rw [HDV.out], HA1, HP1, HB1⟩
      case measure => have := HLT.out; simp [intOf]; omega
    · obtain rfl : k = 4 := by omega
      rw [show ((4 : Nat) : Int) = 4 from rfl]
      have hb := HA.out
      have hp := HP.out
      have p0 := (cells_cell hb 0).trans (show _ = some (.bool (bt r 0)) from by simp [arr4])
      have p1 := (cells_cell hb 1).trans (show _ = some (.bool (bt r 1)) from by simp [arr4])
      have p2 := (cells_cell hb 2).trans (show _ = some (.bool (bt r 2)) from by simp [arr4])
      have p3 := (cells_cell hb 3).trans (show _ = some (.bool (bt r 3)) from by simp [arr4])
      have q0 := cells_cell hp 0
      have f0 := cells_free hp 0
      have q1 := cells_cell hp 1
      have f1 := cells_free hp 1
      have q2 := cells_cell hp 2
      have f2 := cells_free hp 2
      have q3 := cells_cell hp 3
      have f3 := cells_free hp 3
      simp only [List.getElem?_toArray, List.getElem?_cons_zero, List.getElem?_cons_succ] at q0 q1 q2 q3
      obtain ⟨x, hx⟩ : ∃ x, r.toNat / 2 ^ 4 = x := ⟨_, rfl⟩
      have HOK : Hd (((x : Int) == 0) = !badM r) := ⟨by
        unfold badM
        rw [← hx]
        have := HR8.out
        by_cases h : 15 < r.toNat
        · have : ¬ r.toNat / 2 ^ 4 = 0 := by omega
          simp [h]; omega
        · have : r.toNat / 2 ^ 4 = 0 := by omega
          simp [h]; omega⟩
      rw [hx]
      clear hb hp hx hlt hk
      go_wp2_with fail
      refine bodyPost_ret (results_cell_row2 Try.results86 _ _ w.heap.size 129 #[.bool (bt r 0), .bool (bt r 1), .bool (bt r 2), .bool (bt r 3)] (0, 0) _ rfl (set4 HP.out _ _ _ _) Try.underlying129 rfl info129) rfl ?_
      exact ⟨by rw [← HOK.out]; simp, below4 HB.out (Nat.le_refl _) _ _ _ _⟩

set_option maxRecDepth 100000 in
theorem refright_any (r : BitVec 8) (w : World) : Calls Try.prog 63 #[.int .i64 (n8 r)] w fun e w' => e = .returned (.bool (!badM r)) ∧ Below w.heap.size w w' := by
  have h0 : (0 : Int) ≤ n8 r := by unfold n8; omega
  have H0 := Hd.mk h0
  obtain ⟨b, hb⟩ : ∃ b, badM r = b := ⟨_, rfl⟩
  have HB := Hd.mk hb
  rw [hb]
  clear hb h0
  go_enter Try.func63, Try.ntmps63
  go_wp2_with fail
  refine (refhas_any r w).mono ?_
  rintro e w1 ⟨rfl, hB⟩
  have HB1 := Hd.mk (hB.alloc hB.size (.cells #[.bool (bt r 0), .bool (bt r 1), .bool (bt r 2), .bool (bt r 3)] 129))
  rw [HB.out]
  clear hB
  go_upto_region 2 with fail
  have h0 := H0.out
  cases b
  · go_wp2_with fail
    refine bodyPost_ret (results_tmp Try.results63 _ _ _) rfl ?_
    exact ⟨rfl, HB1.out⟩
  · go_wp2_with fail
    refine bodyPost_ret (results_tmp Try.results63 _ _ _) rfl ?_
    exact ⟨rfl, HB1.out⟩
theorem bt_none {m o : BitVec 8} (hm : badM m = false) (h : ∀ j, j < 4 → bt m j = true → bt o j = true) : m &&& ~~~o = 0#8 := by
  apply BitVec.eq_of_getLsbD_eq
  intro i hi
  simp only [BitVec.getLsbD_and, BitVec.getLsbD_not, BitVec.getLsbD_zero]
  by_cases h4 : i < 4
  · have := h i h4
    unfold bt at this
    cases hb : m.getLsbD i
    · simp
    · rw [hb] at this; simp [this rfl]
  · have : m.getLsbD i = false := by
      unfold badM at hm
      simp at hm
      rw [BitVec.getLsbD]
      exact Nat.testBit_lt_two_pow (Nat.lt_of_lt_of_le (show m.toNat < 2 ^ 4 by omega) (Nat.pow_le_pow_right (by omega) (by omega)))
    simp [this]
theorem bt_some {m o : BitVec 8} {j : Nat} (h1 : bt m j = true) (h2 : bt o j = false) : ¬ m &&& ~~~o = 0#8 := by
  intro h
  have h3 : (m &&& ~~~o).getLsbD j = false := by rw [h]; simp
  unfold bt at h1 h2
  have hj : j < 8 := by
    by_cases h : j < 8
    · exact h
    · rw [BitVec.getLsbD_of_ge _ _ (by omega)] at h1; cases h1
  rw [BitVec.getLsbD_and, BitVec.getLsbD_not, h1, h2] at h3
  simp [hj] at h3
theorem arrB_get (r : BitVec 8) {W : World} {b e : Nat} (h : W.heap[b]? = some (.cells #[.bool (bt r 0), .bool (bt r 1), .bool (bt r 2), .bool (bt r 3)] e (0, 0))) {k : Nat} (hk : k < 4) : W.cell? ⟨b, k, none⟩ = some (.bool (bt r k)) := by
  rw [cells_cell h]
  match k, hk with
  | 0, _ => rfl
  | 1, _ => rfl
  | 2, _ => rfl
  | 3, _ => rfl
set_option maxRecDepth 100000 in
set_option maxHeartbeats 1000000 in
theorem refbelow_any (m o : BitVec 8) (w : World) : Calls Try.prog 87 #[.int .i64 (n8 m), .int .i64 (n8 o)] w fun e w' => e = .returned (.bool (belB m o)) ∧ Below w.heap.size w w' := by
  obtain ⟨bm, hbm⟩ : ∃ b, badM m = b := ⟨_, rfl⟩
  obtain ⟨bo, hbo⟩ : ∃ b, badM o = b := ⟨_, rfl⟩
  have HBM := Hd.mk hbm
  have HBO := Hd.mk hbo
  clear hbm hbo
  go_enter Try.func87, Try.ntmps87
  go_wp2_with fail
  refine (refhas_any m w).mono ?_
  rintro e w1 ⟨rfl, hB⟩
  rw [HBM.out]
  go_upto_region 2 with fail
  obtain ⟨W1, hW1⟩ : ∃ W, (w1.alloc (.cells #[.bool (bt m 0), .bool (bt m 1), .bool (bt m 2), .bool (bt m 3)] 129)) = W := ⟨_, rfl⟩
  have hb1 : W1.heap[w1.heap.size]? = some (.cells #[.bool (bt m 0), .bool (bt m 1), .bool (bt m 2), .bool (bt m 3)] 129 (0, 0)) := by rw [← hW1]; exact heap_alloc_new _ _
  have hB1 : Below w.heap.size w W1 := by rw [← hW1]; exact hB.alloc hB.size _
  rw [hW1]
  obtain ⟨X, hX⟩ : ∃ X, w1.heap.size = X := ⟨_, rfl⟩
  rw [hX] at hb1 ⊢
  have HB1 := Hd.mk hB1
  have HX1 := Hd.mk hb1
  clear hW1 hX hb1 hB1 hB
  go_wp2_with fail
  refine (refhas_any o W1).mono ?_
  rintro e w2 ⟨rfl, hB⟩
  rw [HBO.out]
  have HX2 := Hd.mk ((hB.block X (lt_heap HX1.out)).trans HX1.out)
  have HB2 := Hd.mk (HB1.out.trans (hB.mono HB1.out.size))
  clear hB HX1 HB1
  go_upto_region 3 with fail
  obtain ⟨W3, hW3⟩ : ∃ W, (w2.alloc (.cells #[.bool (bt o 0), .bool (bt o 1), .bool (bt o 2), .bool (bt o 3)] 129)) = W := ⟨_, rfl⟩
  have hb3 : W3.heap[w2.heap.size]? = some (.cells #[.bool (bt o 0), .bool (bt o 1), .bool (bt o 2), .bool (bt o 3)] 129 (0, 0)) := by rw [← hW3]; exact heap_alloc_new _ _
  have hB3 : Below w2.heap.size w2 W3 := by rw [← hW3]; exact (Below.refl _ _).alloc (Nat.le_refl _) _
  rw [hW3]
  obtain ⟨Y, hY⟩ : ∃ X, w2.heap.size = X := ⟨_, rfl⟩
  rw [hY] at hb3 ⊢
  have HX3 := Hd.mk ((hB3.block X (lt_heap HX2.out)).trans HX2.out)
  have HY3 := Hd.mk hb3
  have HB3 := Hd.mk (HB2.out.trans (hB3.mono HB2.out.size))
  clear hW3 hY hb3 hB3 HX2 HB2
  by_cases hgood : bm = false ∧ bo = false
  · obtain ⟨rfl, rfl⟩ := hgood
    go_wp2_with fail
    go_loopw [9] (fun i W => ∃ k : Nat, k ≤ 4 ∧ i = .int .i64 k ∧ W = W3 ∧ Hd (∀ j, j < k → bt m j = true → bt o j = true)) (fun i _ => 4 - (intOf i).toNat)
    case atStart => exact ⟨0, by omega, rfl, rfl, ⟨fun j hj => by omega⟩⟩
    case round =>
      obtain ⟨k, hk, rfl, rfl, HA⟩ := hrel
      by_cases hlt : k < 4
      · have p0 := arrB_get m HX3.out hlt
        have p1 := arrB_get o HY3.out hlt
        obtain ⟨x, hx⟩ : ∃ x, bt m k = x := ⟨_, rfl⟩
        obtain ⟨y, hy⟩ : ∃ x, bt o k = x := ⟨_, rfl⟩
        rw [hx] at p0
        rw [hy] at p1
        have HXX := Hd.mk hx
        have HYY := Hd.mk hy
        have k0 : (0 : Int) ≤ (k : Int) := by omega
        have k1 : (k : Int) < 4 := by omega
        have hwk : IntKind.i64.wrap ((k : Int) + 1) = (k : Int) + 1 := IntWalk.i64_in _ ⟨by omega, by omega⟩
        have HLT := Hd.mk hlt
        clear hlt hk hx hy
        by_cases hv : x = true ∧ y = false
        · obtain ⟨rfl, rfl⟩ := hv
          have HF : Hd (belB m o = false) := ⟨by
            have := bt_some HXX.out HYY.out
            unfold belB
            simp [this]⟩
          go_wp2_with fail
          refine bodyPost_ret (results_tmp Try.results87 _ _ _) rfl ?_
          exact ⟨by rw [HF.out]; rfl, HB3.out⟩
        · have HA' : Hd (∀ j, j < k + 1 → bt m j = true → bt o j = true) := ⟨fun j hj h => by
            by_cases e : j = k
            · subst e
              rw [HXX.out] at h
              rw [HYY.out]
              subst h
              cases y
              · exact absurd ⟨rfl, rfl⟩ hv
              · rfl
            · exact HA.out j (by omega) h⟩
          have hxy : x = false ∨ y = true := by cases x <;> cases y <;> simp_all
          clear hv
          cases x
          · go_wp2_with fail
            go_roundw
            case rel => exact ⟨k + 1, by have := HLT.out; omega, by go_num, trivial, HA'⟩
            case measure => have := HLT.out; simp [intOf]; omega
          · obtain rfl : y = true := by simpa using hxy
            clear hxy
            go_wp2_with fail
            go_roundw
            case rel => exact ⟨k + 1, by have := HLT.out; omega, by go_num, trivial, HA'⟩
            case measure => have := HLT.out; simp [intOf]; omega
      · obtain rfl : k = 4 := by omega
        have HF : Hd (belB m o = true) := ⟨by
          have := bt_none HBM.out HA.out
          unfold belB
          rw [HBM.out, HBO.out]
          simp [this]⟩
        rw [show ((4 : Nat) : Int) = 4 from rfl]
        clear hlt hk
        go_wp2_with fail
        refine bodyPost_ret (results_tmp Try.results87 _ _ _) rfl ?_
        exact ⟨by rw [HF.out]; rfl, HB3.out⟩
  · have HF : Hd (belB m o = false) := ⟨by
      unfold belB
      rw [HBM.out, HBO.out]
      cases bm <;> cases bo <;> simp_all⟩
    have hor : bm = true ∨ bo = true := by cases bm <;> cases bo <;> simp_all
    clear hgood
    cases bm
    · obtain rfl : bo = true := by simpa using hor
      clear hor
      go_wp2_with fail
      refine bodyPost_ret (results_tmp Try.results87 _ _ _) rfl ?_
      exact ⟨by rw [HF.out]; rfl, HB3.out⟩
    · clear hor
      go_wp2_with fail
      refine bodyPost_ret (results_tmp Try.results87 _ _ _) rfl ?_
      exact ⟨by rw [HF.out]; rfl, HB3.out⟩
set_option maxRecDepth 100000 in
set_option maxHeartbeats 1000000 in
theorem refhand_any (f t : BitVec 8) (w : World) : Calls Try.prog 66 #[.int .i64 (n8 f), .int .i64 (n8 t)] w fun e w' => e = .returned (.int .i64 (handE f t)) ∧ Below w.heap.size w w' := by
  obtain ⟨bf, hbf⟩ : ∃ b, badM f = b := ⟨_, rfl⟩
  obtain ⟨b2, hb2⟩ : ∃ b, badM t = b := ⟨_, rfl⟩
  have HBF := Hd.mk hbf
  have HBT := Hd.mk hb2
  clear hbf hb2
  go_enter Try.func66, Try.ntmps66
  go_wp2_with fail
  refine (refright_any f w).mono ?_
  rintro e w1 ⟨rfl, hB⟩
  rw [HBF.out]
  have HB1 := Hd.mk hB
  clear hB
  cases bf
  · go_wp2_with fail
    refine (refright_any t w1).mono ?_
    rintro e w2 ⟨rfl, hB⟩
    rw [HBT.out]
    have HB2 := Hd.mk (HB1.out.trans (hB.mono HB1.out.size))
    clear hB
    cases b2
    · go_wp2_with fail
      refine (refhas_any f w2).mono ?_
      rintro e w3 ⟨rfl, hB⟩
      rw [HBF.out]
      go_upto_region 4 with fail
      obtain ⟨W4, hW4⟩ : ∃ W, (w3.alloc (.cells #[.bool (bt f 0), .bool (bt f 1), .bool (bt f 2), .bool (bt f 3)] 129)) = W := ⟨_, rfl⟩
      have hb4 : W4.heap[w3.heap.size]? = some (.cells #[.bool (bt f 0), .bool (bt f 1), .bool (bt f 2), .bool (bt f 3)] 129 (0, 0)) := by rw [← hW4]; exact heap_alloc_new _ _
      have hB4 : Below w.heap.size w W4 := by rw [← hW4]; exact ((HB2.out.trans (hB.mono HB2.out.size))).alloc (Nat.le_trans HB2.out.size hB.size) _
      rw [hW4]
      have p2 := arrB_get f hb4 (k := 2) (by omega)
      obtain ⟨x, hx⟩ : ∃ x, bt f 2 = x := ⟨_, rfl⟩
      have HX := Hd.mk hx
      rw [hx] at p2 ⊢
      have HB4 := Hd.mk hB4
      have HG : Hd ((f &&& 4#8 = 0#8) = (x = false)) := ⟨by
        rw [← hx]
        unfold bt
        apply propext
        constructor
        · intro h
          have h2 : (f &&& 4#8).getLsbD 2 = false := by rw [h]; simp
          rw [BitVec.getLsbD_and, show (4#8).getLsbD 2 = true from by decide, Bool.and_true] at h2
          exact h2
        · intro h
          apply BitVec.eq_of_getLsbD_eq
          intro i hi
          have h4 : (4#8).getLsbD i = decide (i = 2) := by
            have : ∀ i : Fin 8, (4#8).getLsbD i = decide ((i : Nat) = 2) := by decide
            exact this ⟨i, hi⟩
          rw [BitVec.getLsbD_and, h4]
          by_cases e : i = 2
          · subst e; rw [h]; simp
          · simp [e]⟩
      clear hW4 hb4 hB4 hB hx
      cases x
      · have HE : Hd (handE f t = 221) := ⟨by unfold handE; rw [HBF.out, HBT.out, if_neg (by simp), if_pos (.inl (by rw [HG.out]))]⟩
        go_wp2_with fail
        refine bodyPost_ret (results_tmp Try.results66 _ _ _) rfl ?_
        exact ⟨by rw [HE.out]; rfl, HB4.out⟩
      · go_wp2_with fail
        refine (refbelow_any t f _).mono ?_
        rintro e w5 ⟨rfl, hB⟩
        have HB5 := Hd.mk (HB4.out.trans (hB.mono HB4.out.size))
        obtain ⟨z, hz⟩ : ∃ z, belB t f = z := ⟨_, rfl⟩
        have HZ := Hd.mk hz
        rw [hz]
        clear hB hz p2
        have HE : Hd (handE f t = if z then 0 else 221) := ⟨by
          have hz := HZ.out
          unfold belB at hz
          rw [HBF.out, HBT.out] at hz
          have hg : ¬ f &&& 4#8 = 0#8 := by rw [HG.out]; simp
          unfold handE
          rw [HBF.out, HBT.out, if_neg (by simp)]
          by_cases h : t &&& ~~~f = 0#8
          · simp [h] at hz; simp [h, hg, ← hz]
          · simp [h] at hz; simp [h, hg, ← hz]⟩
        cases z
        · go_wp2_with fail
          refine bodyPost_ret (results_tmp Try.results66 _ _ _) rfl ?_
          exact ⟨by rw [HE.out]; rfl, HB5.out⟩
        · go_wp2_with fail
          refine bodyPost_ret (results_tmp Try.results66 _ _ _) rfl ?_
          exact ⟨by rw [HE.out]; rfl, HB5.out⟩
    · have HE : Hd (handE f t = 220) := ⟨by unfold handE; rw [HBT.out, if_pos (.inr rfl)]⟩
      go_wp2_with fail
      refine bodyPost_ret (results_tmp Try.results66 _ _ _) rfl ?_
      exact ⟨by rw [HE.out]; rfl, HB2.out⟩
  · have HE : Hd (handE f t = 220) := ⟨by unfold handE; rw [HBF.out, if_pos (.inl rfl)]⟩
    go_wp2_with fail
    refine bodyPost_ret (results_tmp Try.results66 _ _ _) rfl ?_
    exact ⟨by rw [HE.out]; rfl, HB1.out⟩

end Go.Proofs.Ytinagiofolmhbaa
