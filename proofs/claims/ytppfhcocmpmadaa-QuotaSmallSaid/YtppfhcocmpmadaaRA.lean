/- The reference: Right, Check, wrong. -/
import Derived.Test.YtppfhcocmpmadaaA3
namespace Go.Proofs.Ytppfhcocmpmadaa
open Go.RowKit
set_option linter.unusedVariables false

set_option maxRecDepth 100000 in
set_option maxHeartbeats 4000000 in
theorem rright_any (L U : Nat → Int) (w : World) : Calls Try.prog 36 #[.agg (bk L U)] w fun e w' => e = .returned (.bool (rightB L U)) ∧ Below w.heap.size w w' := by
  have HB0 : Hd (Below w.heap.size w (w.alloc (.cells (bk L U) 68))) := ⟨(Below.refl _ _).alloc (Nat.le_refl _) _⟩
  have HA : Hd ((w.alloc (.cells (bk L U) 68)).heap[w.heap.size]? = some (.cells (bk L U) 68 (0, 0))) := ⟨World.alloc_heap_new w _⟩
  have HL : Hd (w.heap.size < (w.alloc (.cells (bk L U) 68)).heap.size) := ⟨by simp⟩
  go_enter Try.func36, Try.ntmps36
  go_wp2_with fail
  obtain ⟨w1, hw1⟩ : ∃ w1, w.alloc (.cells (bk L U) 68) = w1 := ⟨_, rfl⟩
  rw [hw1] at HB0 HA HL ⊢
  clear hw1
  go_loopw [3] (fun i W => ∃ k : Nat, k ≤ 4 ∧ i = .int .i64 k ∧ Hd (∀ j, j < k → okAt L U j = true) ∧ Below w1.heap.size w1 W) (fun i _ => 4 - (intOf i).toNat)
  case atStart => exact ⟨0, by omega, rfl, ⟨fun j hj => by omega⟩, Below.refl _ _⟩
  case round =>
    obtain ⟨k, hk, rfl, HO, hB⟩ := hrel
    by_cases hlt : k < 4
    · have hb : wr.heap[w.heap.size]? = some (.cells (bk L U) 68 (0, 0)) := (hB.block _ HL.out).trans HA.out
      have hl := (cells_cell hb k).trans (bk_lim L U k hlt)
      have hu := (cells_cell hb (4 + k)).trans (bk_use L U k hlt)
      have HOK : Hd (okAt L U k = (decide (0 ≤ L k) && decide (L k ≤ 1099511627776) && decide (0 ≤ U k) && decide (U k ≤ L k))) := ⟨rfl⟩
      have i0 : (0 : Int) ≤ (k : Int) := by omega
      have i1 : (k : Int) < 4 := by omega
      obtain ⟨l, hl'⟩ : ∃ l, L k = l := ⟨_, rfl⟩
      obtain ⟨v, hv'⟩ : ∃ v, U k = v := ⟨_, rfl⟩
      rw [hl'] at hl HOK
      rw [hv'] at hu HOK
      clear hb hl' hv'
      by_cases c1 : l ≤ 1099511627776 ∧ 0 ≤ v ∧ v ≤ l
      · obtain ⟨c2, c3, c4⟩ := c1
        have c1 : 0 ≤ l := by omega
        have HN : Hd (∀ j, j < k + 1 → okAt L U j = true) := ⟨fun j hj => by
          by_cases e : j = k
          · rw [e, HOK.out]; simp [c1, c2, c3, c4]
          · exact HO.out j (by omega)⟩
        have d2 : decide (1099511627776 < l) = false := by simp; omega
        have d3 : decide (v < 0) = false := by simp; omega
        have d4 : decide (l < v) = false := by simp; omega
        clear HO HOK
        go_wp2_with fail
        go_quiet (fail)
        go_wp2_with fail
        go_roundw
        case rel => exact ⟨k + 1, by omega, by go_num, HN, below_drewN hB _⟩
        case measure => simp [intOf]; omega
      · have HR : Hd (rightB L U = false) := ⟨right_no hlt (by
          rw [HOK.out]
          cases hc : (decide (0 ≤ l) && decide (l ≤ 1099511627776) && decide (0 ≤ v) && decide (v ≤ l))
          · rfl
          · simp at hc; omega)⟩
        have hB2 := ch4 HB0.out hB
        by_cases c3 : 1099511627776 < l
        · have d2 : decide (1099511627776 < l) = true := by simp; omega
          clear HO HOK
          go_wp2_with fail
          go_quiet (fail)
          go_wp2_with fail
          go_ret
          exact ⟨by rw [HR.out]; rfl, below_drewN hB2 _⟩
        by_cases c4 : v < 0
        · have d2 : decide (1099511627776 < l) = false := by simp; omega
          have d3 : decide (v < 0) = true := by simp; omega
          clear HO HOK
          go_wp2_with fail
          go_quiet (fail)
          go_wp2_with fail
          go_ret
          exact ⟨by rw [HR.out]; rfl, below_drewN hB2 _⟩
        · have d2 : decide (1099511627776 < l) = false := by simp; omega
          have d3 : decide (v < 0) = false := by simp; omega
          have d4 : decide (l < v) = true := by simp; omega
          clear HO HOK
          go_wp2_with fail
          go_quiet (fail)
          go_wp2_with fail
          go_ret
          exact ⟨by rw [HR.out]; rfl, below_drewN hB2 _⟩
    · obtain rfl : k = 4 := by omega
      have HR : Hd (rightB L U = true) := ⟨right_yes fun j hj => HO.out j hj⟩
      have hB2 := ch4 HB0.out hB
      clear HO
      go_wp2_with fail
      go_ret
      exact ⟨by rw [HR.out]; rfl, hB2⟩

set_option maxRecDepth 100000 in
set_option maxHeartbeats 4000000 in
theorem rcheck_any (v : Value) (cs : List (Int × Int)) (w : World) (hs : SrcC w v cs) : Calls Try.prog 37 #[v] w fun e w' => e = .returned (.int .i64 (chkV cs)) ∧ Below w.heap.size w w' := by
  have hbig := hs.small
  obtain ⟨a, c, rfl⟩ := hs.shape
  have HS := Hd.mk hs
  clear hs
  by_cases hl : 4096 < cs.length
  · have e : chkV cs = 5 := by rw [chkV, if_pos hl]
    rw [e]; clear e
    go_enter Try.func37, Try.ntmps37
    go_wp2_with fail
    go_ret
    exact ⟨rfl, Below.refl _ _⟩
  · go_enter Try.func37, Try.ntmps37
    go_wp2_with fail
    go_loopw [3] (fun i W => ∃ k : Nat, k ≤ cs.length ∧ i = .int .i64 k ∧ Hd (∀ j (h : j < cs.length), j < k → okC cs[j] = true) ∧ Below w.heap.size w W) (fun i _ => cs.length - (intOf i).toNat)
    case atStart => exact ⟨0, by omega, rfl, ⟨fun j _ hj => by omega⟩, Below.refl _ _⟩
    case round =>
      obtain ⟨k, hk, rfl, HO, hB⟩ := hrel
      by_cases hlt : k < cs.length
      · obtain ⟨b, off, rfl, hb, hc1, hc2⟩ := (HS.out.below hB).at k hlt
        have HX : Hd (okC cs[k] = false → chkV cs = 251) := ⟨fun h => by
          rw [chkV, if_neg hl, if_neg]
          intro hall
          rw [List.all_eq_true] at hall
          rw [hall _ (List.getElem_mem hlt)] at h; cases h⟩
        have HK : Hd (okC cs[k] = true ↔ 0 ≤ cs[k].1 ∧ cs[k].1 < 4 ∧ -1099511627776 ≤ cs[k].2 ∧ cs[k].2 ≤ 1099511627776) := ⟨okC_iff _⟩
        obtain ⟨p, hp⟩ : ∃ p, cs[k].1 = p := ⟨_, rfl⟩
        obtain ⟨q, hq⟩ : ∃ p, cs[k].2 = p := ⟨_, rfl⟩
        rw [hp] at hc1 HK
        rw [hq] at hc2 HK
        have i0 : (0 : Int) ≤ (k : Int) := by omega
        have i1 : (k : Int) < (cs.length : Int) := by omega
        clear hp hq
        by_cases c1 : p < 0
        · have HE := Hd.mk (HX.out (by cases e : okC cs[k]; rfl; have := HK.out.1 e; omega))
          clear HX HK HO
          go_wp2_with fail
          go_ret
          exact ⟨by rw [HE.out]; rfl, hB⟩
        by_cases c2 : 3 < p
        · have HE := Hd.mk (HX.out (by cases e : okC cs[k]; rfl; have := HK.out.1 e; omega))
          clear HX HK HO
          go_wp2_with fail
          go_ret
          exact ⟨by rw [HE.out]; rfl, hB⟩
        by_cases c3 : 1099511627776 < q
        · have HE := Hd.mk (HX.out (by cases e : okC cs[k]; rfl; have := HK.out.1 e; omega))
          clear HX HK HO
          go_wp2_with fail
          go_ret
          exact ⟨by rw [HE.out]; rfl, hB⟩
        by_cases c4 : q < -1099511627776
        · have HE := Hd.mk (HX.out (by cases e : okC cs[k]; rfl; have := HK.out.1 e; omega))
          clear HX HK HO
          go_wp2_with fail
          go_ret
          exact ⟨by rw [HE.out]; rfl, hB⟩
        · have HN : Hd (∀ j (h : j < cs.length), j < k + 1 → okC cs[j] = true) := ⟨fun j h hj => by
            by_cases e : j = k
            · subst e; exact HK.out.2 ⟨by omega, by omega, by omega, by omega⟩
            · exact HO.out j h (by omega)⟩
          clear HX HK HO
          go_wp2_with fail
          go_roundw
          case rel => exact ⟨k + 1, by omega, by go_num, HN, hB⟩
          case measure => simp [intOf]; omega
      · obtain rfl : k = cs.length := by omega
        have HE : Hd (chkV cs = 0) := ⟨by
          rw [chkV, if_neg hl, if_pos]
          rw [List.all_eq_true]
          intro x hx
          obtain ⟨j, hj, rfl⟩ := List.mem_iff_getElem.1 hx
          exact HO.out j hj hj⟩
        clear HO
        go_wp2_with fail
        go_ret
        exact ⟨by rw [HE.out]; rfl, hB⟩

set_option maxRecDepth 100000 in
theorem rwrong_any (u l : Int) (w : World) : Calls Try.prog 46 #[.int .i64 u, .int .i64 l] w fun e w' => e = .returned (.int .i64 (failAt l u)) ∧ w = w' := by
  by_cases h1 : l < u
  · have HE : Hd (failAt l u = 252) := ⟨by rw [failAt, if_pos h1]⟩
    go_enter Try.func46, Try.ntmps46
    go_wp2_with fail
    go_ret
    exact ⟨by rw [HE.out]; rfl, rfl⟩
  · by_cases h2 : u < 0
    · have HE : Hd (failAt l u = 253) := ⟨by rw [failAt, if_neg h1, if_pos h2]⟩
      go_enter Try.func46, Try.ntmps46
      go_wp2_with fail
      go_ret
      exact ⟨by rw [HE.out]; rfl, rfl⟩
    · have HE : Hd (failAt l u = 0) := ⟨by rw [failAt, if_neg h1, if_neg h2]⟩
      go_enter Try.func46, Try.ntmps46
      go_wp2_with fail
      go_ret
      exact ⟨by rw [HE.out]; rfl, rfl⟩

set_option maxRecDepth 100000 in
set_option maxHeartbeats 1000000 in
theorem rboth_any (L U : Nat → Int) (v : Value) (cs : List (Int × Int)) (w : World) (hs : SrcC w v cs) : Calls Try.prog 45 #[.agg (bk L U), v] w fun e w' => e = .returned (.int .i64 (bothV L U cs)) ∧ Below w.heap.size w w' := by
  have HS := Hd.mk hs
  clear hs
  have HB0 : Hd (Below w.heap.size w (w.alloc (.cells (bk L U) 68))) := ⟨(Below.refl _ _).alloc (Nat.le_refl _) _⟩
  go_enter Try.func45, Try.ntmps45
  go_wp2_with (refine wpList_load_row rfl 68 _ rfl _ rfl 68 (bk L U) (0, 0) _ (World.alloc_heap_new w _) Try.underlying68 rfl (by kernel_rfl) ?_)
  refine (rright_any L U _).mono ?_
  rintro e w1 ⟨rfl, hB⟩
  have HB := Hd.mk (ch4 HB0.out hB)
  clear hB HB0
  cases hr : rightB L U
  · have HE : Hd (bothV L U cs = 250) := ⟨by rw [bothV, hr]; rfl⟩
    clear hr
    go_wp2_with fail
    go_ret
    exact ⟨by rw [HE.out]; rfl, HB.out⟩
  · have HE : Hd (bothV L U cs = chkV cs) := ⟨by rw [bothV, hr]; rfl⟩
    clear hr
    go_wp2_with fail
    refine (rcheck_any v cs _ (HS.out.below HB.out)).mono ?_
    rintro e w2 ⟨rfl, hB⟩
    go_wp2_with fail
    go_ret
    exact ⟨by rw [HE.out]; rfl, ch4 HB.out hB⟩
end Go.Proofs.Ytppfhcocmpmadaa
