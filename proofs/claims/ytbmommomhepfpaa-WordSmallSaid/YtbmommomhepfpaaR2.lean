/- Walks of the reference on lists of bits: up, down, bitwise, less, amount, negated. -/
import Derived.Test.YtbmommomhepfpaaR1
import Derived.Deep.RegionWith
namespace Go.Proofs.Ytbmommomhepfpaa
open Go.RowKit
set_option linter.unusedVariables false

def z64 : Array Value := Array.replicate 64 (.int .i64 0)
theorem mk64 (w : World) : (Instr.makeSlice 65 (.int .i64 64) (.int .i64 64)).run Try.prog w = .ok (.slice (some ⟨w.heap.size, 0, none⟩) 64 64) (w.alloc (.cells z64 3)) := by kernel_rfl

/-- Block B is a row of 64 integers, f. -/
def Mk (W : World) (B : Nat) (f : Nat → Int) : Prop := ∃ A : Array Value, W.heap[B]? = some (.cells A 3 (0, 0)) ∧ A.size = 64 ∧ ∀ j, j < 64 → A[j]? = some (.int .i64 (f j))
theorem Mk.made (w : World) : Mk (w.alloc (.cells z64 3)) w.heap.size (fun _ => 0) :=
  ⟨z64, World.alloc_heap_new w _, by simp [z64], fun j hj => by simp [z64, hj]⟩
section
variable {W W1 : World} {B : Nat} {f : Nat → Int}
theorem Mk.cell (h : Mk W B f) (j : Nat) (hj : j < 64) : W.cell? ⟨B, j, none⟩ = some (.int .i64 (f j)) := by
  obtain ⟨A, hA, _, hg⟩ := h
  rw [cells_cell hA]; exact hg j hj
theorem Mk.free (h : Mk W B f) (j : Nat) : W.frozen? ⟨B, j, none⟩ = false := by
  obtain ⟨A, hA, _, _⟩ := h
  exact cells_free hA j
theorem Mk.lt (h : Mk W B f) : B < W.heap.size := by
  obtain ⟨A, hA, _, _⟩ := h
  exact (Array.getElem?_eq_some_iff.1 hA).1
theorem Mk.set (h : Mk W B f) (i : Nat) (hi : i < 64) (z : Int) : Mk (W.setCell ⟨B, i, none⟩ (.int .i64 z)) B (fun j => if j = i then z else f j) := by
  obtain ⟨A, hA, hs, hg⟩ := h
  refine ⟨_, cells_set hA _, by simpa using hs, fun j hj => ?_⟩
  show _ = some (Value.int .i64 (if j = i then z else f j))
  rw [Array.getElem?_setIfInBounds]
  by_cases e : j = i
  · subst e; rw [if_pos rfl, if_pos rfl, if_pos (by omega)]
  · rw [if_neg (fun h => e h.symm), if_neg e]; exact hg j hj
theorem Mk.below {N : Nat} (h : Mk W B f) (hB : Below N W W1) (hl : B < N) : Mk W1 B f := by
  obtain ⟨A, hA, hs, hg⟩ := h
  exact ⟨A, (hB.block B hl).trans hA, hs, hg⟩
theorem Mk.bs {x : BitVec 64} (h : Mk W B f) (hf : ∀ j, j < 64 → f j = bi x j) : Bs W (.slice (some ⟨B, 0, none⟩) 64 64) x :=
  ⟨B, 0, 64, rfl, by omega, by simp [maxLen], h.lt, fun i hi => by rw [Nat.zero_add, h.cell i hi, hf i hi]⟩
theorem Mk.congr {g : Nat → Int} (h : Mk W B f) (hfg : ∀ j, j < 64 → f j = g j) : Mk W B g := by
  obtain ⟨A, hA, hs, hg⟩ := h
  exact ⟨A, hA, hs, fun j hj => by rw [← hfg j hj]; exact hg j hj⟩
end
theorem bs_zero {W : World} {B : Nat} (h : Mk W B (fun _ => 0)) : Bs W (.slice (some ⟨B, 0, none⟩) 64 64) 0#64 := h.bs (fun j _ => by simp [bi])

/-- Bits that are moved up by n, as far as place i. -/
def upF (x : BitVec 64) (n i j : Nat) : Int := if n ≤ j ∧ j < i then bi x (j - n) else 0
theorem upF_end (x : BitVec 64) (n j : Nat) (h : j < 64) : upF x n 64 j = bi (x <<< n) j := by
  unfold upF bi
  rw [BitVec.getLsbD_shiftLeft]
  by_cases hn : n ≤ j
  · rw [if_pos ⟨hn, h⟩]; simp [h, Nat.not_lt.2 hn]
  · rw [if_neg (fun e => hn e.1)]; simp [Nat.lt_of_not_le hn]
theorem upF_step (x : BitVec 64) (n i j : Nat) (h : n ≤ i) : (if j = i then bi x (i - n) else upF x n i j) = upF x n (i + 1) j := by
  unfold upF
  by_cases e : j = i
  · subst e; rw [if_pos rfl, if_pos ⟨h, by omega⟩]
  · rw [if_neg e]
    by_cases h2 : n ≤ j ∧ j < i
    · rw [if_pos h2, if_pos ⟨h2.1, by omega⟩]
    · rw [if_neg h2, if_neg (by omega)]

set_option maxRecDepth 100000 in
set_option maxHeartbeats 1000000 in
theorem up_mk (v : Value) (x : BitVec 64) (n : Nat) (hn : n ≤ 63) (w : World) (hv : Bs w v x) : Calls Try.prog 38 #[v, .int .i64 n] w fun e w' => ∃ g, e = .returned (.slice (some ⟨g, 0, none⟩) 64 64) ∧ w.heap.size ≤ g ∧ Mk w' g (bi (x <<< n)) ∧ Below w.heap.size w w' := by
  obtain ⟨b, off, c, rfl, hc, _, hbw, hcell⟩ := hv
  have HC := Hd.mk hcell
  clear hcell
  have hmk := mk64
  go_enter Try.func38, Try.ntmps38
  go_wp2_with fail
  have hB0 : Below w.heap.size w (w.alloc (.cells z64 3)) := (Below.refl _ _).alloc (Nat.le_refl _) _
  go_loopw [6] (fun i W => ∃ k : Nat, n ≤ k ∧ k ≤ 64 ∧ i = .int .i64 k ∧ Mk W w.heap.size (upF x n k) ∧ Below w.heap.size w W) (fun i _ => 64 - (intOf i).toNat)
  case atStart => exact ⟨n, by omega, by omega, rfl, (Mk.made w).congr (fun j _ => by unfold upF; rw [if_neg (by omega)]), hB0⟩
  case round =>
    obtain ⟨k, hnk, hk, rfl, hM, hB⟩ := hrel
    by_cases hlt : k < 64
    · obtain ⟨m, rfl⟩ : ∃ m, k = m + n := ⟨k - n, by omega⟩
      have hck : wr.cell? ⟨b, off + m, none⟩ = some (.int .i64 (bi x m)) := by rw [hB.cell (p := ⟨b, off + m, none⟩) hbw]; exact HC.out m (by omega)
      have hcw := hM.cell (m + n) hlt
      have hfw := hM.free (m + n)
      have hst : Mk (wr.setCell ⟨w.heap.size, m + n, none⟩ (.int .i64 (bi x m))) w.heap.size (upF x n (m + n + 1)) :=
        (hM.set (m + n) hlt (bi x m)).congr (fun j _ => by have := upF_step x n (m + n) j (by omega); rw [show m + n - n = m from by omega] at this; exact this)
      have hB' : Below w.heap.size w (wr.setCell ⟨w.heap.size, m + n, none⟩ (.int .i64 (bi x m))) := hB.setCell (by simp) _
      have hmn : ((m + n : Nat) : Int) - (n : Int) = (m : Int) := by omega
      have HS := Hd.mk hst
      clear hM hst hB
      go_wp2_with fail
      go_roundw
      case rel => exact ⟨m + n + 1, by omega, by omega, by go_num, HS.out, hB'⟩
      case measure => simp [intOf]; omega
    · obtain rfl : k = 64 := by omega
      go_wp2_with fail
      go_ret
      exact ⟨_, rfl, Nat.le_refl _, hM.congr (fun j hj => upF_end x n j hj), hB⟩

theorem up_any (v : Value) (x : BitVec 64) (n : Nat) (hn : n ≤ 63) (w : World) (hv : Bs w v x) : Calls Try.prog 38 #[v, .int .i64 n] w fun e w' => ∃ v, e = .returned v ∧ Bs w' v (x <<< n) ∧ Below w.heap.size w w' := by
  refine (up_mk v x n hn w hv).mono ?_
  rintro e w' ⟨g, rfl, hg, hM, hB⟩
  exact ⟨_, rfl, hM.bs (fun _ _ => rfl), hB⟩

set_option maxRecDepth 100000 in
set_option maxHeartbeats 1000000 in
theorem down_any (v : Value) (x y : BitVec 64) (n : Nat) (t : Int) (hn : n ≤ 63) (ht : 0 ≤ t ∧ t ≤ 1) (hy : ∀ j, j < 64 → (if j + n < 64 then bi x (j + n) else t) = bi y j) (w : World) (hv : Bs w v x) : Calls Try.prog 48 #[v, .int .i64 n, .int .i64 t] w fun e w' => ∃ v, e = .returned v ∧ Bs w' v y ∧ Below w.heap.size w w' := by
  obtain ⟨b, off, c, rfl, hc, _, hbw, hcell⟩ := hv
  have HC := Hd.mk hcell
  have HY := Hd.mk hy
  clear hcell hy
  go_enter Try.func48, Try.ntmps48
  go_wp2_with fail
  go_loopw [7, 8] (fun v i W => ∃ k : Nat, k ≤ 64 ∧ i = .int .i64 k ∧ OwnE ei W w.heap.size 3 v (bl y k) ∧ Below w.heap.size w W) (fun _ i _ => 64 - (intOf i).toNat)
  case atStart => exact ⟨0, by omega, rfl, OwnE.nil _ _ _ _, Below.refl _ _⟩
  case round =>
    obtain ⟨k, hk, rfl, ho, hB⟩ := hrel
    by_cases hlt : k < 64
    · obtain ⟨v', w', hr, ho', hB'⟩ := app1 (bi y k) ho hB hB.size (by rw [bl_len]; omega)
      rw [← bl_succ] at ho'
      have HO := Hd.mk ho'
      have hyk := HY.out k hlt
      clear ho ho'
      by_cases hkn : k + n < 64
      · rw [if_pos hkn] at hyk
        have hck : wr.cell? ⟨b, off + (k + n), none⟩ = some (.int .i64 (bi y k)) := by rw [hB.cell (p := ⟨b, off + (k + n), none⟩) hbw, ← hyk]; exact HC.out (k + n) hkn
        have hkn0 : 0 ≤ (k : Int) + (n : Int) := by omega
        have hknt : ((k : Int) + (n : Int)).toNat = k + n := by omega
        clear hyk
        go_wp2_with (at_builtin; refine wpList_append_run rfl _ _ _ rfl rfl rfl hr ?_; clear hr)
        go_roundw
        case rel => exact ⟨k + 1, by omega, by go_num, HO.out, hB'⟩
        case measure => simp [intOf]; omega
      · rw [if_neg hkn] at hyk
        rw [← hyk] at hr
        clear hyk
        go_wp2_with (at_builtin; refine wpList_append_run rfl _ _ _ rfl rfl rfl hr ?_; clear hr)
        go_roundw
        case rel => exact ⟨k + 1, by omega, by go_num, HO.out, hB'⟩
        case measure => simp [intOf]; omega
    · obtain rfl : k = 64 := by omega
      go_wp2_with fail
      go_ret
      exact ⟨_, rfl, Bs.of ho, hB⟩

theorem Bs.al {w : World} {v : Value} {x : BitVec 64} (h : Bs w v x) (o : Obj) : Bs (w.alloc o) v x := h.below ((Below.refl _ _).alloc (Nat.le_refl _) _)
theorem Bs.dr {w : World} {v : Value} {x : BitVec 64} (h : Bs w v x) : Bs w.drew v x := h.below (Below.refl _ _).drew
theorem sum0 (v1 v2 : Value) (x y : BitVec 64) (w : World) (hv1 : Bs w v1 x) (hv2 : Bs w v2 y) : Calls Try.prog 39 #[v1, v2, .int .i64 0] w fun e w' => ∃ v, e = .returned v ∧ Bs w' v (x + y) ∧ Below w.heap.size w w' := by
  have := sum_any v1 v2 x y 0 (by decide) w hv1 hv2
  simpa using this
theorem sum1 (v1 v2 : Value) (x y : BitVec 64) (w : World) (hv1 : Bs w v1 x) (hv2 : Bs w v2 y) : Calls Try.prog 39 #[v1, v2, .int .i64 1] w fun e w' => ∃ v, e = .returned v ∧ Bs w' v (x + y + 1#64) ∧ Below w.heap.size w w' :=
  sum_any v1 v2 x y 1 (by decide) w hv1 hv2
theorem ch1 {w w1 : World} (h : Below w.drew.heap.size w.drew w1) : Below w.heap.size w w1 := (Below.refl _ _).drew.trans h
theorem ch2 {w w1 : World} {o : Obj} (h : Below (w.alloc o).drew.heap.size (w.alloc o).drew w1) : Below w.heap.size w w1 := (((Below.refl _ _).alloc (Nat.le_refl _) o).drew).trans (h.mono (by simp))
theorem ch3 {w w1 : World} {o : Obj} (h : Below (w.alloc o).heap.size (w.alloc o) w1) : Below w.heap.size w w1 := ((Below.refl _ _).alloc (Nat.le_refl _) o).trans (h.mono (by simp))
theorem ch4 {w w1 w2 : World} (h : Below w.heap.size w w1) (k : Below w1.heap.size w1 w2) : Below w.heap.size w w2 := h.trans (k.mono h.size)
theorem not_neg (x : BitVec 64) : ~~~x + 0#64 + 1#64 = -x := by rw [BitVec.neg_eq_not_add]; simp

set_option maxHeartbeats 2000000 in
theorem amount_neg (x : BitVec 64) (hx : x.slt 0#64 = true) (w : World) : Calls Try.prog 37 #[s x] w fun e w' => ∃ v, e = .returned v ∧ Bs w' v (-x) ∧ Below w.heap.size w w' := by
  have hmk := mk64
  go_enter Try.func37, Try.ntmps37
  go_wp2_with fail
  go_region_with (first
    | (go_at_call 43; refine (bits_any x _).mono ?_; rintro e w1 ⟨v1, rfl, hb1, hB1⟩; have HB1 := Hd.mk hb1; have HX1 := Hd.mk hB1; clear hb1 hB1)
    | (go_at_call 41; refine (not_any _ x _ ?_).mono ?_; (first | exact HB1.out | exact HB1.out.al _ | exact HB1.out.dr | exact HB1.out.dr.al _ | exact (HB1.out.al _).dr); rintro e w2 ⟨v2, rfl, hb2, hB2⟩; have HB2 := Hd.mk hb2; have HX2 := Hd.mk hB2; clear hb2 hB2)
    | (go_at_call 39; refine (sum1 _ _ (~~~x) 0#64 _ ?_ ?_).mono ?_; (first | exact HB2.out | exact HB2.out.al _ | exact HB2.out.dr | exact HB2.out.dr.al _ | exact (HB2.out.al _).dr); (first | exact bs_zero (Mk.made _) | exact (bs_zero (Mk.made _)).dr | exact (bs_zero (Mk.made _)).below HX2.out | exact ((bs_zero (Mk.made _)).below HX1.out).below HX2.out | exact (((bs_zero (Mk.made _)).dr).below HX1.out).below HX2.out); rintro e w3 ⟨v3, rfl, hb3, hB3⟩; have HB3 := Hd.mk hb3; have HX3 := Hd.mk hB3; clear hb3 hB3))
  all_goals
    rw [not_neg] at HB3
    go_wp2_with fail
    go_ret
    have b1 : Below w.heap.size w w1 := by first | exact ch1 HX1.out | exact ch2 HX1.out
    have b2 : Below w1.heap.size w1 w2 := by first | exact HX2.out | exact ch3 HX2.out
    have b3 : Below w2.heap.size w2 w3 := by first | exact HX3.out | exact ch3 HX3.out
    exact ⟨_, rfl, HB3.out, ch4 b1 (ch4 b2 b3)⟩

set_option maxHeartbeats 1000000 in
theorem amount_pos (x : BitVec 64) (hx : x.slt 0#64 = false) (w : World) : Calls Try.prog 37 #[s x] w fun e w' => ∃ v, e = .returned v ∧ Bs w' v x ∧ Below w.heap.size w w' := by
  go_enter Try.func37, Try.ntmps37
  go_wp2_with fail
  refine (bits_any x _).mono ?_
  rintro e w1 ⟨v1, rfl, hb1, hB1⟩
  have HB1 := Hd.mk hb1
  clear hb1
  go_wp2_with fail
  go_ret
  exact ⟨_, rfl, HB1.out, hB1⟩

set_option maxHeartbeats 1000000 in
theorem negated_any (v : Value) (x : BitVec 64) (is : Bool) (w : World) (hv : Bs w v x) : Calls Try.prog 46 #[v, .bool is] w fun e w' => e = .returned (s (if is then -x else x)) ∧ Below w.heap.size w w' := by
  have HV := Hd.mk hv
  clear hv
  have hmk := mk64
  cases is
  · go_enter Try.func46, Try.ntmps46
    go_wp2_with fail
    refine (word_any v x _ HV.out).mono ?_
    rintro e w1 ⟨rfl, rfl⟩
    go_wp2_with fail
    go_ret
    exact ⟨rfl, Below.refl _ _⟩
  · go_enter Try.func46, Try.ntmps46
    go_wp2_with fail
    go_region_with (first
      | (go_at_call 41; refine (not_any _ x _ ?_).mono ?_; (first | exact HV.out | exact HV.out.al _ | exact HV.out.dr | exact HV.out.dr.al _ | exact (HV.out.al _).dr); rintro e w2 ⟨v2, rfl, hb2, hB2⟩; have HB2 := Hd.mk hb2; have HX2 := Hd.mk hB2; clear hb2 hB2)
      | (go_at_call 39; refine (sum1 _ _ (~~~x) 0#64 _ ?_ ?_).mono ?_; (first | exact HB2.out | exact HB2.out.al _ | exact HB2.out.dr | exact HB2.out.dr.al _ | exact (HB2.out.al _).dr); (first | exact bs_zero (Mk.made _) | exact (bs_zero (Mk.made _)).dr | exact (bs_zero (Mk.made _)).below HX2.out | exact ((bs_zero (Mk.made _)).dr).below HX2.out); rintro e w3 ⟨v3, rfl, hb3, hB3⟩; rw [not_neg] at hb3; have HB3 := Hd.mk hb3; have HX3 := Hd.mk hB3; clear hb3 hB3)
      | (go_at_call 42; refine (word_any _ (-x) _ HB3.out).mono ?_; rintro e w4 ⟨rfl, rfl⟩))
    all_goals
      go_wp2_with fail
      go_ret
      have b2 : Below w.heap.size w w2 := by first | exact ch1 HX2.out | exact ch2 HX2.out
      have b3 : Below w2.heap.size w2 w3 := by first | exact HX3.out | exact ch3 HX3.out
      exact ⟨rfl, ch4 b2 b3⟩
end Go.Proofs.Ytbmommomhepfpaa
