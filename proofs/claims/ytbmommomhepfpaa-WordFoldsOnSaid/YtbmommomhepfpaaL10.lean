/- Walk of the law WordFoldsOn, a list with words. -/
import Derived.Test.YtbmommomhepfpaaL9
namespace Go.Proofs.Ytbmommomhepfpaa
open Go.RowKit
set_option linter.unusedVariables false

theorem own1 (w : World) (a : BitVec 64) (base : Nat) (hb : base ≤ w.heap.size) : OwnE s (w.alloc (.cells #[s a] 2)) base 2 (.slice (some ⟨w.heap.size, 0, none⟩) 1 1) [a] :=
  World.ownsRow_lit w #[s a] 1 hb (by simp [maxLen]) rfl
theorem append_one {w : World} {x : BitVec 64} {sv : Value} {ys : List (BitVec 64)} (hs : SrcE s w sv ys) (hl : ys.length ≤ 1000) :
    ∃ v' w', (Builtin.append_ #[32, 32] 32 #[.slice (some ⟨w.heap.size, 0, none⟩) 1 1, sv]).run Try.prog (w.alloc (.cells #[s x] 2)) = .ok v' w' ∧ SrcE s w' v' (x :: ys) ∧ Below w.heap.size w w' := by
  have hB := (Below.refl w.heap.size w).alloc (Nat.le_refl _) (.cells #[s x] 2)
  have ho := own1 w x w.heap.size (Nat.le_refl _)
  obtain ⟨v', w', hr, ho', hg⟩ := append_s ho (by simp) (hs.below hB) (by simp; omega)
  exact ⟨v', w', hr, ho'.src, ho.grown hB (by simp) hg⟩
theorem src1 (w : World) (a : BitVec 64) : SrcE s (w.alloc (.cells #[s a] 2)) (.slice (some ⟨w.heap.size, 0, none⟩) 1 1) [a] := (own1 w a 0 (Nat.zero_le _)).src

theorem SrcE.suf {α : Type} {enc : α → Value} {w : World} {g m c k : Nat} {ys : List α} (h : SrcE enc w (.slice (some ⟨g, 0, none⟩) m c) ys) (hk : k ≤ c) :
    SrcE enc w (.slice (some ⟨g, k, none⟩) (m - k) (c - k)) (ys.drop k) := by
  rcases h with ⟨hv, _⟩ | ⟨ad, c', hv, hc, hmx, hcell⟩
  · simp at hv
  · obtain ⟨rfl, rfl, rfl⟩ := by simpa using hv
    refine .inr ⟨_, c - k, by rw [List.length_drop], by rw [List.length_drop]; omega, by omega, fun j hj => ?_⟩
    rw [List.length_drop] at hj
    have := hcell (k + j) (by omega)
    rw [plain_add, Nat.zero_add] at this
    rw [plain_add, this]
    simp
theorem SrcE.emp {α : Type} (enc : α → Value) (w : World) (a : Option Addr) : SrcE enc w (.slice a 0 0) [] := by
  cases a with
  | none => exact .inl ⟨rfl, rfl⟩
  | some a => exact .inr ⟨a, 0, rfl, by simp, by simp, fun j hj => by simp at hj⟩

theorem SrcE.empEq {α : Type} (enc : α → Value) (w : World) (a : Option Addr) (n c : Nat) (ys : List α) (hn : n = 0) (hc : c = 0) (hy : ys = []) : SrcE enc w (.slice a n c) ys := by
  subst hn hc hy; exact SrcE.emp enc w a
theorem cons_drop {xs : List (BitVec 64)} {x : BitVec 64} (h : xs[0]? = some x) : xs = x :: xs.drop 1 := by
  cases xs with
  | nil => cases h
  | cons y t => simp at h; subst h; rfl
theorem foldV_1 (x : BitVec 64) (t : List (BitVec 64)) : foldV 1 (x :: t) = foldW 1 t x := if_neg (by decide)
theorem foldV_2 (x : BitVec 64) (t : List (BitVec 64)) : foldV 2 (x :: t) = foldW 2 t x := if_neg (by decide)
theorem fold_less {xs : List (BitVec 64)} {x : BitVec 64} (h : xs[0]? = some x) : foldV 2 xs = (x - (foldV 1 (0#64 :: xs.drop 1)).1, 0) := by
  conv => lhs; rw [cons_drop h]
  rw [foldV_2, fold_sub, foldV_1]
theorem fold_sum0 (t : List (BitVec 64)) : (foldV 1 (0#64 :: t)).2 = 0 := by rw [foldV_1, fold_add]

set_option maxRecDepth 100000 in
set_option maxHeartbeats 4000000 in
theorem foldsOn_okC (op : Int) (h0 : 0 ≤ op) (h255 : op ≤ 255) (at' : Int) (ha0 : 0 ≤ at') (ha1 : at' ≤ 255) (ad : Option Addr) (n c : Nat) (w : World)
    (m : Nat) (hmin : (if (20 : Int) < (n : Int) then 20 else (n : Int)) = (m : Int)) (hm0 : 0 < m) (hm1 : m ≤ n) (hm2 : m ≤ 20) (hmc : m ≤ c)
    (k : Nat) (hk : 1 + at' % (m : Int) = (k : Int)) (hk1 : 1 ≤ k) (hk2 : k ≤ m) (xs : List (BitVec 64)) (HL : Hd (xs.length = m)) (w1 : World) (g c1 : Nat) (hc1 : ¬ c1 = 1) (hck : ¬ c1 = k)
    (hr : (Builtin.append_ #[32, 32] 32 #[.slice (some ⟨w.heap.size, 0, none⟩) 0 0, .slice ad m c]).run Try.prog (w.alloc (.cells #[] 2)) = .ok (.slice (some ⟨g, 0, none⟩) m c1) w1)
    (HS1 : Hd (SrcE s w1 (.slice (some ⟨g, 0, none⟩) m c1) xs)) (hB : Below w.heap.size w w1) (hkc : k ≤ c1) (q : Int) (hq : 1 + op % 17 = q) (hf : (foldV q (xs.take k)).2 = 0) (x0 : BitVec 64) (HX : Hd (xs[0]? = some x0)) :
    Calls Try.prog 8 #[.int .u8 op, .slice ad n c, .int .u8 at'] w fun e w' => e = .returned (.bool true) ∧ Below w.heap.size w w' := by
  have hq1 : 1 ≤ q := by omega
  have hq2 : q ≤ 17 := by omega
  have hne : ((m : Int) == 0) = false := beq_eq_false_iff_ne.2 (by omega)
  have hF2 := foldV_two q hq1 hq2 (xs.take k) (xs.drop k) (by intro e; have := congrArg List.length e; rw [List.length_take, HL.out] at this; simp at this; omega)
  rw [List.take_append_drop, if_pos hf] at hF2
  have hsk : Hd (SrcE s w1 (.slice (some ⟨g, 0, none⟩) k c1) (xs.take k)) := ⟨HS1.out.pre (by have := HL.out; omega) (.inr (.inr trivial))⟩
  obtain ⟨F, hF⟩ : ∃ F, F = foldV q (xs.take k) := ⟨_, rfl⟩
  rw [← hF] at hF2 hf
  have HF := Hd.mk hF
  clear hF
  obtain ⟨R, hR⟩ : ∃ R, R = foldV q (F.1 :: xs.drop k) := ⟨_, rfl⟩
  rw [← hR] at hF2
  have HF2 := Hd.mk hF2
  have HR := Hd.mk hR
  have hf' : (F.2 != 0) = false := by simpa using hf
  have HF0 := Hd.mk hf
  clear hR hF2 hf
  go_enter Try.func8, Try.ntmps8
  go_wp2_with (at_builtin; refine wpList_append_run rfl _ _ _ rfl rfl rfl hr ?_; clear hr)
  refine (fold_any q (by omega) (by omega) _ xs w1 HS1.out (by have := HL.out; omega)).mono ?_
  rintro e w2 ⟨rfl, hB2⟩
  rw [HF2.out]
  have hB3 := hB.trans (hB2.mono hB.size)
  have hsk2 := Hd.mk (hsk.out.below hB2)
  have HS2 := Hd.mk (HS1.out.below hB2)
  clear hB hB2
  go_wp2_with fail
  refine (fold_any q (by omega) (by omega) _ (xs.take k) _ hsk2.out (by have := HL.out; rw [List.length_take]; omega)).mono ?_
  rintro e w4 ⟨rfl, hB4⟩
  rw [← HF.out, HF0.out]
  have hB := hB3.trans (hB4.mono hB3.size)
  have HS4 := Hd.mk (HS2.out.below hB4)
  clear hB3 hB4

  have hx4 : w4.cell? ⟨g, 0, none⟩ = some (s x0) := by
    obtain ⟨b, off, hb, _, hc⟩ := HS4.out.at 0 (by have := HL.out; omega)
    simp only [Option.some.injEq, Addr.mk.injEq] at hb
    obtain ⟨rfl, rfl, -⟩ := hb
    have hX := HX.out
    rw [List.getElem?_eq_getElem (by have := HL.out; omega)] at hX
    simp only [Option.some.injEq] at hX
    rw [← hX]; exact hc
  have hg4 : g < w4.heap.size := World.block_lt_of_cell? w4 _ hx4
  have HX4 := Hd.mk hx4
  have HS := Hd.mk (fold_less HX.out)
  have HL0 := Hd.mk (fold_sum0 (xs.drop 1))
  clear hx4
  obtain ⟨v5, w5, hr5, hs5, hB5⟩ := append_one (x := F.1) (HS4.out.suf hkc) (by first | (simp; done) | (simp; have := HL.out; omega))
  have HS5 := Hd.mk hs5
  clear hs5
  go_wp2_with (at_builtin; refine wpList_append_run rfl _ _ _ rfl rfl rfl hr5 ?_; clear hr5)
  refine (fold_any q (by omega) (by omega) v5 _ w5 HS5.out (by first | (simp; done) | (simp; have := HL.out; omega))).mono ?_
  rintro e w6 ⟨rfl, hB6⟩
  rw [← HR.out]
  have hB56 := hB5.trans (hB6.mono hB5.size)
  have HS6 := Hd.mk (HS4.out.below hB56)
  have hx6 : w6.cell? ⟨g, 0, none⟩ = some (s x0) := by rw [hB56.cell (p := ⟨g, 0, none⟩) hg4]; exact HX4.out
  have hg6 : g < w6.heap.size := by have := hB56.size; omega
  have hB7 := hB.trans (hB56.mono hB.size)
  clear hB hB5 hB6 hB56
  go_wp2_with fail
  refine (fold_any q (by omega) (by omega) _ [x0] _ (src1 w6 x0) (by simp)).mono ?_
  rintro e w8 ⟨rfl, hB8⟩
  rw [foldV_one q hq1 hq2]
  have hB8' : Below w6.heap.size w6 w8 := ((Below.refl _ _).alloc (Nat.le_refl _) _).trans (hB8.mono (by simp))
  have hB9 := hB7.trans (hB8'.mono hB7.size)
  have hx8 : w8.cell? ⟨g, 0, none⟩ = some (s x0) := by rw [hB8'.cell (p := ⟨g, 0, none⟩) hg6]; exact hx6
  have hg8 : g < w8.heap.size := by have := hB8'.size; omega
  have HS8 := Hd.mk (HS6.out.below hB8')
  have HX8 := Hd.mk hx8
  obtain ⟨v10, w10, hr10, hs10, hB10⟩ := append_one (x := 0#64) ((HS6.out.below hB8').suf (k := 1) (by omega)) (by first | (simp; done) | (simp; have := HL.out; omega))
  rw [show s 0#64 = Value.int .i64 0 from rfl] at hr10
  have HS10 := Hd.mk hs10
  clear hs10 hB7 hB8 hB8' hx6 hx8
  go_wp2_with (at_builtin; refine wpList_append_run rfl _ _ _ rfl rfl rfl hr10 ?_; clear hr10)
  refine (fold_any 1 (by decide) (by decide) v10 _ w10 HS10.out (by first | (simp; done) | (simp; have := HL.out; omega))).mono ?_
  rintro e w12 ⟨rfl, hB12⟩
  rw [HL0.out]
  have hB10' := hB10.trans (hB12.mono hB10.size)
  have HS12 := Hd.mk (HS8.out.below hB10')
  have hx12 : w12.cell? ⟨g, 0, none⟩ = some (s x0) := by rw [hB10'.cell (p := ⟨g, 0, none⟩) hg8]; exact HX8.out
  have hg12 : g < w12.heap.size := by have := hB10'.size; omega
  have HX12 := Hd.mk hx12
  have hB13 := hB9.trans (hB10'.mono hB9.size)
  clear hB9 hB10 hB12 hB10' hx12
  go_wp2_with fail
  refine (fold_any 2 (by decide) (by decide) _ xs _ HS12.out (by have := HL.out; omega)).mono ?_
  rintro e w14 ⟨rfl, hB14⟩
  rw [HS.out]
  have hx14 : w14.cell? ⟨g, 0, none⟩ = some (s x0) := by rw [hB14.cell (p := ⟨g, 0, none⟩) hg12]; exact HX12.out
  have hB15 := hB13.trans (hB14.mono hB13.size)
  clear hB13 hB14
  go_wp2_with fail
  refine (do_2 x0 _ _).mono ?_
  rintro e w16 ⟨rfl, hB16⟩
  have hB17 := hB15.trans (hB16.mono hB15.size)
  clear hB15 hB16
  go_wp2_with fail
  refine (awake_any _).mono ?_
  rintro e w18 ⟨rfl, hB18⟩
  have hB19 := hB17.trans (hB18.mono hB17.size)
  go_wp2_with fail
  go_ret
  exact ⟨rfl, hB19⟩

set_option maxRecDepth 100000 in
set_option maxHeartbeats 4000000 in
theorem foldsOn_okB (op : Int) (h0 : 0 ≤ op) (h255 : op ≤ 255) (at' : Int) (ha0 : 0 ≤ at') (ha1 : at' ≤ 255) (ad : Option Addr) (n c : Nat) (w : World)
    (m : Nat) (hmin : (if (20 : Int) < (n : Int) then 20 else (n : Int)) = (m : Int)) (hm0 : 0 < m) (hm1 : m ≤ n) (hm2 : m ≤ 20) (hmc : m ≤ c)
    (k : Nat) (hk : 1 + at' % (m : Int) = (k : Int)) (hk1 : 1 ≤ k) (hk2 : k ≤ m) (xs : List (BitVec 64)) (HL : Hd (xs.length = m)) (w1 : World) (g c1 : Nat) (hmc1 : m ≤ c1) (hc1 : ¬ c1 = 1) (hck : c1 ≤ k)
    (hr : (Builtin.append_ #[32, 32] 32 #[.slice (some ⟨w.heap.size, 0, none⟩) 0 0, .slice ad m c]).run Try.prog (w.alloc (.cells #[] 2)) = .ok (.slice (some ⟨g, 0, none⟩) m c1) w1)
    (HS1 : Hd (SrcE s w1 (.slice (some ⟨g, 0, none⟩) m c1) xs)) (hB : Below w.heap.size w w1) (hkc : k ≤ c1) (q : Int) (hq : 1 + op % 17 = q) (hf : (foldV q (xs.take k)).2 = 0) (x0 : BitVec 64) (HX : Hd (xs[0]? = some x0)) :
    Calls Try.prog 8 #[.int .u8 op, .slice ad n c, .int .u8 at'] w fun e w' => e = .returned (.bool true) ∧ Below w.heap.size w w' := by
  have hq1 : 1 ≤ q := by omega
  have hq2 : q ≤ 17 := by omega
  have hne : ((m : Int) == 0) = false := beq_eq_false_iff_ne.2 (by omega)
  have hF2 := foldV_two q hq1 hq2 (xs.take k) (xs.drop k) (by intro e; have := congrArg List.length e; rw [List.length_take, HL.out] at this; simp at this; omega)
  rw [List.take_append_drop, if_pos hf] at hF2
  have hsk : Hd (SrcE s w1 (.slice (some ⟨g, 0, none⟩) k c1) (xs.take k)) := ⟨HS1.out.pre (by have := HL.out; omega) (.inr (.inr trivial))⟩
  obtain ⟨F, hF⟩ : ∃ F, F = foldV q (xs.take k) := ⟨_, rfl⟩
  rw [← hF] at hF2 hf
  have HF := Hd.mk hF
  clear hF
  obtain ⟨R, hR⟩ : ∃ R, R = foldV q (F.1 :: xs.drop k) := ⟨_, rfl⟩
  rw [← hR] at hF2
  have HF2 := Hd.mk hF2
  have HR := Hd.mk hR
  have hf' : (F.2 != 0) = false := by simpa using hf
  have HF0 := Hd.mk hf
  clear hR hF2 hf
  go_enter Try.func8, Try.ntmps8
  go_wp2_with (at_builtin; refine wpList_append_run rfl _ _ _ rfl rfl rfl hr ?_; clear hr)
  refine (fold_any q (by omega) (by omega) _ xs w1 HS1.out (by have := HL.out; omega)).mono ?_
  rintro e w2 ⟨rfl, hB2⟩
  rw [HF2.out]
  have hB3 := hB.trans (hB2.mono hB.size)
  have hsk2 := Hd.mk (hsk.out.below hB2)
  have HS2 := Hd.mk (HS1.out.below hB2)
  clear hB hB2
  go_wp2_with fail
  refine (fold_any q (by omega) (by omega) _ (xs.take k) _ hsk2.out (by have := HL.out; rw [List.length_take]; omega)).mono ?_
  rintro e w4 ⟨rfl, hB4⟩
  rw [← HF.out, HF0.out]
  have hB := hB3.trans (hB4.mono hB3.size)
  have HS4 := Hd.mk (HS2.out.below hB4)
  clear hB3 hB4

  have hx4 : w4.cell? ⟨g, 0, none⟩ = some (s x0) := by
    obtain ⟨b, off, hb, _, hc⟩ := HS4.out.at 0 (by have := HL.out; omega)
    simp only [Option.some.injEq, Addr.mk.injEq] at hb
    obtain ⟨rfl, rfl, -⟩ := hb
    have hX := HX.out
    rw [List.getElem?_eq_getElem (by have := HL.out; omega)] at hX
    simp only [Option.some.injEq] at hX
    rw [← hX]; exact hc
  have hg4 : g < w4.heap.size := World.block_lt_of_cell? w4 _ hx4
  have HX4 := Hd.mk hx4
  have HS := Hd.mk (fold_less HX.out)
  have HL0 := Hd.mk (fold_sum0 (xs.drop 1))
  clear hx4
  obtain ⟨v5, w5, hr5, hs5, hB5⟩ := append_one (x := F.1) (SrcE.empEq s w4 (some ⟨g, 0, none⟩) (m - k) (c1 - k) (xs.drop k) (by omega) (by omega) (List.drop_of_length_le (by have := HL.out; omega))) (by first | (simp; done) | (simp; have := HL.out; omega))
  have HS5 := Hd.mk hs5
  clear hs5
  go_wp2_with (at_builtin; refine wpList_append_run rfl _ _ _ rfl rfl rfl hr5 ?_; clear hr5)
  refine (fold_any q (by omega) (by omega) v5 _ w5 HS5.out (by first | (simp; done) | (simp; have := HL.out; omega))).mono ?_
  rintro e w6 ⟨rfl, hB6⟩
  rw [← HR.out]
  have hB56 := hB5.trans (hB6.mono hB5.size)
  have HS6 := Hd.mk (HS4.out.below hB56)
  have hx6 : w6.cell? ⟨g, 0, none⟩ = some (s x0) := by rw [hB56.cell (p := ⟨g, 0, none⟩) hg4]; exact HX4.out
  have hg6 : g < w6.heap.size := by have := hB56.size; omega
  have hB7 := hB.trans (hB56.mono hB.size)
  clear hB hB5 hB6 hB56
  go_wp2_with fail
  refine (fold_any q (by omega) (by omega) _ [x0] _ (src1 w6 x0) (by simp)).mono ?_
  rintro e w8 ⟨rfl, hB8⟩
  rw [foldV_one q hq1 hq2]
  have hB8' : Below w6.heap.size w6 w8 := ((Below.refl _ _).alloc (Nat.le_refl _) _).trans (hB8.mono (by simp))
  have hB9 := hB7.trans (hB8'.mono hB7.size)
  have hx8 : w8.cell? ⟨g, 0, none⟩ = some (s x0) := by rw [hB8'.cell (p := ⟨g, 0, none⟩) hg6]; exact hx6
  have hg8 : g < w8.heap.size := by have := hB8'.size; omega
  have HS8 := Hd.mk (HS6.out.below hB8')
  have HX8 := Hd.mk hx8
  obtain ⟨v10, w10, hr10, hs10, hB10⟩ := append_one (x := 0#64) ((HS6.out.below hB8').suf (k := 1) (by omega)) (by first | (simp; done) | (simp; have := HL.out; omega))
  rw [show s 0#64 = Value.int .i64 0 from rfl] at hr10
  have HS10 := Hd.mk hs10
  clear hs10 hB7 hB8 hB8' hx6 hx8
  go_wp2_with (at_builtin; refine wpList_append_run rfl _ _ _ rfl rfl rfl hr10 ?_; clear hr10)
  refine (fold_any 1 (by decide) (by decide) v10 _ w10 HS10.out (by first | (simp; done) | (simp; have := HL.out; omega))).mono ?_
  rintro e w12 ⟨rfl, hB12⟩
  rw [HL0.out]
  have hB10' := hB10.trans (hB12.mono hB10.size)
  have HS12 := Hd.mk (HS8.out.below hB10')
  have hx12 : w12.cell? ⟨g, 0, none⟩ = some (s x0) := by rw [hB10'.cell (p := ⟨g, 0, none⟩) hg8]; exact HX8.out
  have hg12 : g < w12.heap.size := by have := hB10'.size; omega
  have HX12 := Hd.mk hx12
  have hB13 := hB9.trans (hB10'.mono hB9.size)
  clear hB9 hB10 hB12 hB10' hx12
  go_wp2_with fail
  refine (fold_any 2 (by decide) (by decide) _ xs _ HS12.out (by have := HL.out; omega)).mono ?_
  rintro e w14 ⟨rfl, hB14⟩
  rw [HS.out]
  have hx14 : w14.cell? ⟨g, 0, none⟩ = some (s x0) := by rw [hB14.cell (p := ⟨g, 0, none⟩) hg12]; exact HX12.out
  have hB15 := hB13.trans (hB14.mono hB13.size)
  clear hB13 hB14
  go_wp2_with fail
  refine (do_2 x0 _ _).mono ?_
  rintro e w16 ⟨rfl, hB16⟩
  have hB17 := hB15.trans (hB16.mono hB15.size)
  clear hB15 hB16
  go_wp2_with fail
  refine (awake_any _).mono ?_
  rintro e w18 ⟨rfl, hB18⟩
  have hB19 := hB17.trans (hB18.mono hB17.size)
  go_wp2_with fail
  go_ret
  exact ⟨rfl, hB19⟩

set_option maxRecDepth 100000 in
set_option maxHeartbeats 4000000 in
theorem foldsOn_okA (op : Int) (h0 : 0 ≤ op) (h255 : op ≤ 255) (at' : Int) (ha0 : 0 ≤ at') (ha1 : at' ≤ 255) (ad : Option Addr) (n c : Nat) (w : World)
    (m : Nat) (hmin : (if (20 : Int) < (n : Int) then 20 else (n : Int)) = (m : Int)) (hm0 : 0 < m) (hm1 : m ≤ n) (hm2 : m ≤ 20) (hmc : m ≤ c)
    (k : Nat) (hk : 1 + at' % (m : Int) = (k : Int)) (hk1 : 1 ≤ k) (hk2 : k ≤ m) (xs : List (BitVec 64)) (HL : Hd (xs.length = m)) (w1 : World) (g c1 : Nat) (hmc1 : m ≤ c1) (hc1 : Hd (c1 ≤ 1)) (hck : c1 ≤ k)
    (hr : (Builtin.append_ #[32, 32] 32 #[.slice (some ⟨w.heap.size, 0, none⟩) 0 0, .slice ad m c]).run Try.prog (w.alloc (.cells #[] 2)) = .ok (.slice (some ⟨g, 0, none⟩) m c1) w1)
    (HS1 : Hd (SrcE s w1 (.slice (some ⟨g, 0, none⟩) m c1) xs)) (hB : Below w.heap.size w w1) (hkc : k ≤ c1) (q : Int) (hq : 1 + op % 17 = q) (hf : (foldV q (xs.take k)).2 = 0) (x0 : BitVec 64) (HX : Hd (xs[0]? = some x0)) :
    Calls Try.prog 8 #[.int .u8 op, .slice ad n c, .int .u8 at'] w fun e w' => e = .returned (.bool true) ∧ Below w.heap.size w w' := by
  have hq1 : 1 ≤ q := by omega
  have hq2 : q ≤ 17 := by omega
  have hne : ((m : Int) == 0) = false := beq_eq_false_iff_ne.2 (by omega)
  have hF2 := foldV_two q hq1 hq2 (xs.take k) (xs.drop k) (by intro e; have := congrArg List.length e; rw [List.length_take, HL.out] at this; simp at this; omega)
  rw [List.take_append_drop, if_pos hf] at hF2
  have hsk : Hd (SrcE s w1 (.slice (some ⟨g, 0, none⟩) k c1) (xs.take k)) := ⟨HS1.out.pre (by have := HL.out; omega) (.inr (.inr trivial))⟩
  obtain ⟨F, hF⟩ : ∃ F, F = foldV q (xs.take k) := ⟨_, rfl⟩
  rw [← hF] at hF2 hf
  have HF := Hd.mk hF
  clear hF
  obtain ⟨R, hR⟩ : ∃ R, R = foldV q (F.1 :: xs.drop k) := ⟨_, rfl⟩
  rw [← hR] at hF2
  have HF2 := Hd.mk hF2
  have HR := Hd.mk hR
  have hf' : (F.2 != 0) = false := by simpa using hf
  have HF0 := Hd.mk hf
  clear hR hF2 hf
  go_enter Try.func8, Try.ntmps8
  go_wp2_with (at_builtin; refine wpList_append_run rfl _ _ _ rfl rfl rfl hr ?_; clear hr)
  refine (fold_any q (by omega) (by omega) _ xs w1 HS1.out (by have := HL.out; omega)).mono ?_
  rintro e w2 ⟨rfl, hB2⟩
  rw [HF2.out]
  have hB3 := hB.trans (hB2.mono hB.size)
  have hsk2 := Hd.mk (hsk.out.below hB2)
  have HS2 := Hd.mk (HS1.out.below hB2)
  clear hB hB2
  go_wp2_with fail
  refine (fold_any q (by omega) (by omega) _ (xs.take k) _ hsk2.out (by have := HL.out; rw [List.length_take]; omega)).mono ?_
  rintro e w4 ⟨rfl, hB4⟩
  rw [← HF.out, HF0.out]
  have hB := hB3.trans (hB4.mono hB3.size)
  have HS4 := Hd.mk (HS2.out.below hB4)
  clear hB3 hB4

  have hx4 : w4.cell? ⟨g, 0, none⟩ = some (s x0) := by
    obtain ⟨b, off, hb, _, hc⟩ := HS4.out.at 0 (by have := HL.out; omega)
    simp only [Option.some.injEq, Addr.mk.injEq] at hb
    obtain ⟨rfl, rfl, -⟩ := hb
    have hX := HX.out
    rw [List.getElem?_eq_getElem (by have := HL.out; omega)] at hX
    simp only [Option.some.injEq] at hX
    rw [← hX]; exact hc
  have hg4 : g < w4.heap.size := World.block_lt_of_cell? w4 _ hx4
  have HX4 := Hd.mk hx4
  have HS := Hd.mk (fold_less HX.out)
  have HL0 := Hd.mk (fold_sum0 (xs.drop 1))
  clear hk hmin
  have hc1' := hc1.out
  clear hx4
  obtain ⟨v5, w5, hr5, hs5, hB5⟩ := append_one (x := F.1) (SrcE.empEq s w4 (some ⟨g, 0, none⟩) (m - k) (c1 - k) (xs.drop k) (by omega) (by omega) (List.drop_of_length_le (by have := HL.out; have := hc1.out; omega))) (by first | (simp; done) | (simp; have := HL.out; omega))
  have HS5 := Hd.mk hs5
  clear hs5
  go_wp2_with (at_builtin; refine wpList_append_run rfl _ _ _ rfl rfl rfl hr5 ?_; clear hr5)
  refine (fold_any q (by omega) (by omega) v5 _ w5 HS5.out (by first | (simp; done) | (simp; have := HL.out; omega))).mono ?_
  rintro e w6 ⟨rfl, hB6⟩
  rw [← HR.out]
  have hB56 := hB5.trans (hB6.mono hB5.size)
  have HS6 := Hd.mk (HS4.out.below hB56)
  have hx6 : w6.cell? ⟨g, 0, none⟩ = some (s x0) := by rw [hB56.cell (p := ⟨g, 0, none⟩) hg4]; exact HX4.out
  have hg6 : g < w6.heap.size := by have := hB56.size; omega
  have hB7 := hB.trans (hB56.mono hB.size)
  clear hB hB5 hB6 hB56
  go_wp2_with fail
  refine (fold_any q (by omega) (by omega) _ [x0] _ (src1 w6 x0) (by simp)).mono ?_
  rintro e w8 ⟨rfl, hB8⟩
  rw [foldV_one q hq1 hq2]
  have hB8' : Below w6.heap.size w6 w8 := ((Below.refl _ _).alloc (Nat.le_refl _) _).trans (hB8.mono (by simp))
  have hB9 := hB7.trans (hB8'.mono hB7.size)
  have hx8 : w8.cell? ⟨g, 0, none⟩ = some (s x0) := by rw [hB8'.cell (p := ⟨g, 0, none⟩) hg6]; exact hx6
  have hg8 : g < w8.heap.size := by have := hB8'.size; omega
  have HS8 := Hd.mk (HS6.out.below hB8')
  have HX8 := Hd.mk hx8
  obtain ⟨v10, w10, hr10, hs10, hB10⟩ := append_one (x := 0#64) (SrcE.empEq s w8 (some ⟨g, 0, none⟩) (m - 1) (c1 - 1) (xs.drop 1) (by have := hc1.out; omega) (by have := hc1.out; omega) (List.drop_of_length_le (by have := HL.out; have := hc1.out; omega))) (by first | (simp; done) | (simp; have := HL.out; omega))
  rw [show s 0#64 = Value.int .i64 0 from rfl] at hr10
  have HS10 := Hd.mk hs10
  clear hs10 hB7 hB8 hB8' hx6 hx8
  go_wp2_with (at_builtin; refine wpList_append_run rfl _ _ _ rfl rfl rfl hr10 ?_; clear hr10)
  refine (fold_any 1 (by decide) (by decide) v10 _ w10 HS10.out (by first | (simp; done) | (simp; have := HL.out; omega))).mono ?_
  rintro e w12 ⟨rfl, hB12⟩
  rw [HL0.out]
  have hB10' := hB10.trans (hB12.mono hB10.size)
  have HS12 := Hd.mk (HS8.out.below hB10')
  have hx12 : w12.cell? ⟨g, 0, none⟩ = some (s x0) := by rw [hB10'.cell (p := ⟨g, 0, none⟩) hg8]; exact HX8.out
  have hg12 : g < w12.heap.size := by have := hB10'.size; omega
  have HX12 := Hd.mk hx12
  have hB13 := hB9.trans (hB10'.mono hB9.size)
  clear hB9 hB10 hB12 hB10' hx12
  go_wp2_with fail
  refine (fold_any 2 (by decide) (by decide) _ xs _ HS12.out (by have := HL.out; omega)).mono ?_
  rintro e w14 ⟨rfl, hB14⟩
  rw [HS.out]
  have hx14 : w14.cell? ⟨g, 0, none⟩ = some (s x0) := by rw [hB14.cell (p := ⟨g, 0, none⟩) hg12]; exact HX12.out
  have hB15 := hB13.trans (hB14.mono hB13.size)
  clear hB13 hB14
  go_wp2_with fail
  refine (do_2 x0 _ _).mono ?_
  rintro e w16 ⟨rfl, hB16⟩
  have hB17 := hB15.trans (hB16.mono hB15.size)
  clear hB15 hB16
  go_wp2_with fail
  refine (awake_any _).mono ?_
  rintro e w18 ⟨rfl, hB18⟩
  have hB19 := hB17.trans (hB18.mono hB17.size)
  go_wp2_with fail
  go_ret
  exact ⟨rfl, hB19⟩

set_option maxRecDepth 100000 in
set_option maxHeartbeats 4000000 in
theorem foldsOn_bad (op : Int) (h0 : 0 ≤ op) (h255 : op ≤ 255) (at' : Int) (ha0 : 0 ≤ at') (ha1 : at' ≤ 255) (ad : Option Addr) (n c : Nat) (w : World)
    (m : Nat) (hmin : (if (20 : Int) < (n : Int) then 20 else (n : Int)) = (m : Int)) (hm0 : 0 < m) (hm1 : m ≤ n) (hm2 : m ≤ 20) (hmc : m ≤ c)
    (k : Nat) (hk : 1 + at' % (m : Int) = (k : Int)) (hk1 : 1 ≤ k) (hk2 : k ≤ m) (xs : List (BitVec 64)) (HL : Hd (xs.length = m)) (w1 : World) (g c1 : Nat) 
    (hr : (Builtin.append_ #[32, 32] 32 #[.slice (some ⟨w.heap.size, 0, none⟩) 0 0, .slice ad m c]).run Try.prog (w.alloc (.cells #[] 2)) = .ok (.slice (some ⟨g, 0, none⟩) m c1) w1)
    (HS1 : Hd (SrcE s w1 (.slice (some ⟨g, 0, none⟩) m c1) xs)) (hB : Below w.heap.size w w1) (hkc : k ≤ c1) (q : Int) (hq : 1 + op % 17 = q) (hf : ¬ (foldV q (xs.take k)).2 = 0) :
    Calls Try.prog 8 #[.int .u8 op, .slice ad n c, .int .u8 at'] w fun e w' => e = .returned (.bool true) ∧ Below w.heap.size w w' := by
  have hq1 : 1 ≤ q := by omega
  have hq2 : q ≤ 17 := by omega
  have hne : ((m : Int) == 0) = false := beq_eq_false_iff_ne.2 (by omega)
  have hF2 := foldV_two q hq1 hq2 (xs.take k) (xs.drop k) (by intro e; have := congrArg List.length e; rw [List.length_take, HL.out] at this; simp at this; omega)
  rw [List.take_append_drop, if_neg hf] at hF2
  have hsk : Hd (SrcE s w1 (.slice (some ⟨g, 0, none⟩) k c1) (xs.take k)) := ⟨HS1.out.pre (by have := HL.out; omega) (.inr (.inr trivial))⟩
  obtain ⟨F, hF⟩ : ∃ F, F = foldV q (xs.take k) := ⟨_, rfl⟩
  rw [← hF] at hF2 hf
  have HF := Hd.mk hF
  clear hF
  have HF2 := Hd.mk hF2
  have hb1 := foldV_bad1 q (xs.take k)
  rw [← HF.out] at hb1
  have HB1 := Hd.mk (hb1 hf)
  have hf' : (F.2 != 0) = true := by simpa using hf
  clear hF2 hb1 hf
  go_enter Try.func8, Try.ntmps8
  go_wp2_with (at_builtin; refine wpList_append_run rfl _ _ _ rfl rfl rfl hr ?_; clear hr)
  refine (fold_any q (by omega) (by omega) _ xs w1 HS1.out (by have := HL.out; omega)).mono ?_
  rintro e w2 ⟨rfl, hB2⟩
  rw [HF2.out]
  have hB3 := hB.trans (hB2.mono hB.size)
  have hsk2 := Hd.mk (hsk.out.below hB2)
  have HS2 := Hd.mk (HS1.out.below hB2)
  clear hB hB2
  go_wp2_with fail
  refine (fold_any q (by omega) (by omega) _ (xs.take k) _ hsk2.out (by have := HL.out; rw [List.length_take]; omega)).mono ?_
  rintro e w4 ⟨rfl, hB4⟩
  rw [← HF.out, HB1.out]
  have hB := hB3.trans (hB4.mono hB3.size)
  clear hB3 hB4
  go_wp2_with fail
  refine (awake_any _).mono ?_
  rintro e w6 ⟨rfl, hB6⟩
  have hB' := hB.trans (hB6.mono hB.size)
  go_wp2_with fail
  go_ret
  exact ⟨rfl, hB'⟩

theorem foldsOn_all (op : Int) (h0 : 0 ≤ op) (h255 : op ≤ 255) (at' : Int) (ha0 : 0 ≤ at') (ha1 : at' ≤ 255) (ad : Option Addr) (n c : Nat) (ys : List (BitVec 64)) (w : World) (hs : SrcE s w (.slice ad n c) ys) (hn : ys.length = n) :
    Calls Try.prog 8 #[.int .u8 op, .slice ad n c, .int .u8 at'] w fun e w' => e = .returned (.bool true) ∧ Below w.heap.size w w' := by
  by_cases hn0 : n = 0
  · subst hn0
    obtain rfl : ys = [] := List.eq_nil_of_length_eq_zero hn
    exact foldsOn_empty op h0 h255 at' ad c w hs
  have hnc : n ≤ c := by
    rcases hs with ⟨hv, rfl⟩ | ⟨x, c', hv, hc, _, _⟩
    · simp at hn; omega
    · simp only [Value.slice.injEq] at hv; omega
  obtain ⟨m, hmd⟩ : ∃ m, m = min n 20 := ⟨_, rfl⟩
  have hmin : (if (20 : Int) < (n : Int) then 20 else (n : Int)) = (m : Int) := by split <;> omega
  have hsw : SrcE s w (.slice ad m c) (ys.take m) := hs.pre (by omega) (.inr (.inr trivial))
  have hlen : (ys.take m).length = m := by rw [List.length_take]; omega
  obtain ⟨xs, hxs⟩ : ∃ xs, xs = ys.take m := ⟨_, rfl⟩
  rw [← hxs] at hsw hlen
  obtain ⟨v1, w1, hr, ho, hB⟩ := append_new_s hsw (by omega)
  rcases ho.cases with ⟨_, hx⟩ | ⟨g, c1, rfl, _, _, hc1, _, _, _⟩
  · rw [hx] at hlen; simp at hlen; omega
  have HS1 := Hd.mk ho.src
  rw [hlen] at hr HS1 hc1
  have hm0 : (m : Int) ≠ 0 := by omega
  have hmod := Int.emod_lt_of_pos at' (show (0 : Int) < m by omega)
  have hmod0 := Int.emod_nonneg at' hm0
  obtain ⟨k, hk⟩ : ∃ k : Nat, 1 + at' % (m : Int) = (k : Int) := ⟨(1 + at' % (m : Int)).toNat, by omega⟩
  have h0l : 0 < xs.length := by omega
  have HX : Hd (xs[0]? = some xs[0]) := ⟨List.getElem?_eq_getElem h0l⟩
  by_cases hf : (foldV (1 + op % 17) (xs.take k)).2 = 0
  · by_cases hck : c1 = k
    · by_cases hc : c1 = 1
      · exact foldsOn_okA op h0 h255 at' ha0 ha1 ad n c w m hmin (by omega) (by omega) (by omega) (by omega) k hk (by omega) (by omega) xs ⟨hlen⟩ w1 g c1 (by omega) ⟨by omega⟩ (by omega) hr HS1 hB (by omega) _ rfl hf _ HX
      · exact foldsOn_okB op h0 h255 at' ha0 ha1 ad n c w m hmin (by omega) (by omega) (by omega) (by omega) k hk (by omega) (by omega) xs ⟨hlen⟩ w1 g c1 (by omega) hc (by omega) hr HS1 hB (by omega) _ rfl hf _ HX
    · exact foldsOn_okC op h0 h255 at' ha0 ha1 ad n c w m hmin (by omega) (by omega) (by omega) (by omega) k hk (by omega) (by omega) xs ⟨hlen⟩ w1 g c1 (by omega) hck hr HS1 hB (by omega) _ rfl hf _ HX
  · exact foldsOn_bad op h0 h255 at' ha0 ha1 ad n c w m hmin (by omega) (by omega) (by omega) (by omega) k hk (by omega) (by omega) xs ⟨hlen⟩ w1 g c1 hr HS1 hB (by omega) _ rfl hf
end Go.Proofs.Ytbmommomhepfpaa
