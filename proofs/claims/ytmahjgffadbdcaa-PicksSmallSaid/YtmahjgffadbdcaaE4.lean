/- Contracts at given results; the laws' awake. -/
import Derived.Test.YtmahjgffadbdcaaE3
namespace Go.Proofs.Ytmahjgffadbdcaa
open Go.RowKit
set_option linter.unusedVariables false

theorem srcLitI (w : World) (l : List Int) (hl : l.length ≤ 100000) : SrcI (w.alloc (.cells (l.map fun n : Int => Value.int .i64 n).toArray 3)) (.slice (some ⟨w.heap.size, 0, none⟩) l.length l.length) l :=
  .inr ⟨⟨w.heap.size, 0, none⟩, l.length, rfl, Nat.le_refl _, by simp only [maxLen]; omega, fun j hj => by
    rw [plain_add, Nat.zero_add, cells_cell (World.alloc_heap_new _ _)]; simp [hj]⟩
theorem order_at {l ps o : List Int} {t u : Nat} (hr : rightB l = true) (hps : ps.length ≤ 65536) (ho : ordV l.length l ps = (o, t, u)) {v pv : Value} {w : World} (h : SrcI w v l) (hp : SrcI w pv ps) :
    Calls Try.prog 14 #[v, pv] w fun e w' => ∃ v', e = .returned (.tuple #[v', .int .i64 (t : Nat), .int .i64 (u : Nat), .int .i64 0]) ∧ OwnI w' w.heap.size v' o ∧ Below w.heap.size w w' := by
  have := order_yes v pv l ps w h hp hr hps
  rw [ho] at this; exact this
theorem order_bad {l ps : List Int} (hr : rightB l = false) {v pv : Value} {w : World} (h : SrcI w v l) (hp : SrcI w pv ps) :
    Calls Try.prog 14 #[v, pv] w fun e w' => e = .returned (.tuple #[.slice none 0 0, .int .i64 0, .int .i64 0, .int .i64 2]) ∧ Below w.heap.size w w' := by
  have ho : oE l ps = 2 := by rw [oE, hr]; rfl
  have := order_no v pv l ps w h hp (by rw [ho]; decide)
  rw [ho] at this; exact this
theorem for_at {l o : List Int} (hl : okO l = true) (ho : l.take (needV l) = o) {v : Value} {w : World} (h : SrcI w v l) :
    Calls Try.prog 13 #[v] w fun e w' => ∃ v', e = .returned (.tuple #[v', .int .i64 0]) ∧ OwnI w' w.heap.size v' o ∧ Below w.heap.size w w' := by
  have := for_any v l w h
  rw [eV, forV, hl] at this
  simp only [if_true, ho] at this; exact this
theorem for_bad {l : List Int} (hl : okO l = false) {v : Value} {w : World} (h : SrcI w v l) :
    Calls Try.prog 13 #[v] w fun e w' => ∃ v', e = .returned (.tuple #[v', .int .i64 2]) ∧ OwnI w' w.heap.size v' [] ∧ Below w.heap.size w w' := by
  have := for_any v l w h
  rw [eV, forV, hl] at this; exact this
theorem rank_at {l : List Int} {r : Nat} (hl : okO l = true) (ho : rankV l = r) {v : Value} {w : World} (h : SrcI w v l) :
    Calls Try.prog 27 #[v] w fun e w' => e = .returned (.tuple #[.int .i64 (r : Nat), .int .i64 0]) ∧ Below w.heap.size w w' := by
  have := rank_any v l w h
  rw [rkV, eV, hl] at this
  simp only [if_true, ho] at this; exact this
theorem rank_bad {l : List Int} (hl : okO l = false) {v : Value} {w : World} (h : SrcI w v l) :
    Calls Try.prog 27 #[v] w fun e w' => e = .returned (.tuple #[.int .i64 0, .int .i64 2]) ∧ Below w.heap.size w w' := by
  have := rank_any v l w h
  rw [rkV, eV, hl] at this; exact this
theorem nth_at {l o : List Int} {r : Nat} (hl : rightB l = true) (hr : r < fac l.length) (hb : r ≤ 9223372036854775807) (ho : nthV l.length l r = o) {v : Value} {w : World} (h : SrcI w v l) :
    Calls Try.prog 22 #[v, .int .i64 (r : Nat)] w fun e w' => ∃ v', e = .returned (.tuple #[v', .int .i64 0]) ∧ OwnI w' w.heap.size v' o ∧ Below w.heap.size w w' := by
  have := nth_good v l r w h hl hb
  have h1 : ntE l r = 0 := by rw [ntE, hl, show decide (0 ≤ (r : Int)) = true from decide_eq_true (by omega)]; simp only [Bool.and_self, if_true]; rw [if_pos (by omega)]
  have h2 : ntO l r = o := by rw [ntO, hl, show decide (0 ≤ (r : Int)) = true from decide_eq_true (by omega)]; simp only [Bool.and_self, if_true]; rw [if_pos (by omega), Int.toNat_natCast, ho]
  rw [h1, h2] at this; exact this
theorem nth_over {l : List Int} {r : Nat} (hl : rightB l = true) (hr : fac l.length ≤ r) (hb : r ≤ 9223372036854775807) {v : Value} {w : World} (h : SrcI w v l) :
    Calls Try.prog 22 #[v, .int .i64 (r : Nat)] w fun e w' => ∃ v', e = .returned (.tuple #[v', .int .i64 6]) ∧ OwnI w' w.heap.size v' [] ∧ Below w.heap.size w w' := by
  have := nth_good v l r w h hl hb
  have h1 : ntE l r = 6 := by rw [ntE, hl, show decide (0 ≤ (r : Int)) = true from decide_eq_true (by omega)]; simp only [Bool.and_self, if_true]; rw [if_neg (by omega)]
  have h2 : ntO l r = [] := by rw [ntO, hl, show decide (0 ≤ (r : Int)) = true from decide_eq_true (by omega)]; simp only [Bool.and_self, if_true]; rw [if_neg (by omega)]
  rw [h1, h2] at this; exact this
theorem next_at' {l o : List Int} (hl : okO l = true) (ho : nextV l = some o) {v : Value} {w : World} (h : SrcI w v l) :
    Calls Try.prog 24 #[v] w fun e w' => ∃ v', e = .returned (.tuple #[v', .int .i64 0]) ∧ OwnI w' w.heap.size v' o ∧ Below w.heap.size w w' := by
  have := next_any v l w h
  rw [nxE, nxO, hl, ho] at this; exact this
theorem next_last {l : List Int} (hl : okO l = true) (ho : nextV l = none) {v : Value} {w : World} (h : SrcI w v l) :
    Calls Try.prog 24 #[v] w fun e w' => ∃ v', e = .returned (.tuple #[v', .int .i64 6]) ∧ OwnI w' w.heap.size v' [] ∧ Below w.heap.size w w' := by
  have := next_any v l w h
  rw [nxE, nxO, hl, ho] at this; exact this
theorem next_bad {l : List Int} (hl : okO l = false) {v : Value} {w : World} (h : SrcI w v l) :
    Calls Try.prog 24 #[v] w fun e w' => ∃ v', e = .returned (.tuple #[v', .int .i64 2]) ∧ OwnI w' w.heap.size v' [] ∧ Below w.heap.size w w' := by
  have := next_any v l w h
  rw [nxE, nxO, hl] at this; exact this
theorem swaps_at {l m : List Int} {n : Nat} (hl : okS l m = true) (ho : swapsV l m = n) {v pv : Value} {w : World} (h : SrcI w v l) (hp : SrcI w pv m) :
    Calls Try.prog 25 #[v, pv] w fun e w' => e = .returned (.tuple #[.int .i64 (n : Nat), .int .i64 0]) ∧ Below w.heap.size w w' := by
  have := swaps_any v pv l m w h hp
  rw [swN, swE, hl] at this
  simp only [if_true, ho] at this; exact this
theorem swaps_bad {l m : List Int} (hl : okS l m = false) {v pv : Value} {w : World} (h : SrcI w v l) (hp : SrcI w pv m) :
    Calls Try.prog 25 #[v, pv] w fun e w' => e = .returned (.tuple #[.int .i64 0, .int .i64 2]) ∧ Below w.heap.size w w' := by
  have := swaps_any v pv l m w h hp
  rw [swN, swE, hl] at this; exact this
theorem equal_at {l m : List Int} {b : Bool} (hb : decide (l = m) = b) {v pv : Value} {w : World} (h : SrcI w v l) (hp : SrcI w pv m) :
    Calls Try.prog 15 #[v, pv] w fun e w' => e = .returned (.bool b) ∧ Below w.heap.size w w' := by
  have := equal_any v pv l m w h hp
  rw [hb] at this; exact this

set_option maxRecDepth 100000 in
set_option maxHeartbeats 4000000 in
theorem awake_any (w : World) : Calls Try.prog 17 #[] w fun e w' => e = .returned (.bool true) ∧ Below w.heap.size w w' := by
  go_enter Try.func17, Try.ntmps17
  go_wp2_with fail
  obtain ⟨La, hW⟩ : ∃ W, ((w.alloc (.cells #[.int .i64 2, .int .i64 5, .int .i64 7] 3)).alloc (.cells #[.int .i64 7, .int .i64 5] 3)) = W := ⟨_, rfl⟩
  have hX : Below w.heap.size w La := by rw [← hW]; exact ((Below.refl _ _).alloc (Nat.le_refl _) _).alloc (by simp) _
  have hS0 : SrcI La (.slice (some ⟨w.heap.size, 0, none⟩) 3 3) [2, 5, 7] := by
    rw [← hW]
    have h := srcLitI w [2, 5, 7] (by decide)
    exact (SrcI.below h ((Below.refl _ _).alloc (Nat.le_refl _) _))
  have hS1 : SrcI La (.slice (some ⟨w.heap.size + 1, 0, none⟩) 2 2) [7, 5] := by
    rw [← hW]
    have h := srcLitI (w.alloc (.cells #[.int .i64 2, .int .i64 5, .int .i64 7] 3)) [7, 5] (by decide)
    simp only [World.size_alloc] at h
    exact h
  rw [hW]
  clear hW
  have HB1 := Hd.mk hX
  clear hX
  have FLa0 := Hd.mk hS0
  clear hS0
  have FLa1 := Hd.mk hS1
  clear hS1
  refine (order_at (o := [7, 5, 2]) (t := 2) (u := 0) (by decide) (by decide) (by decide) FLa0.out FLa1.out).mono ?_
  rintro e w2 ⟨v2, rfl, hO, hB⟩
  have FNv22 := Hd.mk (hO.src)
  have HB3 := Hd.mk (ch4 HB1.out hB)
  have FLa0_3 := Hd.mk (FLa0.out.below hB)
  have FLa1_3 := Hd.mk (FLa1.out.below hB)
  clear HB1 FLa0 FLa1
  clear hB hO
  clear FLa1_3
  go_wp2_with fail
  obtain ⟨Lb, hW⟩ : ∃ W, (w2.alloc (.cells #[.int .i64 9, .int .i64 9, .int .i64 9] 3)) = W := ⟨_, rfl⟩
  have hX : Below w2.heap.size w2 Lb := by rw [← hW]; exact (Below.refl _ _).alloc (Nat.le_refl _) _
  have hS0 : SrcI Lb (.slice (some ⟨w2.heap.size, 0, none⟩) 3 3) [9, 9, 9] := by
    rw [← hW]
    have h := srcLitI w2 [9, 9, 9] (by decide)
    exact h
  rw [hW]
  clear hW
  have HB4 := Hd.mk (ch4 HB3.out hX)
  have FLa0_4 := Hd.mk (FLa0_3.out.below hX)
  have Fv2_4 := Hd.mk (FNv22.out.below hX)
  clear HB3 FLa0_3 FNv22
  clear hX
  have FLb0 := Hd.mk hS0
  clear hS0
  refine (order_at (o := [2, 5, 7]) (t := 2) (u := 2) (by decide) (by decide) (by decide) FLa0_4.out FLb0.out).mono ?_
  rintro e w5 ⟨v6, rfl, hO, hB⟩
  have FNv65 := Hd.mk (hO.src)
  have HB6 := Hd.mk (ch4 HB4.out hB)
  have FLa0_6 := Hd.mk (FLa0_4.out.below hB)
  have Fv2_6 := Hd.mk (Fv2_4.out.below hB)
  have FLb0_6 := Hd.mk (FLb0.out.below hB)
  clear HB4 FLa0_4 Fv2_4 FLb0
  clear hB hO
  clear FLb0_6
  go_wp2_with fail
  obtain ⟨Lc, hW⟩ : ∃ W, (w5.alloc (.cells #[.int .i64 5] 3)) = W := ⟨_, rfl⟩
  have hX : Below w5.heap.size w5 Lc := by rw [← hW]; exact (Below.refl _ _).alloc (Nat.le_refl _) _
  have hS0 : SrcI Lc (.slice (some ⟨w5.heap.size, 0, none⟩) 1 1) [5] := by
    rw [← hW]
    have h := srcLitI w5 [5] (by decide)
    exact h
  rw [hW]
  clear hW
  have HB7 := Hd.mk (ch4 HB6.out hX)
  have FLa0_7 := Hd.mk (FLa0_6.out.below hX)
  have Fv2_7 := Hd.mk (Fv2_6.out.below hX)
  have Fv6_7 := Hd.mk (FNv65.out.below hX)
  clear HB6 FLa0_6 Fv2_6 FNv65
  clear hX
  have FLc0 := Hd.mk hS0
  clear hS0
  refine (order_at (o := [5, 2, 7]) (t := 1) (u := 0) (by decide) (by decide) (by decide) FLa0_7.out FLc0.out).mono ?_
  rintro e w8 ⟨v10, rfl, hO, hB⟩
  have FNv108 := Hd.mk (hO.src)
  have HB9 := Hd.mk (ch4 HB7.out hB)
  have FLa0_9 := Hd.mk (FLa0_7.out.below hB)
  have Fv2_9 := Hd.mk (Fv2_7.out.below hB)
  have Fv6_9 := Hd.mk (Fv6_7.out.below hB)
  have FLc0_9 := Hd.mk (FLc0.out.below hB)
  clear HB7 FLa0_7 Fv2_7 Fv6_7 FLc0
  clear hB hO
  clear FLc0_9
  go_wp2_with fail
  obtain ⟨Ld, hW⟩ : ∃ W, (w8.alloc (.cells #[.int .i64 2, .int .i64 7, .int .i64 5] 3)) = W := ⟨_, rfl⟩
  have hX : Below w8.heap.size w8 Ld := by rw [← hW]; exact (Below.refl _ _).alloc (Nat.le_refl _) _
  have hS0 : SrcI Ld (.slice (some ⟨w8.heap.size, 0, none⟩) 3 3) [2, 7, 5] := by
    rw [← hW]
    have h := srcLitI w8 [2, 7, 5] (by decide)
    exact h
  rw [hW]
  clear hW
  have HB10 := Hd.mk (ch4 HB9.out hX)
  have FLa0_10 := Hd.mk (FLa0_9.out.below hX)
  have Fv2_10 := Hd.mk (Fv2_9.out.below hX)
  have Fv6_10 := Hd.mk (Fv6_9.out.below hX)
  have Fv10_10 := Hd.mk (FNv108.out.below hX)
  clear HB9 FLa0_9 Fv2_9 Fv6_9 FNv108
  clear hX
  have FLd0 := Hd.mk hS0
  clear hS0
  refine (for_at (o := [2, 7]) (by decide) (by decide) FLd0.out).mono ?_
  rintro e w11 ⟨v14, rfl, hO, hB⟩
  have FNv1411 := Hd.mk (hO.src)
  have HB12 := Hd.mk (ch4 HB10.out hB)
  have FLa0_12 := Hd.mk (FLa0_10.out.below hB)
  have Fv2_12 := Hd.mk (Fv2_10.out.below hB)
  have Fv6_12 := Hd.mk (Fv6_10.out.below hB)
  have Fv10_12 := Hd.mk (Fv10_10.out.below hB)
  have FLd0_12 := Hd.mk (FLd0.out.below hB)
  clear HB10 FLa0_10 Fv2_10 Fv6_10 Fv10_10 FLd0
  clear hB hO
  clear FLd0_12
  go_wp2_with fail
  obtain ⟨Le, hW⟩ : ∃ W, (w11.alloc (.cells #[.int .i64 5, .int .i64 2, .int .i64 7] 3)) = W := ⟨_, rfl⟩
  have hX : Below w11.heap.size w11 Le := by rw [← hW]; exact (Below.refl _ _).alloc (Nat.le_refl _) _
  have hS0 : SrcI Le (.slice (some ⟨w11.heap.size, 0, none⟩) 3 3) [5, 2, 7] := by
    rw [← hW]
    have h := srcLitI w11 [5, 2, 7] (by decide)
    exact h
  rw [hW]
  clear hW
  have HB13 := Hd.mk (ch4 HB12.out hX)
  have FLa0_13 := Hd.mk (FLa0_12.out.below hX)
  have Fv2_13 := Hd.mk (Fv2_12.out.below hX)
  have Fv6_13 := Hd.mk (Fv6_12.out.below hX)
  have Fv10_13 := Hd.mk (Fv10_12.out.below hX)
  have Fv14_13 := Hd.mk (FNv1411.out.below hX)
  clear HB12 FLa0_12 Fv2_12 Fv6_12 Fv10_12 FNv1411
  clear hX
  have FLe0 := Hd.mk hS0
  clear hS0
  refine (rank_at (r := 2) (by decide) (by decide) FLe0.out).mono ?_
  rintro e w14 ⟨rfl, hB⟩
  have HB15 := Hd.mk (ch4 HB13.out hB)
  have FLa0_15 := Hd.mk (FLa0_13.out.below hB)
  have Fv2_15 := Hd.mk (Fv2_13.out.below hB)
  have Fv6_15 := Hd.mk (Fv6_13.out.below hB)
  have Fv10_15 := Hd.mk (Fv10_13.out.below hB)
  have Fv14_15 := Hd.mk (Fv14_13.out.below hB)
  have FLe0_15 := Hd.mk (FLe0.out.below hB)
  clear HB13 FLa0_13 Fv2_13 Fv6_13 Fv10_13 Fv14_13 FLe0
  clear hB
  clear FLe0_15
  go_wp2_with fail
  refine (nth_at (o := [7, 5, 2]) (r := 5) (by decide) (by decide) (by decide) (by decide) FLa0_15.out).mono ?_
  rintro e w16 ⟨v18, rfl, hO, hB⟩
  have FNv1816 := Hd.mk (hO.src)
  have HB17 := Hd.mk (ch4 HB15.out hB)
  have FLa0_17 := Hd.mk (FLa0_15.out.below hB)
  have Fv2_17 := Hd.mk (Fv2_15.out.below hB)
  have Fv6_17 := Hd.mk (Fv6_15.out.below hB)
  have Fv10_17 := Hd.mk (Fv10_15.out.below hB)
  have Fv14_17 := Hd.mk (Fv14_15.out.below hB)
  clear HB15 FLa0_15 Fv2_15 Fv6_15 Fv10_15 Fv14_15
  clear hB hO
  go_wp2_with fail
  obtain ⟨Lf, hW⟩ : ∃ W, (w16.alloc (.cells #[.int .i64 2, .int .i64 7, .int .i64 5] 3)) = W := ⟨_, rfl⟩
  have hX : Below w16.heap.size w16 Lf := by rw [← hW]; exact (Below.refl _ _).alloc (Nat.le_refl _) _
  have hS0 : SrcI Lf (.slice (some ⟨w16.heap.size, 0, none⟩) 3 3) [2, 7, 5] := by
    rw [← hW]
    have h := srcLitI w16 [2, 7, 5] (by decide)
    exact h
  rw [hW]
  clear hW
  have HB18 := Hd.mk (ch4 HB17.out hX)
  have FLa0_18 := Hd.mk (FLa0_17.out.below hX)
  have Fv2_18 := Hd.mk (Fv2_17.out.below hX)
  have Fv6_18 := Hd.mk (Fv6_17.out.below hX)
  have Fv10_18 := Hd.mk (Fv10_17.out.below hX)
  have Fv14_18 := Hd.mk (Fv14_17.out.below hX)
  have Fv18_18 := Hd.mk (FNv1816.out.below hX)
  clear HB17 FLa0_17 Fv2_17 Fv6_17 Fv10_17 Fv14_17 FNv1816
  clear hX
  have FLf0 := Hd.mk hS0
  clear hS0
  refine (next_at' (o := [5, 2, 7]) (by decide) (by decide) FLf0.out).mono ?_
  rintro e w19 ⟨v20, rfl, hO, hB⟩
  have FNv2019 := Hd.mk (hO.src)
  have HB20 := Hd.mk (ch4 HB18.out hB)
  have FLa0_20 := Hd.mk (FLa0_18.out.below hB)
  have Fv2_20 := Hd.mk (Fv2_18.out.below hB)
  have Fv6_20 := Hd.mk (Fv6_18.out.below hB)
  have Fv10_20 := Hd.mk (Fv10_18.out.below hB)
  have Fv14_20 := Hd.mk (Fv14_18.out.below hB)
  have Fv18_20 := Hd.mk (Fv18_18.out.below hB)
  have FLf0_20 := Hd.mk (FLf0.out.below hB)
  clear HB18 FLa0_18 Fv2_18 Fv6_18 Fv10_18 Fv14_18 Fv18_18 FLf0
  clear hB hO
  clear FLf0_20
  go_wp2_with fail
  refine (swaps_at (n := 3) (by decide) (by decide) FLa0_20.out Fv2_20.out).mono ?_
  rintro e w21 ⟨rfl, hB⟩
  have HB22 := Hd.mk (ch4 HB20.out hB)
  have FLa0_22 := Hd.mk (FLa0_20.out.below hB)
  have Fv2_22 := Hd.mk (Fv2_20.out.below hB)
  have Fv6_22 := Hd.mk (Fv6_20.out.below hB)
  have Fv10_22 := Hd.mk (Fv10_20.out.below hB)
  have Fv14_22 := Hd.mk (Fv14_20.out.below hB)
  have Fv18_22 := Hd.mk (Fv18_20.out.below hB)
  have Fv20_22 := Hd.mk (FNv2019.out.below hB)
  clear HB20 FLa0_20 Fv2_20 Fv6_20 Fv10_20 Fv14_20 Fv18_20 FNv2019
  clear hB
  go_wp2_with fail
  obtain ⟨Lg, hW⟩ : ∃ W, (w21.alloc (.cells #[.int .i64 7, .int .i64 5, .int .i64 2] 3)) = W := ⟨_, rfl⟩
  have hX : Below w21.heap.size w21 Lg := by rw [← hW]; exact (Below.refl _ _).alloc (Nat.le_refl _) _
  have hS0 : SrcI Lg (.slice (some ⟨w21.heap.size, 0, none⟩) 3 3) [7, 5, 2] := by
    rw [← hW]
    have h := srcLitI w21 [7, 5, 2] (by decide)
    exact h
  rw [hW]
  clear hW
  have HB23 := Hd.mk (ch4 HB22.out hX)
  have FLa0_23 := Hd.mk (FLa0_22.out.below hX)
  have Fv2_23 := Hd.mk (Fv2_22.out.below hX)
  have Fv6_23 := Hd.mk (Fv6_22.out.below hX)
  have Fv10_23 := Hd.mk (Fv10_22.out.below hX)
  have Fv14_23 := Hd.mk (Fv14_22.out.below hX)
  have Fv18_23 := Hd.mk (Fv18_22.out.below hX)
  have Fv20_23 := Hd.mk (Fv20_22.out.below hX)
  clear HB22 FLa0_22 Fv2_22 Fv6_22 Fv10_22 Fv14_22 Fv18_22 Fv20_22
  clear hX
  have FLg0 := Hd.mk hS0
  clear hS0
  refine (equal_at (b := true) (by decide) Fv2_23.out FLg0.out).mono ?_
  rintro e w24 ⟨rfl, hB⟩
  have HB25 := Hd.mk (ch4 HB23.out hB)
  have FLa0_25 := Hd.mk (FLa0_23.out.below hB)
  have Fv2_25 := Hd.mk (Fv2_23.out.below hB)
  have Fv6_25 := Hd.mk (Fv6_23.out.below hB)
  have Fv10_25 := Hd.mk (Fv10_23.out.below hB)
  have Fv14_25 := Hd.mk (Fv14_23.out.below hB)
  have Fv18_25 := Hd.mk (Fv18_23.out.below hB)
  have Fv20_25 := Hd.mk (Fv20_23.out.below hB)
  have FLg0_25 := Hd.mk (FLg0.out.below hB)
  clear HB23 FLa0_23 Fv2_23 Fv6_23 Fv10_23 Fv14_23 Fv18_23 Fv20_23 FLg0
  clear hB
  go_wp2_with fail
  refine (equal_at (b := true) (by decide) Fv6_25.out FLa0_25.out).mono ?_
  rintro e w26 ⟨rfl, hB⟩
  have HB27 := Hd.mk (ch4 HB25.out hB)
  have FLa0_27 := Hd.mk (FLa0_25.out.below hB)
  have Fv2_27 := Hd.mk (Fv2_25.out.below hB)
  have Fv6_27 := Hd.mk (Fv6_25.out.below hB)
  have Fv10_27 := Hd.mk (Fv10_25.out.below hB)
  have Fv14_27 := Hd.mk (Fv14_25.out.below hB)
  have Fv18_27 := Hd.mk (Fv18_25.out.below hB)
  have Fv20_27 := Hd.mk (Fv20_25.out.below hB)
  have FLg0_27 := Hd.mk (FLg0_25.out.below hB)
  clear HB25 FLa0_25 Fv2_25 Fv6_25 Fv10_25 Fv14_25 Fv18_25 Fv20_25 FLg0_25
  clear hB
  go_wp2_with fail
  obtain ⟨Li, hW⟩ : ∃ W, (w26.alloc (.cells #[.int .i64 5, .int .i64 2, .int .i64 7] 3)) = W := ⟨_, rfl⟩
  have hX : Below w26.heap.size w26 Li := by rw [← hW]; exact (Below.refl _ _).alloc (Nat.le_refl _) _
  have hS0 : SrcI Li (.slice (some ⟨w26.heap.size, 0, none⟩) 3 3) [5, 2, 7] := by
    rw [← hW]
    have h := srcLitI w26 [5, 2, 7] (by decide)
    exact h
  rw [hW]
  clear hW
  have HB28 := Hd.mk (ch4 HB27.out hX)
  have FLa0_28 := Hd.mk (FLa0_27.out.below hX)
  have Fv2_28 := Hd.mk (Fv2_27.out.below hX)
  have Fv6_28 := Hd.mk (Fv6_27.out.below hX)
  have Fv10_28 := Hd.mk (Fv10_27.out.below hX)
  have Fv14_28 := Hd.mk (Fv14_27.out.below hX)
  have Fv18_28 := Hd.mk (Fv18_27.out.below hX)
  have Fv20_28 := Hd.mk (Fv20_27.out.below hX)
  have FLg0_28 := Hd.mk (FLg0_27.out.below hX)
  clear HB27 FLa0_27 Fv2_27 Fv6_27 Fv10_27 Fv14_27 Fv18_27 Fv20_27 FLg0_27
  clear hX
  have FLi0 := Hd.mk hS0
  clear hS0
  refine (equal_at (b := true) (by decide) Fv10_28.out FLi0.out).mono ?_
  rintro e w29 ⟨rfl, hB⟩
  have HB30 := Hd.mk (ch4 HB28.out hB)
  have FLa0_30 := Hd.mk (FLa0_28.out.below hB)
  have Fv2_30 := Hd.mk (Fv2_28.out.below hB)
  have Fv6_30 := Hd.mk (Fv6_28.out.below hB)
  have Fv10_30 := Hd.mk (Fv10_28.out.below hB)
  have Fv14_30 := Hd.mk (Fv14_28.out.below hB)
  have Fv18_30 := Hd.mk (Fv18_28.out.below hB)
  have Fv20_30 := Hd.mk (Fv20_28.out.below hB)
  have FLg0_30 := Hd.mk (FLg0_28.out.below hB)
  have FLi0_30 := Hd.mk (FLi0.out.below hB)
  clear HB28 FLa0_28 Fv2_28 Fv6_28 Fv10_28 Fv14_28 Fv18_28 Fv20_28 FLg0_28 FLi0
  clear hB
  go_wp2_with fail
  obtain ⟨Lj, hW⟩ : ∃ W, (w29.alloc (.cells #[.int .i64 2, .int .i64 7] 3)) = W := ⟨_, rfl⟩
  have hX : Below w29.heap.size w29 Lj := by rw [← hW]; exact (Below.refl _ _).alloc (Nat.le_refl _) _
  have hS0 : SrcI Lj (.slice (some ⟨w29.heap.size, 0, none⟩) 2 2) [2, 7] := by
    rw [← hW]
    have h := srcLitI w29 [2, 7] (by decide)
    exact h
  rw [hW]
  clear hW
  have HB31 := Hd.mk (ch4 HB30.out hX)
  have FLa0_31 := Hd.mk (FLa0_30.out.below hX)
  have Fv2_31 := Hd.mk (Fv2_30.out.below hX)
  have Fv6_31 := Hd.mk (Fv6_30.out.below hX)
  have Fv10_31 := Hd.mk (Fv10_30.out.below hX)
  have Fv14_31 := Hd.mk (Fv14_30.out.below hX)
  have Fv18_31 := Hd.mk (Fv18_30.out.below hX)
  have Fv20_31 := Hd.mk (Fv20_30.out.below hX)
  have FLg0_31 := Hd.mk (FLg0_30.out.below hX)
  have FLi0_31 := Hd.mk (FLi0_30.out.below hX)
  clear HB30 FLa0_30 Fv2_30 Fv6_30 Fv10_30 Fv14_30 Fv18_30 Fv20_30 FLg0_30 FLi0_30
  clear hX
  have FLj0 := Hd.mk hS0
  clear hS0
  refine (equal_at (b := true) (by decide) Fv14_31.out FLj0.out).mono ?_
  rintro e w32 ⟨rfl, hB⟩
  have HB33 := Hd.mk (ch4 HB31.out hB)
  have FLa0_33 := Hd.mk (FLa0_31.out.below hB)
  have Fv2_33 := Hd.mk (Fv2_31.out.below hB)
  have Fv6_33 := Hd.mk (Fv6_31.out.below hB)
  have Fv10_33 := Hd.mk (Fv10_31.out.below hB)
  have Fv14_33 := Hd.mk (Fv14_31.out.below hB)
  have Fv18_33 := Hd.mk (Fv18_31.out.below hB)
  have Fv20_33 := Hd.mk (Fv20_31.out.below hB)
  have FLg0_33 := Hd.mk (FLg0_31.out.below hB)
  have FLi0_33 := Hd.mk (FLi0_31.out.below hB)
  have FLj0_33 := Hd.mk (FLj0.out.below hB)
  clear HB31 FLa0_31 Fv2_31 Fv6_31 Fv10_31 Fv14_31 Fv18_31 Fv20_31 FLg0_31 FLi0_31 FLj0
  clear hB
  go_wp2_with fail
  refine (equal_at (b := true) (by decide) Fv18_33.out Fv2_33.out).mono ?_
  rintro e w34 ⟨rfl, hB⟩
  have HB35 := Hd.mk (ch4 HB33.out hB)
  have FLa0_35 := Hd.mk (FLa0_33.out.below hB)
  have Fv2_35 := Hd.mk (Fv2_33.out.below hB)
  have Fv6_35 := Hd.mk (Fv6_33.out.below hB)
  have Fv10_35 := Hd.mk (Fv10_33.out.below hB)
  have Fv14_35 := Hd.mk (Fv14_33.out.below hB)
  have Fv18_35 := Hd.mk (Fv18_33.out.below hB)
  have Fv20_35 := Hd.mk (Fv20_33.out.below hB)
  have FLg0_35 := Hd.mk (FLg0_33.out.below hB)
  have FLi0_35 := Hd.mk (FLi0_33.out.below hB)
  have FLj0_35 := Hd.mk (FLj0_33.out.below hB)
  clear HB33 FLa0_33 Fv2_33 Fv6_33 Fv10_33 Fv14_33 Fv18_33 Fv20_33 FLg0_33 FLi0_33 FLj0_33
  clear hB
  go_wp2_with fail
  obtain ⟨Ll, hW⟩ : ∃ W, (w34.alloc (.cells #[.int .i64 5, .int .i64 2, .int .i64 7] 3)) = W := ⟨_, rfl⟩
  have hX : Below w34.heap.size w34 Ll := by rw [← hW]; exact (Below.refl _ _).alloc (Nat.le_refl _) _
  have hS0 : SrcI Ll (.slice (some ⟨w34.heap.size, 0, none⟩) 3 3) [5, 2, 7] := by
    rw [← hW]
    have h := srcLitI w34 [5, 2, 7] (by decide)
    exact h
  rw [hW]
  clear hW
  have HB36 := Hd.mk (ch4 HB35.out hX)
  have FLa0_36 := Hd.mk (FLa0_35.out.below hX)
  have Fv2_36 := Hd.mk (Fv2_35.out.below hX)
  have Fv6_36 := Hd.mk (Fv6_35.out.below hX)
  have Fv10_36 := Hd.mk (Fv10_35.out.below hX)
  have Fv14_36 := Hd.mk (Fv14_35.out.below hX)
  have Fv18_36 := Hd.mk (Fv18_35.out.below hX)
  have Fv20_36 := Hd.mk (Fv20_35.out.below hX)
  have FLg0_36 := Hd.mk (FLg0_35.out.below hX)
  have FLi0_36 := Hd.mk (FLi0_35.out.below hX)
  have FLj0_36 := Hd.mk (FLj0_35.out.below hX)
  clear HB35 FLa0_35 Fv2_35 Fv6_35 Fv10_35 Fv14_35 Fv18_35 Fv20_35 FLg0_35 FLi0_35 FLj0_35
  clear hX
  have FLl0 := Hd.mk hS0
  clear hS0
  refine (equal_at (b := true) (by decide) Fv20_36.out FLl0.out).mono ?_
  rintro e w37 ⟨rfl, hB⟩
  have HB38 := Hd.mk (ch4 HB36.out hB)
  have FLa0_38 := Hd.mk (FLa0_36.out.below hB)
  have Fv2_38 := Hd.mk (Fv2_36.out.below hB)
  have Fv6_38 := Hd.mk (Fv6_36.out.below hB)
  have Fv10_38 := Hd.mk (Fv10_36.out.below hB)
  have Fv14_38 := Hd.mk (Fv14_36.out.below hB)
  have Fv18_38 := Hd.mk (Fv18_36.out.below hB)
  have Fv20_38 := Hd.mk (Fv20_36.out.below hB)
  have FLg0_38 := Hd.mk (FLg0_36.out.below hB)
  have FLi0_38 := Hd.mk (FLi0_36.out.below hB)
  have FLj0_38 := Hd.mk (FLj0_36.out.below hB)
  have FLl0_38 := Hd.mk (FLl0.out.below hB)
  clear HB36 FLa0_36 Fv2_36 Fv6_36 Fv10_36 Fv14_36 Fv18_36 Fv20_36 FLg0_36 FLi0_36 FLj0_36 FLl0
  clear hB
  go_wp2_with fail
  go_ret
  exact ⟨rfl, HB38.out⟩
end Go.Proofs.Ytmahjgffadbdcaa
