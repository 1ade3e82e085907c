/- Walk of the law RngWrong. -/
import Derived.Test.YtpioobaapigjcaaA4
import Derived.Laws.Small
namespace Go.Proofs.Ytpioobaapigjcaa
open Go.RowKit
set_option linter.unusedVariables false

set_option maxHeartbeats 1000000 in
theorem Move_no (b : Nat) (i : Int) (w : World) (h : i < 0 ∨ 281474976710657 < i) (h2 : w.cell? ⟨b, 2, none⟩ = some (.bool true)) :
    Calls Try.prog 25 #[.pointer (some ⟨b, 0, none⟩), .int .i64 i] w fun e w' => e = .returned (.int .i64 2) ∧ w = w' := by
  rcases h with h | h
  · go_enter Try.func25, Try.ntmps25
    go_wp2_with fail
    refine (is_yes b _ h2).mono ?_
    rintro e w' ⟨rfl, rfl⟩
    go_wp2_with fail
    go_ret
    exact ⟨rfl, rfl⟩
  · have h1 : ¬ i < 0 := by omega
    go_enter Try.func25, Try.ntmps25
    go_wp2_with fail
    refine (is_yes b _ h2).mono ?_
    rintro e w' ⟨rfl, rfl⟩
    go_wp2_with fail
    go_ret
    exact ⟨rfl, rfl⟩

set_option maxRecDepth 100000 in
set_option maxHeartbeats 4000000 in
theorem rngWrong_aux (seed : BitVec 64) (n k p q r bad k1 k7 : Int) (p0 : p ≤ -1) (q0 : 65537 ≤ q) (r0 : 281474976710657 ≤ r) (r1 : r ≤ 9223372036854775807)
    (hp : (if (-1 : Int) < n then -1 else n) = p) (hq : (if n < 65537 then 65537 else n) = q) (hr : (if n < 281474976710657 then 281474976710657 else n) = r)
    (hbad : (if (0 : Int) < k then 0 else k) = bad) (hk1 : (if (-1 : Int) < k then -1 else k) = k1) (hk7 : (if k < 7 then 7 else k) = k7)
    (b0 : bad ≤ 0) (b1 : k1 ≤ -1) (b7 : 7 ≤ k7) (w : World) :
    Calls Try.prog 11 #[u seed, .int .i64 n, .int .i64 k] w fun e w' => e = .returned (.bool true) ∧ Below w.heap.size w w' := by
  go_enter Try.func11, Try.ntmps11
  go_wp2_with fail
  obtain ⟨w1, hw1⟩ : ∃ w1, w1 = w.alloc (.cells #[.int .i64 p, .int .i64 q] 3) := ⟨_, rfl⟩
  have hsz1 : w.heap.size < w1.heap.size := by rw [hw1]; simp
  have HW := Hd.mk hw1
  clear hw1
  go_loopw [51] (fun i W => ∃ j : Nat, j ≤ 2 ∧ i = .int .i64 j ∧ Below w1.heap.size w1 W) (fun i _ => 2 - (intOf i).toNat)
  case atStart => exact ⟨0, by omega, rfl, by rw [HW.out]; exact Below.refl _ _⟩
  case round =>
    obtain ⟨j, hj, rfl, hB⟩ := hrel
    have hcell : ∀ j v, (#[.int .i64 p, .int .i64 q] : Array Value)[j]? = some v → wr.cell? ⟨w.heap.size, j, none⟩ = some v := fun j v hv => by
      rw [← hv, hB.cell (p := ⟨w.heap.size, j, none⟩) hsz1, HW.out]
      exact cells_cell (World.alloc_heap_new w _) j
    have hj' : j = 0 ∨ j = 1 ∨ j = 2 := by omega
    clear hj
    rcases hj' with rfl | rfl | rfl
    · rw [show ((0 : Nat) : Int) = 0 from rfl]
      have c0 : wr.cell? ⟨w.heap.size, 0, none⟩ = some (.int .i64 p) := hcell _ _ rfl
      clear hcell
      go_wp2_with fail
      refine (Key_no seed p (.inl (by omega)) _).mono ?_
      rintro e w101 ⟨rfl, hB101⟩
      have hB' := hB.trans (hB101.mono hB.size)
      clear hB hB101
      have hB := hB'
      clear hB'
      go_wp2_with fail
      refine (Value_no1 seed p 0 (.inl (by omega)) _).mono ?_
      rintro e w102 ⟨rfl, hB102⟩
      have hB' := hB.trans (hB102.mono hB.size)
      clear hB hB102
      have hB := hB'
      clear hB'
      go_wp2_with fail
      refine (Draw_no1 seed p 0 0 (.inl (.inl (by omega))) _).mono ?_
      rintro e w103 ⟨rfl, hB103⟩
      have hB' := hB.trans (hB103.mono hB.size)
      clear hB hB103
      have hB := hB'
      clear hB'
      go_wp2_with fail
      refine (Find_no seed p 0#64 (.inl (by omega)) _).mono ?_
      rintro e w104 ⟨rfl, hB104⟩
      have hB' := hB.trans (hB104.mono hB.size)
      clear hB hB104
      have hB := hB'
      clear hB'
      go_wp2_with fail
      refine (New_no seed p (.inl (by omega)) _).mono ?_
      rintro e w105 ⟨rfl, hB105⟩
      have hB' := hB.trans (hB105.mono hB.size)
      clear hB hB105
      have hB := hB'
      clear hB'
      go_wp2_with fail
      go_roundw
      case rel => exact ⟨1, by omega, by rfl, hB⟩
      case measure => simp [intOf]
    · rw [show ((1 : Nat) : Int) = 1 from rfl]
      have c0 : wr.cell? ⟨w.heap.size, 1, none⟩ = some (.int .i64 q) := hcell _ _ rfl
      clear hcell
      go_wp2_with fail
      refine (Key_no seed q (.inr (by omega)) _).mono ?_
      rintro e w141 ⟨rfl, hB141⟩
      have hB' := hB.trans (hB141.mono hB.size)
      clear hB hB141
      have hB := hB'
      clear hB'
      go_wp2_with fail
      refine (Value_no1 seed q 0 (.inr (by omega)) _).mono ?_
      rintro e w142 ⟨rfl, hB142⟩
      have hB' := hB.trans (hB142.mono hB.size)
      clear hB hB142
      have hB := hB'
      clear hB'
      go_wp2_with fail
      refine (Draw_no1 seed q 0 0 (.inl (.inr (by omega))) _).mono ?_
      rintro e w143 ⟨rfl, hB143⟩
      have hB' := hB.trans (hB143.mono hB.size)
      clear hB hB143
      have hB := hB'
      clear hB'
      go_wp2_with fail
      refine (Find_no seed q 0#64 (.inr (by omega)) _).mono ?_
      rintro e w144 ⟨rfl, hB144⟩
      have hB' := hB.trans (hB144.mono hB.size)
      clear hB hB144
      have hB := hB'
      clear hB'
      go_wp2_with fail
      refine (New_no seed q (.inr (by omega)) _).mono ?_
      rintro e w145 ⟨rfl, hB145⟩
      have hB' := hB.trans (hB145.mono hB.size)
      clear hB hB145
      have hB := hB'
      clear hB'
      go_wp2_with fail
      go_roundw
      case rel => exact ⟨2, by omega, by rfl, hB⟩
      case measure => simp [intOf]
    · rw [show ((2 : Nat) : Int) = 2 from rfl]
      have hB0 : Below w.heap.size w wr := (by rw [HW.out]; exact (Below.refl _ _).alloc (Nat.le_refl _) _ : Below w.heap.size w w1).trans (hB.mono (by omega))
      clear hB hcell HW hsz1
      have hB := hB0
      clear hB0
      go_wp2_with fail
      refine (New_st seed 1 (by decide) (by decide) _).mono ?_
      rintro e w2 ⟨b, rfl, hb, hS, hB2⟩
      have hB3 := hB.trans (hB2.mono hB.size)
      have hbw : w.heap.size ≤ b := Nat.le_trans hB.size hb
      have HS := Hd.mk hS
      clear hB hB2 hS hb
      go_wp2_with fail
      obtain ⟨w3, hw3⟩ : ∃ w3, w3 = w2.alloc (.cells #[.int .i64 p, .int .i64 r] 3) := ⟨_, rfl⟩
      have hsz3 : w2.heap.size < w3.heap.size := by rw [hw3]; simp
      have HW := Hd.mk hw3
      clear hw3
      have HS3 : Hd (St w3 b (keyV seed 1) 0) := ⟨by rw [HW.out]; exact HS.out.below ((Below.refl _ _).alloc (Nat.le_refl _) _) HS.out.lt⟩
      have hB4 : Below w.heap.size w w3 := by rw [HW.out]; exact hB3.alloc hB3.size _
      clear hB3
      go_loopw [129] (fun i W => ∃ j : Nat, j ≤ 2 ∧ i = .int .i64 j ∧ Below w3.heap.size w3 W) (fun i _ => 2 - (intOf i).toNat)
      case atStart => exact ⟨0, by omega, rfl, by rw [HW.out]; exact Below.refl _ _⟩
      case round =>
        obtain ⟨j, hj, rfl, hB⟩ := hrel
        have hcell : ∀ j v, (#[.int .i64 p, .int .i64 r] : Array Value)[j]? = some v → wr.cell? ⟨w2.heap.size, j, none⟩ = some v := fun j v hv => by
          rw [← hv, hB.cell (p := ⟨w2.heap.size, j, none⟩) hsz3, HW.out]
          exact cells_cell (World.alloc_heap_new w2 _) j
        have hj' : j = 0 ∨ j = 1 ∨ j = 2 := by omega
        clear hj
        rcases hj' with rfl | rfl | rfl
        · rw [show ((0 : Nat) : Int) = 0 from rfl]
          have c0 : wr.cell? ⟨w2.heap.size, 0, none⟩ = some (.int .i64 p) := hcell _ _ rfl
          clear hcell
          go_wp2_with fail
          refine (Value_no2 seed 1 p (by decide) (by decide) (.inl (by omega)) _).mono ?_
          rintro e w201 ⟨rfl, hB201⟩
          have hB' := hB.trans (hB201.mono hB.size)
          clear hB hB201
          have hB := hB'
          clear hB'
          go_wp2_with fail
          refine (Draw_no1 seed 1 p 0 (.inr (.inl (by omega))) _).mono ?_
          rintro e w202 ⟨rfl, hB202⟩
          have hB' := hB.trans (hB202.mono hB.size)
          clear hB hB202
          have hB := hB'
          clear hB'
          go_wp2_with fail
          refine (Move_no b p _ (.inl (by omega)) (cells_cell (HS3.out.below hB HS3.out.lt) 2)).mono ?_
          rintro e wm ⟨rfl, rfl⟩
          go_wp2_with fail
          go_roundw
          case rel => exact ⟨1, by omega, by rfl, hB⟩
          case measure => simp [intOf]
        · rw [show ((1 : Nat) : Int) = 1 from rfl]
          have c0 : wr.cell? ⟨w2.heap.size, 1, none⟩ = some (.int .i64 r) := hcell _ _ rfl
          clear hcell
          by_cases hre : r = 281474976710657
          · subst hre
            go_wp2_with fail
            refine (Value_no2 seed 1 281474976710657 (by decide) (by decide) (.inr (by decide)) _).mono ?_
            rintro e w203 ⟨rfl, hB203⟩
            have hB' := hB.trans (hB203.mono hB.size)
            clear hB hB203
            have hB := hB'
            clear hB'
            go_wp2_with fail
            refine (Draw_no1 seed 1 281474976710657 0 (.inr (.inr (by decide))) _).mono ?_
            rintro e w204 ⟨rfl, hB204⟩
            have hB' := hB.trans (hB204.mono hB.size)
            clear hB hB204
            have hB := hB'
            clear hB'
            go_wp2_with fail
            refine (Move_no b 281474976710658 _ (.inr (by decide)) (cells_cell (HS3.out.below hB HS3.out.lt) 2)).mono ?_
            rintro e wm ⟨rfl, rfl⟩
            go_wp2_with fail
            go_roundw
            case rel => exact ⟨2, by omega, by rfl, hB⟩
            case measure => simp [intOf]
          · have hre' : (r == 281474976710657) = false := beq_eq_false_iff_ne.2 hre
            have hrlt : 281474976710657 < r := by omega
            clear hre
            go_wp2_with fail
            refine (Value_no2 seed 1 r (by decide) (by decide) (.inr (by omega)) _).mono ?_
            rintro e w205 ⟨rfl, hB205⟩
            have hB' := hB.trans (hB205.mono hB.size)
            clear hB hB205
            have hB := hB'
            clear hB'
            go_wp2_with fail
            refine (Draw_no1 seed 1 r 0 (.inr (.inr (by omega))) _).mono ?_
            rintro e w206 ⟨rfl, hB206⟩
            have hB' := hB.trans (hB206.mono hB.size)
            clear hB hB206
            have hB := hB'
            clear hB'
            go_wp2_with fail
            refine (Move_no b r _ (.inr (by omega)) (cells_cell (HS3.out.below hB HS3.out.lt) 2)).mono ?_
            rintro e wm ⟨rfl, rfl⟩
            go_wp2_with fail
            go_roundw
            case rel => exact ⟨2, by omega, by rfl, hB⟩
            case measure => simp [intOf]
        · rw [show ((2 : Nat) : Int) = 2 from rfl]
          have HS4 := Hd.mk (HS3.out.below hB HS3.out.lt)
          have hB5 := hB4.trans (hB.mono hB4.size)
          clear hB hB4 hcell HS HS3 HW hsz3
          have hB := hB5
          clear hB5
          go_wp2_with fail
          refine (Below_no 5#64 bad (by omega) _).mono ?_
          rintro e w407 ⟨rfl, rfl⟩
          go_wp2_with fail
          refine (Range_no1 bad 0 (by omega) _).mono ?_
          rintro e w408 ⟨rfl, rfl⟩
          go_wp2_with fail
          refine (Draw_no2 seed 1 0 bad (by decide) (by decide) (by decide) (by decide) (by omega) _).mono ?_
          rintro e w409 ⟨rfl, hB409⟩
          have HS5 := Hd.mk (HS4.out.below hB409 HS4.out.lt)
          have hB' := hB.trans (hB409.mono hB.size)
          clear hB hB409
          have hB := hB'
          clear hB'
          go_wp2_with fail
          refine (DrawS_no HS5.out bad (by omega)).mono ?_
          rintro e w410 ⟨rfl, rfl⟩
          go_wp2_with fail
          refine (Range_no2 7 k1 (by decide) (.inl (by omega)) _).mono ?_
          rintro e w411 ⟨rfl, rfl⟩
          go_wp2_with fail
          refine (Range_no2 7 k7 (by decide) (.inr (by omega)) _).mono ?_
          rintro e w412 ⟨rfl, rfl⟩
          go_wp2_with fail
          refine (Index_st HS5.out).mono ?_
          rintro e w413 ⟨rfl, rfl⟩
          go_wp2_with fail
          refine (awake_any _).mono ?_
          rintro e w214 ⟨rfl, hB214⟩
          have hB' := hB.trans (hB214.mono hB.size)
          clear hB hB214
          have hB := hB'
          clear hB'
          go_wp2_with fail
          go_ret
          exact ⟨rfl, hB⟩

theorem rngWrong_walk (seed : BitVec 64) (n k : Int) (n0 : -9223372036854775808 ≤ n) (n1 : n ≤ 9223372036854775807) (w : World) :
    Calls Try.prog 11 #[u seed, .int .i64 n, .int .i64 k] w fun e w' => e = .returned (.bool true) ∧ Below w.heap.size w w' :=
  rngWrong_aux seed n k _ _ _ _ _ _ (by split <;> omega) (by split <;> omega) (by split <;> omega) (by split <;> omega) rfl rfl rfl rfl rfl rfl (by split <;> omega) (by split <;> omega) (by split <;> omega) w
end Go.Proofs.Ytpioobaapigjcaa
