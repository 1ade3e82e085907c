/- Walks of below and tells, which compare with the reference. -/
import Derived.Test.YtpioobaapigjcaaC1
namespace Go.Proofs.Ytpioobaapigjcaa
open Go.RowKit
set_option linter.unusedVariables false

set_option maxHeartbeats 1000000 in
theorem cmp_no1 (v : BitVec 64) (n k : Int) (h : n < 1) (w : World) :
    Calls Try.prog 27 #[u v, .int .i64 n, .int .i64 k] w fun e w' => e = .returned (.bool true) ∧ Below w.heap.size w w' := by
  go_enter Try.func27, Try.ntmps27
  go_wp2_with fail
  refine (Below_no v n h _).mono ?_
  rintro e w' ⟨rfl, rfl⟩
  go_wp2_with fail
  refine (Range_no1 n k h _).mono ?_
  rintro e w' ⟨rfl, rfl⟩
  go_wp2_with fail
  go_ret
  exact ⟨rfl, Below.refl _ _⟩

set_option maxHeartbeats 1000000 in
theorem cmp_no2 (v : BitVec 64) (n k : Int) (h1 : 1 ≤ n) (h2 : n ≤ 9223372036854775807) (h : k < 0 ∨ n ≤ k) (w : World) :
    Calls Try.prog 27 #[u v, .int .i64 n, .int .i64 k] w fun e w' => e = .returned (.bool true) ∧ Below w.heap.size w w' := by
  have h1' : ¬ n < 1 := by omega
  have H := Hd.mk h
  by_cases hk : k < 0
  · clear h
    go_enter Try.func27, Try.ntmps27
    go_wp2_with fail
    refine (Below_yes v n h1 h2 _).mono ?_
    rintro e w' ⟨rfl, rfl⟩
    go_wp2_with fail
    refine (Range_no2 n k h1 H.out _).mono ?_
    rintro e w' ⟨rfl, rfl⟩
    go_wp2_with fail
    refine (refBelow_any v n h1 h2 _).mono ?_
    rintro e w' ⟨rfl, rfl⟩
    go_wp2_with fail
    go_ret
    exact ⟨rfl, Below.refl _ _⟩
  · have hnk : n ≤ k := by omega
    clear h
    go_enter Try.func27, Try.ntmps27
    go_wp2_with fail
    refine (Below_yes v n h1 h2 _).mono ?_
    rintro e w' ⟨rfl, rfl⟩
    go_wp2_with fail
    refine (Range_no2 n k h1 H.out _).mono ?_
    rintro e w' ⟨rfl, rfl⟩
    go_wp2_with fail
    refine (refBelow_any v n h1 h2 _).mono ?_
    rintro e w' ⟨rfl, rfl⟩
    go_wp2_with fail
    go_ret
    exact ⟨rfl, Below.refl _ _⟩

set_option maxHeartbeats 1000000 in
theorem cmp_yes (v : BitVec 64) (n k : Int) (h0 : 0 ≤ k) (h1 : k < n) (h2 : n ≤ 9223372036854775807) (w : World) :
    Calls Try.prog 27 #[u v, .int .i64 n, .int .i64 k] w fun e w' => e = .returned (.bool true) ∧ Below w.heap.size w w' := by
  have h1' : ¬ n < 1 := by omega
  have h3 : ¬ k < 0 := by omega
  have h4 : ¬ n ≤ k := by omega
  go_enter Try.func27, Try.ntmps27
  go_wp2_with fail
  refine (Below_yes v n (by omega) h2 _).mono ?_
  rintro e w' ⟨rfl, rfl⟩
  go_wp2_with fail
  refine (Range_yes n k h0 h1 h2 _).mono ?_
  rintro e w' ⟨rfl, rfl⟩
  go_wp2_with fail
  refine (refBelow_any v n (by omega) h2 _).mono ?_
  rintro e w' ⟨rfl, rfl⟩
  go_wp2_with fail
  refine (refRange_any n k h0 h1 h2 _).mono ?_
  rintro e w' ⟨rfl, rfl⟩
  go_wp2_with fail
  go_ret
  exact ⟨rfl, Below.refl _ _⟩

theorem cmp_any (v : BitVec 64) (n k : Int) (h2 : n ≤ 9223372036854775807) (w : World) :
    Calls Try.prog 27 #[u v, .int .i64 n, .int .i64 k] w fun e w' => e = .returned (.bool true) ∧ Below w.heap.size w w' := by
  by_cases h1 : n < 1
  · exact cmp_no1 v n k h1 w
  · by_cases h : k < 0 ∨ n ≤ k
    · exact cmp_no2 v n k (by omega) h2 h w
    · exact cmp_yes v n k (by omega) (by omega) h2 w

theorem refProcess_yes (n : Int) (h0 : 0 ≤ n) (h1 : n ≤ 65536) (w : World) : Calls Try.prog 20 #[.int .i64 n] w fun e w' => e = .returned (.bool true) ∧ w = w' := by
  have := refProcess_any n w
  rwa [decide_eq_true h0, decide_eq_true h1] at this
theorem refProcess_no (n : Int) (h : n < 0 ∨ 65536 < n) (w : World) : Calls Try.prog 20 #[.int .i64 n] w fun e w' => e = .returned (.bool false) ∧ w = w' := by
  have := refProcess_any n w
  rwa [show (decide (0 ≤ n) && decide (n ≤ 65536)) = false from by simp; omega] at this
theorem refIndex_yes (n : Int) (h0 : 0 ≤ n) (h1 : n ≤ 281474976710656) (w : World) : Calls Try.prog 35 #[.int .i64 n] w fun e w' => e = .returned (.bool true) ∧ w = w' := by
  have := refIndex_any n w
  rwa [decide_eq_true h0, decide_eq_true h1] at this
theorem refIndex_no (n : Int) (h : n < 0 ∨ 281474976710656 < n) (w : World) : Calls Try.prog 35 #[.int .i64 n] w fun e w' => e = .returned (.bool false) ∧ w = w' := by
  have := refIndex_any n w
  rwa [show (decide (0 ≤ n) && decide (n ≤ 281474976710656)) = false from by simp; omega] at this

set_option maxRecDepth 100000 in
set_option maxHeartbeats 1000000 in
theorem tells_noP (seed : BitVec 64) (p i n k : Int) (v : BitVec 64) (h : p < 0 ∨ 65536 < p) (w : World) :
    Calls Try.prog 18 #[u seed, .int .i64 p, .int .i64 i, .int .i64 n, .int .i64 k, u v] w fun e w' => e = .returned (.bool true) ∧ Below w.heap.size w w' := by
  have H := Hd.mk h
  clear h
  go_enter Try.func18, Try.ntmps18
  go_wp2_with fail
  refine (Key_no seed p H.out _).mono ?_
  rintro e w1 ⟨rfl, hB⟩
  go_wp2_with fail
  refine (Value_no1 seed p i H.out _).mono ?_
  rintro e w2 ⟨rfl, hB2⟩
  have hB3 := hB.trans (hB2.mono hB.size)
  clear hB hB2
  go_wp2_with fail
  refine (Draw_no1 seed p i n (.inl H.out) _).mono ?_
  rintro e w4 ⟨rfl, hB4⟩
  have hB := hB3.trans (hB4.mono hB3.size)
  clear hB3 hB4
  go_wp2_with fail
  refine (Find_no seed p v H.out _).mono ?_
  rintro e w5 ⟨rfl, hB5⟩
  have hB6 := hB.trans (hB5.mono hB.size)
  clear hB hB5
  go_wp2_with fail
  refine (refProcess_no p H.out _).mono ?_
  rintro e w' ⟨rfl, rfl⟩
  go_wp2_with fail
  go_ret
  exact ⟨rfl, hB6⟩
/-- What is found is a number's index. -/
theorem find_conv (seed : BitVec 64) (p : Int) (v : BitVec 64) : atV (keyV seed p) (nv (findV seed p v)) = v := by
  unfold atV nv
  rw [BitVec.ofInt_mul, BitVec.ofInt_add, u_ofInt]
  have e3 : BitVec.ofInt 64 1 = 1#64 := by decide
  rw [e3]
  have e1 : findV seed p v + 1#64 = (unmixV v - keyV seed p) * byV 5 := by unfold findV; grind
  have e2 : byV 5 * BitVec.ofInt 64 11400714819323198485 = 1#64 := by rw [BitVec.mul_comm]; exact byV5
  rw [e1, BitVec.mul_assoc, e2, BitVec.mul_one]
  have e4 : keyV seed p + (unmixV v - keyV seed p) = unmixV v := by grind
  rw [e4, mix_unmix]

theorem Find_small (seed : BitVec 64) (p : Int) (v : BitVec 64) (h0 : 0 ≤ p) (h1 : p ≤ 65536) (hX : ¬ 281474976710656 < (findV seed p v).toNat) (w : World) :
    Calls Try.prog 13 #[u seed, .int .i64 p, u v] w fun e w' => e = .returned (.tuple #[.int .i64 (nv (findV seed p v)), .int .i64 0]) ∧ Below w.heap.size w w' := by
  have := Find_yes seed p v h0 h1 w
  rwa [findI, findE, if_neg hX, if_neg hX] at this
theorem Find_large (seed : BitVec 64) (p : Int) (v : BitVec 64) (h0 : 0 ≤ p) (h1 : p ≤ 65536) (hX : 281474976710656 < (findV seed p v).toNat) (w : World) :
    Calls Try.prog 13 #[u seed, .int .i64 p, u v] w fun e w' => e = .returned (.tuple #[.int .i64 0, .int .i64 6]) ∧ Below w.heap.size w w' := by
  have := Find_yes seed p v h0 h1 w
  rwa [findI, findE, if_pos hX, if_pos hX] at this

set_option maxRecDepth 100000 in
set_option maxHeartbeats 2000000 in
theorem tells_lx (seed : BitVec 64) (p i n k : Int) (v : BitVec 64) (h0 : 0 ≤ p) (h1 : p ≤ 65536) (hn2 : n ≤ 9223372036854775807) (HS : Hd (281474976710656 < (findV seed p v).toNat)) (HI : Hd (i < 0 ∨ 281474976710656 < i))  (w : World) :
    Calls Try.prog 18 #[u seed, .int .i64 p, .int .i64 i, .int .i64 n, .int .i64 k, u v] w fun e w' => e = .returned (.bool true) ∧ Below w.heap.size w w' := by
  have hB := Below.refl w.heap.size w
  go_enter Try.func18, Try.ntmps18
  go_wp2_with fail
  refine (Key_yes seed p h0 h1 _).mono ?_
  rintro e w101 ⟨rfl, hB101⟩
  have hB' := hB.trans (hB101.mono hB.size)
  clear hB hB101
  have hB := hB'
  clear hB'
  go_wp2_with fail
  refine (Value_no2 seed p i h0 h1 HI.out _).mono ?_
  rintro e w102 ⟨rfl, hB102⟩
  have hB' := hB.trans (hB102.mono hB.size)
  clear hB hB102
  have hB := hB'
  clear hB'
  go_wp2_with fail
  refine (Draw_no1 seed p i n (.inr HI.out) _).mono ?_
  rintro e w103 ⟨rfl, hB103⟩
  have hB' := hB.trans (hB103.mono hB.size)
  clear hB hB103
  have hB := hB'
  clear hB'
  go_wp2_with fail
  refine (Find_large seed p v h0 h1 HS.out _).mono ?_
  rintro e w104 ⟨rfl, hB104⟩
  have hB' := hB.trans (hB104.mono hB.size)
  clear hB hB104
  have hB := hB'
  clear hB'
  go_wp2_with fail
  refine (refProcess_yes p h0 h1 _).mono ?_
  rintro e w105 ⟨rfl, rfl⟩
  go_wp2_with fail
  refine (refKey_any seed p h0 h1 _).mono ?_
  rintro e w106 ⟨rfl, hB106⟩
  have hB' := hB.trans (hB106.mono hB.size)
  clear hB hB106
  have hB := hB'
  clear hB'
  go_wp2_with fail
  refine (refIndex_no i HI.out _).mono ?_
  rintro e w107 ⟨rfl, rfl⟩
  go_wp2_with fail
  refine (cmp_any v n k hn2 _).mono ?_
  rintro e w108 ⟨rfl, hB108⟩
  have hB' := hB.trans (hB108.mono hB.size)
  clear hB hB108
  have hB := hB'
  clear hB'
  go_wp2_with fail
  go_ret
  exact ⟨rfl, hB⟩

set_option maxRecDepth 100000 in
set_option maxHeartbeats 2000000 in
theorem tells_lin (seed : BitVec 64) (p i n k : Int) (v : BitVec 64) (h0 : 0 ≤ p) (h1 : p ≤ 65536) (hn2 : n ≤ 9223372036854775807) (HS : Hd (281474976710656 < (findV seed p v).toNat)) (i0 : 0 ≤ i) (i1 : i ≤ 281474976710656) (n1 : n < 1) (w : World) :
    Calls Try.prog 18 #[u seed, .int .i64 p, .int .i64 i, .int .i64 n, .int .i64 k, u v] w fun e w' => e = .returned (.bool true) ∧ Below w.heap.size w w' := by
  have hB := Below.refl w.heap.size w
  go_enter Try.func18, Try.ntmps18
  go_wp2_with fail
  refine (Key_yes seed p h0 h1 _).mono ?_
  rintro e w101 ⟨rfl, hB101⟩
  have hB' := hB.trans (hB101.mono hB.size)
  clear hB hB101
  have hB := hB'
  clear hB'
  go_wp2_with fail
  refine (Value_yes seed p i h0 h1 i0 i1 _).mono ?_
  rintro e w102 ⟨rfl, hB102⟩
  have hB' := hB.trans (hB102.mono hB.size)
  clear hB hB102
  have hB := hB'
  clear hB'
  go_wp2_with fail
  refine (Draw_no2 seed p i n h0 h1 i0 i1 n1 _).mono ?_
  rintro e w103 ⟨rfl, hB103⟩
  have hB' := hB.trans (hB103.mono hB.size)
  clear hB hB103
  have hB := hB'
  clear hB'
  go_wp2_with fail
  refine (Find_large seed p v h0 h1 HS.out _).mono ?_
  rintro e w104 ⟨rfl, hB104⟩
  have hB' := hB.trans (hB104.mono hB.size)
  clear hB hB104
  have hB := hB'
  clear hB'
  go_wp2_with fail
  refine (refProcess_yes p h0 h1 _).mono ?_
  rintro e w105 ⟨rfl, rfl⟩
  go_wp2_with fail
  refine (refKey_any seed p h0 h1 _).mono ?_
  rintro e w106 ⟨rfl, hB106⟩
  have hB' := hB.trans (hB106.mono hB.size)
  clear hB hB106
  have hB := hB'
  clear hB'
  go_wp2_with fail
  refine (refIndex_yes i i0 i1 _).mono ?_
  rintro e w107 ⟨rfl, rfl⟩
  go_wp2_with fail
  refine (refValue_any seed p i h0 h1 i0 i1 _).mono ?_
  rintro e w108 ⟨rfl, hB108⟩
  have hB' := hB.trans (hB108.mono hB.size)
  clear hB hB108
  have hB := hB'
  clear hB'
  go_wp2_with fail
  refine (Find_at seed p i h0 h1 i0 i1 _).mono ?_
  rintro e w109 ⟨rfl, hB109⟩
  have hB' := hB.trans (hB109.mono hB.size)
  clear hB hB109
  have hB := hB'
  clear hB'
  go_wp2_with fail
  refine (cmp_any v n k hn2 _).mono ?_
  rintro e w110 ⟨rfl, hB110⟩
  have hB' := hB.trans (hB110.mono hB.size)
  clear hB hB110
  have hB := hB'
  clear hB'
  go_wp2_with fail
  go_ret
  exact ⟨rfl, hB⟩

set_option maxRecDepth 100000 in
set_option maxHeartbeats 2000000 in
theorem tells_liy (seed : BitVec 64) (p i n k : Int) (v : BitVec 64) (h0 : 0 ≤ p) (h1 : p ≤ 65536) (hn2 : n ≤ 9223372036854775807) (HS : Hd (281474976710656 < (findV seed p v).toNat)) (i0 : 0 ≤ i) (i1 : i ≤ 281474976710656) (n1 : 1 ≤ n) (w : World) :
    Calls Try.prog 18 #[u seed, .int .i64 p, .int .i64 i, .int .i64 n, .int .i64 k, u v] w fun e w' => e = .returned (.bool true) ∧ Below w.heap.size w w' := by
  have n1' : ¬ n < 1 := by omega
  have hB := Below.refl w.heap.size w
  go_enter Try.func18, Try.ntmps18
  go_wp2_with fail
  refine (Key_yes seed p h0 h1 _).mono ?_
  rintro e w101 ⟨rfl, hB101⟩
  have hB' := hB.trans (hB101.mono hB.size)
  clear hB hB101
  have hB := hB'
  clear hB'
  go_wp2_with fail
  refine (Value_yes seed p i h0 h1 i0 i1 _).mono ?_
  rintro e w102 ⟨rfl, hB102⟩
  have hB' := hB.trans (hB102.mono hB.size)
  clear hB hB102
  have hB := hB'
  clear hB'
  go_wp2_with fail
  refine (Draw_yes seed p i n h0 h1 i0 i1 n1 hn2 _).mono ?_
  rintro e w103 ⟨rfl, hB103⟩
  have hB' := hB.trans (hB103.mono hB.size)
  clear hB hB103
  have hB := hB'
  clear hB'
  go_wp2_with fail
  refine (Find_large seed p v h0 h1 HS.out _).mono ?_
  rintro e w104 ⟨rfl, hB104⟩
  have hB' := hB.trans (hB104.mono hB.size)
  clear hB hB104
  have hB := hB'
  clear hB'
  go_wp2_with fail
  refine (refProcess_yes p h0 h1 _).mono ?_
  rintro e w105 ⟨rfl, rfl⟩
  go_wp2_with fail
  refine (refKey_any seed p h0 h1 _).mono ?_
  rintro e w106 ⟨rfl, hB106⟩
  have hB' := hB.trans (hB106.mono hB.size)
  clear hB hB106
  have hB := hB'
  clear hB'
  go_wp2_with fail
  refine (refIndex_yes i i0 i1 _).mono ?_
  rintro e w107 ⟨rfl, rfl⟩
  go_wp2_with fail
  refine (refValue_any seed p i h0 h1 i0 i1 _).mono ?_
  rintro e w108 ⟨rfl, hB108⟩
  have hB' := hB.trans (hB108.mono hB.size)
  clear hB hB108
  have hB := hB'
  clear hB'
  go_wp2_with fail
  refine (refBelow_any _ n n1 hn2 _).mono ?_
  rintro e w109 ⟨rfl, rfl⟩
  go_wp2_with fail
  refine (Find_at seed p i h0 h1 i0 i1 _).mono ?_
  rintro e w110 ⟨rfl, hB110⟩
  have hB' := hB.trans (hB110.mono hB.size)
  clear hB hB110
  have hB := hB'
  clear hB'
  go_wp2_with fail
  refine (cmp_any v n k hn2 _).mono ?_
  rintro e w111 ⟨rfl, hB111⟩
  have hB' := hB.trans (hB111.mono hB.size)
  clear hB hB111
  have hB := hB'
  clear hB'
  go_wp2_with fail
  go_ret
  exact ⟨rfl, hB⟩

set_option maxRecDepth 100000 in
set_option maxHeartbeats 2000000 in
theorem tells_sx (seed : BitVec 64) (p i n k x : Int) (v : BitVec 64) (h0 : 0 ≤ p) (h1 : p ≤ 65536) (hn2 : n ≤ 9223372036854775807) (x0 : 0 ≤ x) (x1 : x ≤ 281474976710656) (HX : Hd (nv (findV seed p v) = x)) (HV : Hd (atV (keyV seed p) x = v)) (HS : Hd (¬ 281474976710656 < (findV seed p v).toNat)) (HI : Hd (i < 0 ∨ 281474976710656 < i))  (w : World) :
    Calls Try.prog 18 #[u seed, .int .i64 p, .int .i64 i, .int .i64 n, .int .i64 k, u v] w fun e w' => e = .returned (.bool true) ∧ Below w.heap.size w w' := by
  have hB := Below.refl w.heap.size w
  go_enter Try.func18, Try.ntmps18
  go_wp2_with fail
  refine (Key_yes seed p h0 h1 _).mono ?_
  rintro e w101 ⟨rfl, hB101⟩
  have hB' := hB.trans (hB101.mono hB.size)
  clear hB hB101
  have hB := hB'
  clear hB'
  go_wp2_with fail
  refine (Value_no2 seed p i h0 h1 HI.out _).mono ?_
  rintro e w102 ⟨rfl, hB102⟩
  have hB' := hB.trans (hB102.mono hB.size)
  clear hB hB102
  have hB := hB'
  clear hB'
  go_wp2_with fail
  refine (Draw_no1 seed p i n (.inr HI.out) _).mono ?_
  rintro e w103 ⟨rfl, hB103⟩
  have hB' := hB.trans (hB103.mono hB.size)
  clear hB hB103
  have hB := hB'
  clear hB'
  go_wp2_with fail
  refine (Find_small seed p v h0 h1 HS.out _).mono ?_
  rintro e w104 ⟨rfl, hB104⟩
  rw [HX.out]
  have hB' := hB.trans (hB104.mono hB.size)
  clear hB hB104
  have hB := hB'
  clear hB'
  go_wp2_with fail
  refine (refProcess_yes p h0 h1 _).mono ?_
  rintro e w105 ⟨rfl, rfl⟩
  go_wp2_with fail
  refine (refKey_any seed p h0 h1 _).mono ?_
  rintro e w106 ⟨rfl, hB106⟩
  have hB' := hB.trans (hB106.mono hB.size)
  clear hB hB106
  have hB := hB'
  clear hB'
  go_wp2_with fail
  refine (refIndex_yes x x0 x1 _).mono ?_
  rintro e w107 ⟨rfl, rfl⟩
  go_wp2_with fail
  refine (refValue_any seed p x h0 h1 x0 x1 _).mono ?_
  rintro e w108 ⟨rfl, hB108⟩
  rw [HV.out]
  have hB' := hB.trans (hB108.mono hB.size)
  clear hB hB108
  have hB := hB'
  clear hB'
  go_wp2_with fail
  refine (refIndex_no i HI.out _).mono ?_
  rintro e w109 ⟨rfl, rfl⟩
  go_wp2_with fail
  refine (cmp_any v n k hn2 _).mono ?_
  rintro e w110 ⟨rfl, hB110⟩
  have hB' := hB.trans (hB110.mono hB.size)
  clear hB hB110
  have hB := hB'
  clear hB'
  go_wp2_with fail
  go_ret
  exact ⟨rfl, hB⟩

set_option maxRecDepth 100000 in
set_option maxHeartbeats 2000000 in
theorem tells_sin (seed : BitVec 64) (p i n k x : Int) (v : BitVec 64) (h0 : 0 ≤ p) (h1 : p ≤ 65536) (hn2 : n ≤ 9223372036854775807) (x0 : 0 ≤ x) (x1 : x ≤ 281474976710656) (HX : Hd (nv (findV seed p v) = x)) (HV : Hd (atV (keyV seed p) x = v)) (HS : Hd (¬ 281474976710656 < (findV seed p v).toNat)) (i0 : 0 ≤ i) (i1 : i ≤ 281474976710656) (n1 : n < 1) (w : World) :
    Calls Try.prog 18 #[u seed, .int .i64 p, .int .i64 i, .int .i64 n, .int .i64 k, u v] w fun e w' => e = .returned (.bool true) ∧ Below w.heap.size w w' := by
  have hB := Below.refl w.heap.size w
  go_enter Try.func18, Try.ntmps18
  go_wp2_with fail
  refine (Key_yes seed p h0 h1 _).mono ?_
  rintro e w101 ⟨rfl, hB101⟩
  have hB' := hB.trans (hB101.mono hB.size)
  clear hB hB101
  have hB := hB'
  clear hB'
  go_wp2_with fail
  refine (Value_yes seed p i h0 h1 i0 i1 _).mono ?_
  rintro e w102 ⟨rfl, hB102⟩
  have hB' := hB.trans (hB102.mono hB.size)
  clear hB hB102
  have hB := hB'
  clear hB'
  go_wp2_with fail
  refine (Draw_no2 seed p i n h0 h1 i0 i1 n1 _).mono ?_
  rintro e w103 ⟨rfl, hB103⟩
  have hB' := hB.trans (hB103.mono hB.size)
  clear hB hB103
  have hB := hB'
  clear hB'
  go_wp2_with fail
  refine (Find_small seed p v h0 h1 HS.out _).mono ?_
  rintro e w104 ⟨rfl, hB104⟩
  rw [HX.out]
  have hB' := hB.trans (hB104.mono hB.size)
  clear hB hB104
  have hB := hB'
  clear hB'
  go_wp2_with fail
  refine (refProcess_yes p h0 h1 _).mono ?_
  rintro e w105 ⟨rfl, rfl⟩
  go_wp2_with fail
  refine (refKey_any seed p h0 h1 _).mono ?_
  rintro e w106 ⟨rfl, hB106⟩
  have hB' := hB.trans (hB106.mono hB.size)
  clear hB hB106
  have hB := hB'
  clear hB'
  go_wp2_with fail
  refine (refIndex_yes x x0 x1 _).mono ?_
  rintro e w107 ⟨rfl, rfl⟩
  go_wp2_with fail
  refine (refValue_any seed p x h0 h1 x0 x1 _).mono ?_
  rintro e w108 ⟨rfl, hB108⟩
  rw [HV.out]
  have hB' := hB.trans (hB108.mono hB.size)
  clear hB hB108
  have hB := hB'
  clear hB'
  go_wp2_with fail
  refine (refIndex_yes i i0 i1 _).mono ?_
  rintro e w109 ⟨rfl, rfl⟩
  go_wp2_with fail
  refine (refValue_any seed p i h0 h1 i0 i1 _).mono ?_
  rintro e w110 ⟨rfl, hB110⟩
  have hB' := hB.trans (hB110.mono hB.size)
  clear hB hB110
  have hB := hB'
  clear hB'
  go_wp2_with fail
  refine (Find_at seed p i h0 h1 i0 i1 _).mono ?_
  rintro e w111 ⟨rfl, hB111⟩
  have hB' := hB.trans (hB111.mono hB.size)
  clear hB hB111
  have hB := hB'
  clear hB'
  go_wp2_with fail
  refine (cmp_any v n k hn2 _).mono ?_
  rintro e w112 ⟨rfl, hB112⟩
  have hB' := hB.trans (hB112.mono hB.size)
  clear hB hB112
  have hB := hB'
  clear hB'
  go_wp2_with fail
  go_ret
  exact ⟨rfl, hB⟩

set_option maxRecDepth 100000 in
set_option maxHeartbeats 2000000 in
theorem tells_siy (seed : BitVec 64) (p i n k x : Int) (v : BitVec 64) (h0 : 0 ≤ p) (h1 : p ≤ 65536) (hn2 : n ≤ 9223372036854775807) (x0 : 0 ≤ x) (x1 : x ≤ 281474976710656) (HX : Hd (nv (findV seed p v) = x)) (HV : Hd (atV (keyV seed p) x = v)) (HS : Hd (¬ 281474976710656 < (findV seed p v).toNat)) (i0 : 0 ≤ i) (i1 : i ≤ 281474976710656) (n1 : 1 ≤ n) (w : World) :
    Calls Try.prog 18 #[u seed, .int .i64 p, .int .i64 i, .int .i64 n, .int .i64 k, u v] w fun e w' => e = .returned (.bool true) ∧ Below w.heap.size w w' := by
  have n1' : ¬ n < 1 := by omega
  have hB := Below.refl w.heap.size w
  go_enter Try.func18, Try.ntmps18
  go_wp2_with fail
  refine (Key_yes seed p h0 h1 _).mono ?_
  rintro e w101 ⟨rfl, hB101⟩
  have hB' := hB.trans (hB101.mono hB.size)
  clear hB hB101
  have hB := hB'
  clear hB'
  go_wp2_with fail
  refine (Value_yes seed p i h0 h1 i0 i1 _).mono ?_
  rintro e w102 ⟨rfl, hB102⟩
  have hB' := hB.trans (hB102.mono hB.size)
  clear hB hB102
  have hB := hB'
  clear hB'
  go_wp2_with fail
  refine (Draw_yes seed p i n h0 h1 i0 i1 n1 hn2 _).mono ?_
  rintro e w103 ⟨rfl, hB103⟩
  have hB' := hB.trans (hB103.mono hB.size)
  clear hB hB103
  have hB := hB'
  clear hB'
  go_wp2_with fail
  refine (Find_small seed p v h0 h1 HS.out _).mono ?_
  rintro e w104 ⟨rfl, hB104⟩
  rw [HX.out]
  have hB' := hB.trans (hB104.mono hB.size)
  clear hB hB104
  have hB := hB'
  clear hB'
  go_wp2_with fail
  refine (refProcess_yes p h0 h1 _).mono ?_
  rintro e w105 ⟨rfl, rfl⟩
  go_wp2_with fail
  refine (refKey_any seed p h0 h1 _).mono ?_
  rintro e w106 ⟨rfl, hB106⟩
  have hB' := hB.trans (hB106.mono hB.size)
  clear hB hB106
  have hB := hB'
  clear hB'
  go_wp2_with fail
  refine (refIndex_yes x x0 x1 _).mono ?_
  rintro e w107 ⟨rfl, rfl⟩
  go_wp2_with fail
  refine (refValue_any seed p x h0 h1 x0 x1 _).mono ?_
  rintro e w108 ⟨rfl, hB108⟩
  rw [HV.out]
  have hB' := hB.trans (hB108.mono hB.size)
  clear hB hB108
  have hB := hB'
  clear hB'
  go_wp2_with fail
  refine (refIndex_yes i i0 i1 _).mono ?_
  rintro e w109 ⟨rfl, rfl⟩
  go_wp2_with fail
  refine (refValue_any seed p i h0 h1 i0 i1 _).mono ?_
  rintro e w110 ⟨rfl, hB110⟩
  have hB' := hB.trans (hB110.mono hB.size)
  clear hB hB110
  have hB := hB'
  clear hB'
  go_wp2_with fail
  refine (refBelow_any _ n n1 hn2 _).mono ?_
  rintro e w111 ⟨rfl, rfl⟩
  go_wp2_with fail
  refine (Find_at seed p i h0 h1 i0 i1 _).mono ?_
  rintro e w112 ⟨rfl, hB112⟩
  have hB' := hB.trans (hB112.mono hB.size)
  clear hB hB112
  have hB := hB'
  clear hB'
  go_wp2_with fail
  refine (cmp_any v n k hn2 _).mono ?_
  rintro e w113 ⟨rfl, hB113⟩
  have hB' := hB.trans (hB113.mono hB.size)
  clear hB hB113
  have hB := hB'
  clear hB'
  go_wp2_with fail
  go_ret
  exact ⟨rfl, hB⟩

theorem tells_any (seed : BitVec 64) (p i n k : Int) (v : BitVec 64) (hn2 : n ≤ 9223372036854775807) (w : World) :
    Calls Try.prog 18 #[u seed, .int .i64 p, .int .i64 i, .int .i64 n, .int .i64 k, u v] w fun e w' => e = .returned (.bool true) ∧ Below w.heap.size w w' := by
  by_cases hp : p < 0 ∨ 65536 < p
  · exact tells_noP seed p i n k v hp w
  have p0 : 0 ≤ p := by omega
  have p1 : p ≤ 65536 := by omega
  by_cases hX : 281474976710656 < (findV seed p v).toNat
  · by_cases hi : i < 0 ∨ 281474976710656 < i
    · exact tells_lx seed p i n k v p0 p1 hn2 ⟨hX⟩ ⟨hi⟩ w
    · by_cases hn : n < 1
      · exact tells_lin seed p i n k v p0 p1 hn2 ⟨hX⟩ (by omega) (by omega) hn w
      · exact tells_liy seed p i n k v p0 p1 hn2 ⟨hX⟩ (by omega) (by omega) (by omega) w
  · have hx : ∃ x : Int, 0 ≤ x ∧ x ≤ 281474976710656 ∧ nv (findV seed p v) = x ∧ atV (keyV seed p) x = v := ⟨_, by unfold nv; omega, by unfold nv; omega, rfl, find_conv seed p v⟩
    obtain ⟨x, x0, x1, hx, hv⟩ := hx
    by_cases hi : i < 0 ∨ 281474976710656 < i
    · exact tells_sx seed p i n k x v p0 p1 hn2 x0 x1 ⟨hx⟩ ⟨hv⟩ ⟨hX⟩ ⟨hi⟩ w
    · by_cases hn : n < 1
      · exact tells_sin seed p i n k x v p0 p1 hn2 x0 x1 ⟨hx⟩ ⟨hv⟩ ⟨hX⟩ (by omega) (by omega) hn w
      · exact tells_siy seed p i n k x v p0 p1 hn2 x0 x1 ⟨hx⟩ ⟨hv⟩ ⟨hX⟩ (by omega) (by omega) (by omega) w

set_option maxRecDepth 100000 in
set_option maxHeartbeats 1000000 in
theorem rngTells_walk (seed : BitVec 64) (p i n k : Int) (v : BitVec 64) (hn2 : n ≤ 9223372036854775807) (w : World) :
    Calls Try.prog 7 #[u seed, .int .i64 p, .int .i64 i, .int .i64 n, .int .i64 k, u v] w fun e w' => e = .returned (.bool true) ∧ Below w.heap.size w w' := by
  go_enter Try.func7, Try.ntmps7
  go_wp2_with fail
  refine (tells_any seed p i n k v hn2 _).mono ?_
  rintro e w1 ⟨rfl, hB⟩
  go_wp2_with fail
  refine (awake_any _).mono ?_
  rintro e w2 ⟨rfl, hB2⟩
  have hB3 := hB.trans (hB2.mono hB.size)
  go_wp2_with fail
  go_ret
  exact ⟨rfl, hB3⟩
end Go.Proofs.Ytpioobaapigjcaa
