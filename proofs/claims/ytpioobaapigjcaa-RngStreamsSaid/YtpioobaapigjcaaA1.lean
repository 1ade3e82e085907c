/- Walks of rng.upper, Below, at, Key, Value, Draw. -/
import Derived.Test.YtpioobaapigjcaaMix
import Derived.Test.YtpioobaapigjcaaRP
import Derived.Test.YtpioobaapigjcaaS
import Derived.Outline
namespace Go.Proofs.Ytpioobaapigjcaa
open Go.RowKit

set_option maxHeartbeats 400000 in
theorem upper_any (v n : BitVec 64) (w : World) :
    Calls Try.prog 32 #[u v, u n] w fun e w' => e = .returned (u (upV v n)) ∧ w = w' := by
  go_enter Try.func32, Try.ntmps32
  go_wp2
  go_ret
  exact ⟨rfl, rfl⟩

theorem below_num (v : BitVec 64) (n : Int) (h1 : 1 ≤ n) (h2 : n ≤ 9223372036854775807) :
    IntKind.i64.wrap (nv (upV v (BitVec.ofInt 64 n))) = (blw v.toNat n.toNat : Int) := by
  have h3 : (BitVec.ofInt 64 n).toNat = n.toNat := by rw [BitVec.toNat_ofInt]; omega
  have h4 := blw_lt v.toNat n.toNat v.isLt (by omega)
  rw [nv, up_nat, h3]
  show IntKind.i64.wrap ((blw v.toNat n.toNat : Nat) : Int) = _
  rw [wrap_i64_toInt, BitVec.toInt_ofInt, Int.bmod_eq_of_le (by omega) (by omega)]

set_option maxHeartbeats 400000 in
theorem Below_yes (v : BitVec 64) (n : Int) (h1 : 1 ≤ n) (h2 : n ≤ 9223372036854775807) (w : World) :
    Calls Try.prog 16 #[u v, .int .i64 n] w fun e w' => e = .returned (.tuple #[.int .i64 (blw v.toNat n.toNat), .int .i64 0]) ∧ w = w' := by
  have hb := below_num v n h1 h2
  go_enter Try.func16, Try.ntmps16
  go_wp2_with fail
  rw [u_ofInt_int n (by omega) (by omega)]
  refine (upper_any v _ _).mono ?_
  rintro e w' ⟨rfl, rfl⟩
  go_wp2_with fail
  go_ret2
  exact ⟨rfl, rfl⟩

set_option maxHeartbeats 400000 in
theorem Below_no (v : BitVec 64) (n : Int) (h1 : n < 1) (w : World) :
    Calls Try.prog 16 #[u v, .int .i64 n] w fun e w' => e = .returned (.tuple #[.int .i64 0, .int .i64 60]) ∧ w = w' := by
  go_enter Try.func16, Try.ntmps16
  go_wp2_with fail
  go_ret2
  exact ⟨rfl, rfl⟩

def atV (key : BitVec 64) (i : Int) : BitVec 64 := mixV (key + BitVec.ofInt 64 ((i + 1) * 11400714819323198485))

set_option maxHeartbeats 400000 in
theorem at_any (key : BitVec 64) (i : Int) (h0 : 0 ≤ i) (h1 : i ≤ 281474976710656) (w : World) :
    Calls Try.prog 29 #[u key, .int .i64 i] w fun e w' => e = .returned (u (atV key i)) ∧ w = w' := by
  go_enter Try.func29, Try.ntmps29
  go_wp2_with fail
  refine (mix_any _ _).mono ?_
  rintro e w' ⟨rfl, rfl⟩
  go_wp2_with fail
  go_ret
  exact ⟨rfl, rfl⟩

def keyV (seed : BitVec 64) (p : Int) : BitVec 64 := joinV [seed, BitVec.ofInt 64 p]

set_option maxHeartbeats 400000 in
theorem Key_yes (seed : BitVec 64) (p : Int) (h0 : 0 ≤ p) (h1 : p ≤ 65536) (w : World) :
    Calls Try.prog 17 #[u seed, .int .i64 p] w fun e w' => e = .returned (.tuple #[u (keyV seed p), .int .i64 0]) ∧ Below w.heap.size w w' := by
  have hp := u_ofInt_int p h0 (by omega)
  have HP := Hd.mk hp
  clear hp
  go_enter Try.func17, Try.ntmps17
  go_wp2_with fail
  rw [HP.out]
  refine (join_any _ [seed, BitVec.ofInt 64 p] _ ?_ (by simp)).mono ?_
  · exact .inr ⟨⟨w.heap.size, 0, none⟩, 2, rfl, by simp, by simp [maxLen], fun j hj => by
      rw [plain_add, Nat.zero_add, cells_cell (World.alloc_heap_new w _) j]
      have hj' : j = 0 ∨ j = 1 := by simp at hj; omega
      rcases hj' with rfl | rfl <;> rfl⟩
  rintro e w' ⟨rfl, rfl⟩
  go_wp2_with fail
  go_ret2
  exact ⟨rfl, (Below.refl _ _).alloc (Nat.le_refl _) _⟩

set_option maxHeartbeats 400000 in
theorem Key_no (seed : BitVec 64) (p : Int) (h : p < 0 ∨ 65536 < p) (w : World) :
    Calls Try.prog 17 #[u seed, .int .i64 p] w fun e w' => e = .returned (.tuple #[.int .u64 0, .int .i64 2]) ∧ Below w.heap.size w w' := by
  rcases h with h | h
  · go_enter Try.func17, Try.ntmps17
    go_wp2_with fail
    go_ret2
    exact ⟨rfl, Below.refl _ _⟩
  · have h1 : ¬ p < 0 := by omega
    go_enter Try.func17, Try.ntmps17
    go_wp2_with fail
    go_ret2
    exact ⟨rfl, Below.refl _ _⟩

set_option maxHeartbeats 400000 in
theorem Value_yes (seed : BitVec 64) (p i : Int) (h0 : 0 ≤ p) (h1 : p ≤ 65536) (h2 : 0 ≤ i) (h3 : i ≤ 281474976710656) (w : World) :
    Calls Try.prog 12 #[u seed, .int .i64 p, .int .i64 i] w fun e w' => e = .returned (.tuple #[u (atV (keyV seed p) i), .int .i64 0]) ∧ Below w.heap.size w w' := by
  go_enter Try.func12, Try.ntmps12
  go_wp2_with fail
  refine (Key_yes seed p h0 h1 _).mono ?_
  rintro e w1 ⟨rfl, hB⟩
  go_wp2_with fail
  refine (at_any _ i h2 h3 _).mono ?_
  rintro e w2 ⟨rfl, rfl⟩
  go_wp2_with fail
  go_ret2
  exact ⟨rfl, hB⟩

set_option maxHeartbeats 400000 in
theorem Value_no1 (seed : BitVec 64) (p i : Int) (h : p < 0 ∨ 65536 < p) (w : World) :
    Calls Try.prog 12 #[u seed, .int .i64 p, .int .i64 i] w fun e w' => e = .returned (.tuple #[.int .u64 0, .int .i64 2]) ∧ Below w.heap.size w w' := by
  go_enter Try.func12, Try.ntmps12
  go_wp2_with fail
  refine (Key_no seed p h _).mono ?_
  rintro e w1 ⟨rfl, hB⟩
  go_wp2_with fail
  go_ret2
  exact ⟨rfl, hB⟩

set_option maxHeartbeats 400000 in
theorem Value_no2 (seed : BitVec 64) (p i : Int) (h0 : 0 ≤ p) (h1 : p ≤ 65536) (h : i < 0 ∨ 281474976710656 < i) (w : World) :
    Calls Try.prog 12 #[u seed, .int .i64 p, .int .i64 i] w fun e w' => e = .returned (.tuple #[.int .u64 0, .int .i64 2]) ∧ Below w.heap.size w w' := by
  rcases h with h | h
  · go_enter Try.func12, Try.ntmps12
    go_wp2_with fail
    refine (Key_yes seed p h0 h1 _).mono ?_
    rintro e w1 ⟨rfl, hB⟩
    go_wp2_with fail
    go_ret2
    exact ⟨rfl, hB⟩
  · have hn : ¬ i < 0 := by omega
    go_enter Try.func12, Try.ntmps12
    go_wp2_with fail
    refine (Key_yes seed p h0 h1 _).mono ?_
    rintro e w1 ⟨rfl, hB⟩
    go_wp2_with fail
    go_ret2
    exact ⟨rfl, hB⟩

theorem Value_no (seed : BitVec 64) (p i : Int) (h : (p < 0 ∨ 65536 < p) ∨ (i < 0 ∨ 281474976710656 < i)) (w : World) :
    Calls Try.prog 12 #[u seed, .int .i64 p, .int .i64 i] w fun e w' => e = .returned (.tuple #[.int .u64 0, .int .i64 2]) ∧ Below w.heap.size w w' := by
  by_cases hp : p < 0 ∨ 65536 < p
  · exact Value_no1 seed p i hp w
  · exact Value_no2 seed p i (by omega) (by omega) (h.resolve_left hp) w

set_option maxHeartbeats 400000 in
theorem Draw_yes (seed : BitVec 64) (p i n : Int) (h0 : 0 ≤ p) (h1 : p ≤ 65536) (h2 : 0 ≤ i) (h3 : i ≤ 281474976710656) (h4 : 1 ≤ n) (h5 : n ≤ 9223372036854775807) (w : World) :
    Calls Try.prog 28 #[u seed, .int .i64 p, .int .i64 i, .int .i64 n] w fun e w' => e = .returned (.tuple #[.int .i64 (blw (atV (keyV seed p) i).toNat n.toNat), .int .i64 0]) ∧ Below w.heap.size w w' := by
  go_enter Try.func28, Try.ntmps28
  go_wp2_with fail
  refine (Value_yes seed p i h0 h1 h2 h3 _).mono ?_
  rintro e w1 ⟨rfl, hB⟩
  go_wp2_with fail
  refine (Below_yes _ n h4 h5 _).mono ?_
  rintro e w2 ⟨rfl, rfl⟩
  go_wp2_with fail
  go_ret2
  exact ⟨rfl, hB⟩

set_option maxHeartbeats 400000 in
theorem Draw_no1 (seed : BitVec 64) (p i n : Int) (h : (p < 0 ∨ 65536 < p) ∨ (i < 0 ∨ 281474976710656 < i)) (w : World) :
    Calls Try.prog 28 #[u seed, .int .i64 p, .int .i64 i, .int .i64 n] w fun e w' => e = .returned (.tuple #[.int .i64 0, .int .i64 2]) ∧ Below w.heap.size w w' := by
  have H := Hd.mk h
  clear h
  go_enter Try.func28, Try.ntmps28
  go_wp2_with fail
  refine (Value_no seed p i H.out _).mono ?_
  rintro e w1 ⟨rfl, hB⟩
  go_wp2_with fail
  go_ret2
  exact ⟨rfl, hB⟩

set_option maxHeartbeats 400000 in
theorem Draw_no2 (seed : BitVec 64) (p i n : Int) (h0 : 0 ≤ p) (h1 : p ≤ 65536) (h2 : 0 ≤ i) (h3 : i ≤ 281474976710656) (h4 : n < 1) (w : World) :
    Calls Try.prog 28 #[u seed, .int .i64 p, .int .i64 i, .int .i64 n] w fun e w' => e = .returned (.tuple #[.int .i64 0, .int .i64 60]) ∧ Below w.heap.size w w' := by
  go_enter Try.func28, Try.ntmps28
  go_wp2_with fail
  refine (Value_yes seed p i h0 h1 h2 h3 _).mono ?_
  rintro e w1 ⟨rfl, hB⟩
  go_wp2_with fail
  refine (Below_no _ n h4 _).mono ?_
  rintro e w2 ⟨rfl, rfl⟩
  go_wp2_with fail
  go_ret2
  exact ⟨rfl, hB⟩
end Go.Proofs.Ytpioobaapigjcaa
