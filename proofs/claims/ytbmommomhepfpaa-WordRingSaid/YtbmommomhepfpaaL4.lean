/- Walk of the law WordRing. -/
import Derived.Test.YtbmommomhepfpaaW8
import Derived.Deep.QuietTactic
import Derived.BigQuiet
namespace Go.Proofs.Ytbmommomhepfpaa
open Go.RowKit

theorem and_xor (a b c : BitVec 64) : a &&& (b ^^^ c) = (a &&& b) ^^^ (a &&& c) := by ext i; simp; cases a[i] <;> cases b[i] <;> cases c[i] <;> rfl
theorem xor_and (a b : BitVec 64) : (a ^^^ b) ^^^ (a &&& b) = a ||| b := by ext i; simp; cases a[i] <;> cases b[i] <;> rfl
theorem xor_xor (a b : BitVec 64) : (a ^^^ b) ^^^ b = a := by ext i; simp
theorem nat_and_or (n : Nat) : ∀ x y : Nat, x < 2 ^ n → (x &&& y) + (x ||| y) = x + y := by
  induction n with
  | zero => intro x y h; obtain rfl : x = 0 := by omega
            simp
  | succ n ih =>
    intro x y h
    have h1 : (x &&& y) / 2 = x / 2 &&& y / 2 := Nat.and_div_two
    have h2 : (x ||| y) / 2 = x / 2 ||| y / 2 := Nat.or_div_two
    have h3 := ih (x / 2) (y / 2) (by rw [Nat.pow_succ] at h; omega)
    have h4 : (x &&& y) % 2 = 1 ↔ x % 2 = 1 ∧ y % 2 = 1 := Nat.and_mod_two_eq_one
    have h5 : (x ||| y) % 2 = 1 ↔ x % 2 = 1 ∨ y % 2 = 1 := Nat.or_mod_two_eq_one
    omega
theorem and_add_or (a b : BitVec 64) : (a &&& b) + (a ||| b) = a + b := by
  apply BitVec.eq_of_toNat_eq
  rw [BitVec.toNat_add, BitVec.toNat_add, BitVec.toNat_and, BitVec.toNat_or, nat_and_or 64 _ _ a.isLt]
theorem do_7_neg (a : BitVec 64) (w : World) :
    Calls Try.prog 16 #[.int .u8 7, s a, .int .i64 (-1)] w fun e w' => e = .returned (s a) ∧ Below w.heap.size w w' := by
  have := do_7 a (BitVec.ofInt 64 (-1)) w
  rw [← s_ofInt_int (-1) (by decide) (by decide), show a &&& BitVec.ofInt 64 (-1) = a from BitVec.and_allOnes] at this
  exact this
def ringC : Array Value := #[.int .u8 1, .int .u8 3, .int .u8 9, .int .u8 7]

set_option maxRecDepth 100000 in
set_option maxHeartbeats 8000000 in
theorem wordRing_walk (a b c : BitVec 64) (w : World) :
    Calls Try.prog 5 #[s a, s b, s c] w fun e w' => e = .returned (.bool true) ∧ Below w.heap.size w w' := by
  go_enter Try.func5, Try.ntmps5
  go_wp2_with fail
  obtain ⟨w1, hw1⟩ : ∃ w1, w1 = w.alloc (.cells ringC 28) := ⟨_, rfl⟩
  have hsz1 : w.heap.size < w1.heap.size := by rw [hw1]; simp
  have HW := Hd.mk hw1
  clear hw1
  go_loopw [17] (fun i W => ∃ k : Nat, k ≤ 2 ∧ i = .int .i64 k ∧ Below w1.heap.size w1 W) (fun i _ => 2 - (intOf i).toNat)
  case atStart => exact ⟨0, by omega, rfl, by rw [HW.out]; exact Below.refl _ _⟩
  case round =>
    obtain ⟨k, hk, rfl, hB⟩ := hrel
    have hcell : ∀ j v, ringC[j]? = some v → wr.cell? ⟨w.heap.size, j, none⟩ = some v := fun j v hv => by
      rw [← hv, hB.cell (p := ⟨w.heap.size, j, none⟩) hsz1, HW.out]
      exact cells_cell (World.alloc_heap_new w _) j
    have hk' : k = 0 ∨ k = 1 ∨ k = 2 := by omega
    clear hk
    rcases hk' with rfl | rfl | rfl
    · rw [show ((0 : Nat) : Int) = 0 from rfl]
      have c0 : wr.cell? ⟨w.heap.size, 0, none⟩ = some (.int .u8 1) := hcell _ _ rfl
      have c1 : wr.cell? ⟨w.heap.size, 1, none⟩ = some (.int .u8 3) := hcell _ _ rfl
      have i0 : ∀ w, (Instr.index 28 (.agg #[.int .u8 1, .int .u8 3]) (.int .i64 0)).run Try.prog w = .ok (.int .u8 1) w := fun _ => by kernel_rfl
      have i1 : ∀ w, (Instr.index 28 (.agg #[.int .u8 1, .int .u8 3]) (.int .i64 1)).run Try.prog w = .ok (.int .u8 3) w := fun _ => by kernel_rfl
      clear hcell
      go_wp2_with fail
      go_quiet (fail)
      go_wp2_with fail
      have hBx : ∀ n, Below w1.heap.size w1 ((wr.alloc (.cells #[.int .u8 1, .int .u8 3] 28)).drewN n) := fun n => below_drewN (hB.alloc hB.size _) n
      clear hB c0 c1
      obtain ⟨wo, hwo⟩ : ∃ wo, wo = wr := ⟨_, rfl⟩
      rw [← hwo] at hBx ⊢
      clear hwo
      go_loopw [26] (fun j W => ∃ m : Nat, m ≤ 2 ∧ j = .int .i64 m ∧ Below w1.heap.size w1 W) (fun j _ => 2 - (intOf j).toNat)
      case atStart => exact ⟨0, by omega, rfl, hBx _⟩
      case round =>
        obtain ⟨m, hm, rfl, hB⟩ := hrel
        clear hBx
        have hm' : m = 0 ∨ m = 1 ∨ m = 2 := by omega
        clear hm
        rcases hm' with rfl | rfl | rfl
        · rw [show ((0 : Nat) : Int) = 0 from rfl]
          go_wp2_with fail
          refine (do_1 a b _).mono ?_
          rintro e w101 ⟨rfl, hB101⟩
          have hB' := hB.trans (hB101.mono hB.size)
          clear hB hB101
          have hB := hB'
          clear hB'
          go_wp2_with fail
          refine (do_1 b a _).mono ?_
          rintro e w102 ⟨rfl, hB102⟩
          rw [show b + a = a + b from by grind]
          have hB' := hB.trans (hB102.mono hB.size)
          clear hB hB102
          have hB := hB'
          clear hB'
          go_wp2_with fail
          refine (do_1 a b _).mono ?_
          rintro e w103 ⟨rfl, hB103⟩
          have hB' := hB.trans (hB103.mono hB.size)
          clear hB hB103
          have hB := hB'
          clear hB'
          go_wp2_with fail
          refine (do_1 _ c _).mono ?_
          rintro e w104 ⟨rfl, hB104⟩
          have hB' := hB.trans (hB104.mono hB.size)
          clear hB hB104
          have hB := hB'
          clear hB'
          go_wp2_with fail
          refine (do_1 b c _).mono ?_
          rintro e w105 ⟨rfl, hB105⟩
          have hB' := hB.trans (hB105.mono hB.size)
          clear hB hB105
          have hB := hB'
          clear hB'
          go_wp2_with fail
          refine (do_1 a _ _).mono ?_
          rintro e w106 ⟨rfl, hB106⟩
          rw [show a + (b + c) = a + b + c from by grind]
          have hB' := hB.trans (hB106.mono hB.size)
          clear hB hB106
          have hB := hB'
          clear hB'
          go_wp2_with fail
          go_roundw
          case rel => exact ⟨1, by omega, by rfl, hB⟩
          case measure => simp [intOf]
        · rw [show ((1 : Nat) : Int) = 1 from rfl]
          go_wp2_with fail
          refine (do_3 a b _).mono ?_
          rintro e w107 ⟨rfl, hB107⟩
          have hB' := hB.trans (hB107.mono hB.size)
          clear hB hB107
          have hB := hB'
          clear hB'
          go_wp2_with fail
          refine (do_3 b a _).mono ?_
          rintro e w108 ⟨rfl, hB108⟩
          rw [show b * a = a * b from by grind]
          have hB' := hB.trans (hB108.mono hB.size)
          clear hB hB108
          have hB := hB'
          clear hB'
          go_wp2_with fail
          refine (do_3 a b _).mono ?_
          rintro e w109 ⟨rfl, hB109⟩
          have hB' := hB.trans (hB109.mono hB.size)
          clear hB hB109
          have hB := hB'
          clear hB'
          go_wp2_with fail
          refine (do_3 _ c _).mono ?_
          rintro e w110 ⟨rfl, hB110⟩
          have hB' := hB.trans (hB110.mono hB.size)
          clear hB hB110
          have hB := hB'
          clear hB'
          go_wp2_with fail
          refine (do_3 b c _).mono ?_
          rintro e w111 ⟨rfl, hB111⟩
          have hB' := hB.trans (hB111.mono hB.size)
          clear hB hB111
          have hB := hB'
          clear hB'
          go_wp2_with fail
          refine (do_3 a _ _).mono ?_
          rintro e w112 ⟨rfl, hB112⟩
          rw [show a * (b * c) = a * b * c from by grind]
          have hB' := hB.trans (hB112.mono hB.size)
          clear hB hB112
          have hB := hB'
          clear hB'
          go_wp2_with fail
          go_roundw
          case rel => exact ⟨2, by omega, by rfl, hB⟩
          case measure => simp [intOf]
        · go_wp2_with fail
          refine (do_1 b c _).mono ?_
          rintro e w113 ⟨rfl, hB113⟩
          have hB' := hB.trans (hB113.mono hB.size)
          clear hB hB113
          have hB := hB'
          clear hB'
          go_wp2_with fail
          refine (do_3 a _ _).mono ?_
          rintro e w114 ⟨rfl, hB114⟩
          have hB' := hB.trans (hB114.mono hB.size)
          clear hB hB114
          have hB := hB'
          clear hB'
          go_wp2_with fail
          refine (do_3 a b _).mono ?_
          rintro e w115 ⟨rfl, hB115⟩
          have hB' := hB.trans (hB115.mono hB.size)
          clear hB hB115
          have hB := hB'
          clear hB'
          go_wp2_with fail
          refine (do_3 a c _).mono ?_
          rintro e w116 ⟨rfl, hB116⟩
          have hB' := hB.trans (hB116.mono hB.size)
          clear hB hB116
          have hB := hB'
          clear hB'
          go_wp2_with fail
          refine (do_1 _ _ _).mono ?_
          rintro e w117 ⟨rfl, hB117⟩
          rw [show a * b + (a * c) = a * (b + c) from by grind]
          have hB' := hB.trans (hB117.mono hB.size)
          clear hB hB117
          have hB := hB'
          clear hB'
          go_wp2_with fail
          refine (do_1 a 0#64 _).mono ?_
          rintro e w118 ⟨rfl, hB118⟩
          rw [BitVec.add_zero]
          have hB' := hB.trans (hB118.mono hB.size)
          clear hB hB118
          have hB := hB'
          clear hB'
          go_wp2_with fail
          refine (do_3 a 0#64 _).mono ?_
          rintro e w119 ⟨rfl, hB119⟩
          rw [BitVec.mul_zero]
          have hB' := hB.trans (hB119.mono hB.size)
          clear hB hB119
          have hB := hB'
          clear hB'
          go_wp2_with fail
          go_roundw
          case rel => exact ⟨1, by omega, by rfl, hB⟩
          case measure => simp [intOf]
    · rw [show ((1 : Nat) : Int) = 1 from rfl]
      have c0 : wr.cell? ⟨w.heap.size, 2, none⟩ = some (.int .u8 9) := hcell _ _ rfl
      have c1 : wr.cell? ⟨w.heap.size, 3, none⟩ = some (.int .u8 7) := hcell _ _ rfl
      have i0 : ∀ w, (Instr.index 28 (.agg #[.int .u8 9, .int .u8 7]) (.int .i64 0)).run Try.prog w = .ok (.int .u8 9) w := fun _ => by kernel_rfl
      have i1 : ∀ w, (Instr.index 28 (.agg #[.int .u8 9, .int .u8 7]) (.int .i64 1)).run Try.prog w = .ok (.int .u8 7) w := fun _ => by kernel_rfl
      clear hcell
      go_wp2_with fail
      go_quiet (fail)
      go_wp2_with fail
      have hBx : ∀ n, Below w1.heap.size w1 ((wr.alloc (.cells #[.int .u8 9, .int .u8 7] 28)).drewN n) := fun n => below_drewN (hB.alloc hB.size _) n
      clear hB c0 c1
      obtain ⟨wo, hwo⟩ : ∃ wo, wo = wr := ⟨_, rfl⟩
      rw [← hwo] at hBx ⊢
      clear hwo
      go_loopw [26] (fun j W => ∃ m : Nat, m ≤ 2 ∧ j = .int .i64 m ∧ Below w1.heap.size w1 W) (fun j _ => 2 - (intOf j).toNat)
      case atStart => exact ⟨0, by omega, rfl, hBx _⟩
      case round =>
        obtain ⟨m, hm, rfl, hB⟩ := hrel
        clear hBx
        have hm' : m = 0 ∨ m = 1 ∨ m = 2 := by omega
        clear hm
        rcases hm' with rfl | rfl | rfl
        · rw [show ((0 : Nat) : Int) = 0 from rfl]
          go_wp2_with fail
          refine (do_9 a b _).mono ?_
          rintro e w101 ⟨rfl, hB101⟩
          have hB' := hB.trans (hB101.mono hB.size)
          clear hB hB101
          have hB := hB'
          clear hB'
          go_wp2_with fail
          refine (do_9 b a _).mono ?_
          rintro e w102 ⟨rfl, hB102⟩
          rw [show b ^^^ a = a ^^^ b from by grind]
          have hB' := hB.trans (hB102.mono hB.size)
          clear hB hB102
          have hB := hB'
          clear hB'
          go_wp2_with fail
          refine (do_9 a b _).mono ?_
          rintro e w103 ⟨rfl, hB103⟩
          have hB' := hB.trans (hB103.mono hB.size)
          clear hB hB103
          have hB := hB'
          clear hB'
          go_wp2_with fail
          refine (do_9 _ c _).mono ?_
          rintro e w104 ⟨rfl, hB104⟩
          have hB' := hB.trans (hB104.mono hB.size)
          clear hB hB104
          have hB := hB'
          clear hB'
          go_wp2_with fail
          refine (do_9 b c _).mono ?_
          rintro e w105 ⟨rfl, hB105⟩
          have hB' := hB.trans (hB105.mono hB.size)
          clear hB hB105
          have hB := hB'
          clear hB'
          go_wp2_with fail
          refine (do_9 a _ _).mono ?_
          rintro e w106 ⟨rfl, hB106⟩
          rw [show a ^^^ (b ^^^ c) = a ^^^ b ^^^ c from by rw [BitVec.xor_assoc]]
          have hB' := hB.trans (hB106.mono hB.size)
          clear hB hB106
          have hB := hB'
          clear hB'
          go_wp2_with fail
          go_roundw
          case rel => exact ⟨1, by omega, by rfl, hB⟩
          case measure => simp [intOf]
        · rw [show ((1 : Nat) : Int) = 1 from rfl]
          go_wp2_with fail
          refine (do_7 a b _).mono ?_
          rintro e w107 ⟨rfl, hB107⟩
          have hB' := hB.trans (hB107.mono hB.size)
          clear hB hB107
          have hB := hB'
          clear hB'
          go_wp2_with fail
          refine (do_7 b a _).mono ?_
          rintro e w108 ⟨rfl, hB108⟩
          rw [show b &&& a = a &&& b from by grind]
          have hB' := hB.trans (hB108.mono hB.size)
          clear hB hB108
          have hB := hB'
          clear hB'
          go_wp2_with fail
          refine (do_7 a b _).mono ?_
          rintro e w109 ⟨rfl, hB109⟩
          have hB' := hB.trans (hB109.mono hB.size)
          clear hB hB109
          have hB := hB'
          clear hB'
          go_wp2_with fail
          refine (do_7 _ c _).mono ?_
          rintro e w110 ⟨rfl, hB110⟩
          have hB' := hB.trans (hB110.mono hB.size)
          clear hB hB110
          have hB := hB'
          clear hB'
          go_wp2_with fail
          refine (do_7 b c _).mono ?_
          rintro e w111 ⟨rfl, hB111⟩
          have hB' := hB.trans (hB111.mono hB.size)
          clear hB hB111
          have hB := hB'
          clear hB'
          go_wp2_with fail
          refine (do_7 a _ _).mono ?_
          rintro e w112 ⟨rfl, hB112⟩
          rw [show a &&& (b &&& c) = a &&& b &&& c from by rw [BitVec.and_assoc]]
          have hB' := hB.trans (hB112.mono hB.size)
          clear hB hB112
          have hB := hB'
          clear hB'
          go_wp2_with fail
          go_roundw
          case rel => exact ⟨2, by omega, by rfl, hB⟩
          case measure => simp [intOf]
        · go_wp2_with fail
          refine (do_9 b c _).mono ?_
          rintro e w113 ⟨rfl, hB113⟩
          have hB' := hB.trans (hB113.mono hB.size)
          clear hB hB113
          have hB := hB'
          clear hB'
          go_wp2_with fail
          refine (do_7 a _ _).mono ?_
          rintro e w114 ⟨rfl, hB114⟩
          have hB' := hB.trans (hB114.mono hB.size)
          clear hB hB114
          have hB := hB'
          clear hB'
          go_wp2_with fail
          refine (do_7 a b _).mono ?_
          rintro e w115 ⟨rfl, hB115⟩
          have hB' := hB.trans (hB115.mono hB.size)
          clear hB hB115
          have hB := hB'
          clear hB'
          go_wp2_with fail
          refine (do_7 a c _).mono ?_
          rintro e w116 ⟨rfl, hB116⟩
          have hB' := hB.trans (hB116.mono hB.size)
          clear hB hB116
          have hB := hB'
          clear hB'
          go_wp2_with fail
          refine (do_9 _ _ _).mono ?_
          rintro e w117 ⟨rfl, hB117⟩
          rw [show a &&& b ^^^ (a &&& c) = a &&& (b ^^^ c) from (and_xor a b c).symm]
          have hB' := hB.trans (hB117.mono hB.size)
          clear hB hB117
          have hB := hB'
          clear hB'
          go_wp2_with fail
          refine (do_9 a 0#64 _).mono ?_
          rintro e w118 ⟨rfl, hB118⟩
          rw [BitVec.xor_zero]
          have hB' := hB.trans (hB118.mono hB.size)
          clear hB hB118
          have hB := hB'
          clear hB'
          go_wp2_with fail
          refine (do_7 a 0#64 _).mono ?_
          rintro e w119 ⟨rfl, hB119⟩
          rw [BitVec.and_zero]
          have hB' := hB.trans (hB119.mono hB.size)
          clear hB hB119
          have hB := hB'
          clear hB'
          go_wp2_with fail
          go_roundw
          case rel => exact ⟨2, by omega, by rfl, hB⟩
          case measure => simp [intOf]
    · rw [show ((2 : Nat) : Int) = 2 from rfl]
      have hB' : Below w.heap.size w wr := (by rw [HW.out]; exact (Below.refl _ _).alloc (Nat.le_refl _) _ : Below w.heap.size w w1).trans (hB.mono (by omega))
      clear hB hcell
      have hB := hB'
      clear hB'
      go_wp2_with fail
      refine (do_1 a b _).mono ?_
      rintro e w101 ⟨rfl, hB101⟩
      have hB' := hB.trans (hB101.mono hB.size)
      clear hB hB101
      have hB := hB'
      clear hB'
      go_wp2_with fail
      refine (do_2 _ b _).mono ?_
      rintro e w102 ⟨rfl, hB102⟩
      rw [show a + b - b = a from by grind]
      have hB' := hB.trans (hB102.mono hB.size)
      clear hB hB102
      have hB := hB'
      clear hB'
      go_wp2_with fail
      refine (do_9 a b _).mono ?_
      rintro e w103 ⟨rfl, hB103⟩
      have hB' := hB.trans (hB103.mono hB.size)
      clear hB hB103
      have hB := hB'
      clear hB'
      go_wp2_with fail
      refine (do_9 _ b _).mono ?_
      rintro e w104 ⟨rfl, hB104⟩
      rw [xor_xor a b]
      have hB' := hB.trans (hB104.mono hB.size)
      clear hB hB104
      have hB := hB'
      clear hB'
      go_wp2_with fail
      refine (do_3 a 1#64 _).mono ?_
      rintro e w105 ⟨rfl, hB105⟩
      rw [BitVec.mul_one]
      have hB' := hB.trans (hB105.mono hB.size)
      clear hB hB105
      have hB := hB'
      clear hB'
      go_wp2_with fail
      refine (do_7_neg a _).mono ?_
      rintro e w106 ⟨rfl, hB106⟩
      have hB' := hB.trans (hB106.mono hB.size)
      clear hB hB106
      have hB := hB'
      clear hB'
      go_wp2_with fail
      refine (do_8 a b _).mono ?_
      rintro e w107 ⟨rfl, hB107⟩
      have hB' := hB.trans (hB107.mono hB.size)
      clear hB hB107
      have hB := hB'
      clear hB'
      go_wp2_with fail
      refine (do_9 a b _).mono ?_
      rintro e w108 ⟨rfl, hB108⟩
      have hB' := hB.trans (hB108.mono hB.size)
      clear hB hB108
      have hB := hB'
      clear hB'
      go_wp2_with fail
      refine (do_7 a b _).mono ?_
      rintro e w109 ⟨rfl, hB109⟩
      have hB' := hB.trans (hB109.mono hB.size)
      clear hB hB109
      have hB := hB'
      clear hB'
      go_wp2_with fail
      refine (do_9 _ _ _).mono ?_
      rintro e w110 ⟨rfl, hB110⟩
      rw [xor_and a b]
      have hB' := hB.trans (hB110.mono hB.size)
      clear hB hB110
      have hB := hB'
      clear hB'
      go_wp2_with fail
      refine (do_7 a b _).mono ?_
      rintro e w111 ⟨rfl, hB111⟩
      have hB' := hB.trans (hB111.mono hB.size)
      clear hB hB111
      have hB := hB'
      clear hB'
      go_wp2_with fail
      refine (do_8 a b _).mono ?_
      rintro e w112 ⟨rfl, hB112⟩
      have hB' := hB.trans (hB112.mono hB.size)
      clear hB hB112
      have hB := hB'
      clear hB'
      go_wp2_with fail
      refine (do_1 _ _ _).mono ?_
      rintro e w113 ⟨rfl, hB113⟩
      rw [and_add_or a b]
      have hB' := hB.trans (hB113.mono hB.size)
      clear hB hB113
      have hB := hB'
      clear hB'
      go_wp2_with fail
      refine (do_1 a b _).mono ?_
      rintro e w114 ⟨rfl, hB114⟩
      have hB' := hB.trans (hB114.mono hB.size)
      clear hB hB114
      have hB := hB'
      clear hB'
      go_wp2_with fail
      refine (awake_any _).mono ?_
      rintro e w115 ⟨rfl, hB115⟩
      have hB' := hB.trans (hB115.mono hB.size)
      clear hB hB115
      have hB := hB'
      clear hB'
      go_wp2_with fail
      go_ret
      exact ⟨rfl, hB⟩
end Go.Proofs.Ytbmommomhepfpaa
