/- The laws' Ready. -/
import Derived.Test.YtmahjgffadbdcaaE1
namespace Go.Proofs.Ytmahjgffadbdcaa
open Go.RowKit
set_option linter.unusedVariables false

/-- A uint16 as a value. -/
def h16 (x : BitVec 16) : Value := .int .u16 (x.toNat : Int)
theorem h16_ofInt (x : BitVec 16) : BitVec.ofInt 16 (x.toNat : Int) = x := by
  apply BitVec.eq_of_toNat_eq
  rw [BitVec.toNat_ofInt]
  have := x.isLt
  omega
theorem h16_wrap (n : Int) : IntKind.u16.wrap n = ((BitVec.ofInt 16 n).toNat : Int) := by
  rw [BitVec.toNat_ofInt]
  simp [IntKind.wrap, IntKind.bits, IntKind.signed]
  omega
section
variable {P : Program} {w : World} (t : TypeId) (x y : BitVec 16)
theorem bop16_shr (n : Nat) : binOp .shr t (h16 x) (.int .i64 (n : Int)) = pure (h16 (x >>> n)) := by
  simp only [h16, binOp, Op.shift]
  rw [if_neg (by omega)]
  congr 2
  show Int.fdiv (x.toNat : Int) (2 ^ (min (n : Int).toNat 16)) = _
  rw [Int.fdiv_eq_ediv_of_nonneg _ (by exact_mod_cast Nat.zero_le _), BitVec.toNat_ushiftRight, Nat.shiftRight_eq_div_pow, Int.toNat_natCast]
  by_cases h' : n ≤ 16
  · rw [Nat.min_eq_left h']; simp
  · rw [Nat.min_eq_right (by omega)]
    have := x.isLt
    rw [Nat.div_eq_of_lt (Nat.lt_of_lt_of_le this (Nat.pow_le_pow_right (by decide) (by omega : 16 ≤ n)))]
    exact Int.ediv_eq_zero_of_lt (by omega) (by exact_mod_cast this)
theorem bop16_and : binOp .and t (h16 x) (h16 y) = pure (h16 (x &&& y)) := by
  simp only [h16, binOp, Op.intBits]
  simp only [ne_eq, not_true_eq_false, if_false]
  congr 2
  show IntKind.u16.wrap ((BitVec.ofInt 16 (x.toNat : Int) &&& BitVec.ofInt 16 (y.toNat : Int)).toNat : Int) = _
  rw [h16_ofInt, h16_ofInt, h16_wrap, h16_ofInt]
theorem bop16_or : binOp .or t (h16 x) (h16 y) = pure (h16 (x ||| y)) := by
  simp only [h16, binOp, Op.intBits]
  simp only [ne_eq, not_true_eq_false, if_false]
  congr 2
  show IntKind.u16.wrap ((BitVec.ofInt 16 (x.toNat : Int) ||| BitVec.ofInt 16 (y.toNat : Int)).toNat : Int) = _
  rw [h16_ofInt, h16_ofInt, h16_wrap, h16_ofInt]
theorem bop16_eql : binOp .eql t (h16 x) (h16 y) = pure (.bool (x == y)) := by
  simp only [h16, binOp, Op.intCmp]
  simp only [ne_eq, not_true_eq_false, if_false]
  congr 2
  rw [Bool.eq_iff_iff, beq_iff_eq, beq_iff_eq]; exact ⟨fun h => BitVec.eq_of_toNat_eq (by omega), fun h => by rw [h]⟩
end
theorem one16 : Value.int .u16 1 = h16 1#16 := rfl
theorem five16 : Value.int .u16 5 = h16 5#16 := rfl
theorem bit16 (x : BitVec 16) (k : Nat) : ((x >>> k) &&& 1#16 = 1#16) ↔ x.getLsbD k = true := by
  constructor
  · intro h
    have := congrArg (fun z => z.getLsbD 0) h
    simpa using this
  · intro h
    ext i hi
    rcases Nat.eq_zero_or_pos i with rfl | h0
    · simpa using h
    · simp; omega
theorem guard22 (op : BinOp) (x y : Operand) (a b : BitVec 16) (w : World) : (eqGuard op 22 x y (h16 a) (h16 b)).run Try.prog w = .ok () w := by
  unfold eqGuard h16; cases op <;> simp <;> rfl

def rdV (x : BitVec 16) (k : Nat) : List Int := (nums.take k).filter fun p => x.getLsbD (p - 1).toNat
def readyV (x : BitVec 16) : List Int := rdV x 16
theorem nums_at {k : Nat} (h : k < 16) : nums.take (k + 1) = nums.take k ++ [((k : Int) + 1)] := by
  have : k = 0 ∨ k = 1 ∨ k = 2 ∨ k = 3 ∨ k = 4 ∨ k = 5 ∨ k = 6 ∨ k = 7 ∨ k = 8 ∨ k = 9 ∨ k = 10 ∨ k = 11 ∨ k = 12 ∨ k = 13 ∨ k = 14 ∨ k = 15 := by omega
  rcases this with rfl | rfl | rfl | rfl | rfl | rfl | rfl | rfl | rfl | rfl | rfl | rfl | rfl | rfl | rfl | rfl <;> rfl
theorem rd_succ (x : BitVec 16) {k : Nat} (h : k < 16) : rdV x (k + 1) = rdV x k ++ if x.getLsbD k then [(k : Int) + 1] else [] := by
  rw [rdV, nums_at h, List.filter_append, rdV]
  congr 1
  rw [List.filter_cons, show (k : Int) + 1 - 1 = (k : Int) by omega, Int.toNat_natCast, List.filter_nil]
theorem rd_len (x : BitVec 16) (k : Nat) : (rdV x k).length ≤ 16 := by
  refine Nat.le_trans (List.length_filter_le _ _) ?_
  rw [List.length_take]; exact Nat.min_le_right _ _
theorem ready_asc (x : BitVec 16) : asc (readyV x) := List.Pairwise.sublist List.filter_sublist (by decide : asc (nums.take 16))
theorem ready_ok (x : BitVec 16) : OkO (readyV x) := ⟨fun p hp => (nums_mem p).1 (List.mem_of_mem_take (List.mem_filter.1 hp).1), (ready_asc x).nodup⟩
theorem ready_right (x : BitVec 16) : rightB (readyV x) = true := by
  rw [rightB, Bool.and_eq_true]; exact ⟨decide_eq_true (ready_ok x), decide_eq_true (ready_asc x)⟩

set_option maxRecDepth 100000 in
set_option maxHeartbeats 1000000 in
theorem ready_any (x : BitVec 16) (w : World) : Calls Try.prog 11 #[h16 x] w fun e w' => ∃ v', e = .returned v' ∧ OwnI w' w.heap.size v' (readyV x) ∧ Below w.heap.size w w' := by
  have h1 : ∀ (k : Nat), binOp .shr 22 (h16 x) (.int .i64 (k : Int)) = pure (h16 (x >>> k)) := fun k => bop16_shr 22 x k
  have h2 : ∀ y : BitVec 16, binOp .and 22 (h16 y) (.int .u16 1) = pure (h16 (y &&& 1#16)) := fun y => by rw [one16]; exact bop16_and 22 y 1#16
  have h3 : ∀ y : BitVec 16, binOp .eql 22 (h16 y) (.int .u16 1) = pure (.bool (y == 1#16)) := fun y => by rw [one16]; exact bop16_eql 22 y 1#16
  have h4 : ∀ (op : BinOp) (p q : Operand) (a : BitVec 16) (W : World), (eqGuard op 22 p q (h16 a) (.int .u16 1)).run Try.prog W = .ok () W := fun op p q a W => by rw [one16]; exact guard22 op p q a 1#16 W
  go_enter Try.func11, Try.ntmps11
  go_wp2_with fail
  go_loopw [3, 5] (fun v i W => ∃ k : Nat, k ≤ 16 ∧ i = .int .i64 k ∧ AppI W w.heap.size v (rdV x k) ∧ Below w.heap.size w W) (fun _ i _ => 16 - (intOf i).toNat)
  case atStart => exact ⟨0, by omega, rfl, OwnE.nil _ _ _ _, Below.refl _ _⟩
  case round =>
    obtain ⟨k, hk, rfl, hO, hB⟩ := hrel
    by_cases hlt : k < 16
    · have k0 : (0 : Int) ≤ (k : Int) := by omega
      have k1 : (k : Int) < 16 := by omega
      have HS := Hd.mk (rd_succ x hlt)
      have HO := Hd.mk hO
      have HB := Hd.mk hB
      obtain ⟨v', w2, hr, ho2, hB2, hg2⟩ := push_i ((k : Int) + 1) hO hB hB.size (by have := rd_len x k; omega)
      have HO2 := Hd.mk ho2
      have HB2 := Hd.mk hB2
      clear hO hB ho2 hB2 hg2
      obtain ⟨b, hb⟩ : ∃ b, (x >>> k &&& 1#16 == 1#16) = b := ⟨_, rfl⟩
      have HBT : Hd (x.getLsbD k = b) := ⟨by
        rw [← hb, Bool.eq_iff_iff, beq_iff_eq]; exact (bit16 x k).symm⟩
      rw [HBT.out] at HS
      cases b
      · go_wp2_with fail
        go_roundw
        case rel => exact ⟨k + 1, by omega, by go_num, by rw [HS.out]; simpa using HO.out, HB.out⟩
        case measure => simp [intOf]; omega
      · go_wp2_with (at_builtin; refine wpList_append_run rfl _ _ _ rfl rfl rfl hr ?_; clear hr)
        go_roundw
        case rel => exact ⟨k + 1, by omega, by go_num, by rw [HS.out]; simpa using HO2.out, HB2.out⟩
        case measure => simp [intOf]; omega
    · obtain rfl : k = 16 := by omega
      go_wp2_with fail
      go_ret
      exact ⟨_, rfl, OwnI.of hO, hB⟩
end Go.Proofs.Ytmahjgffadbdcaa
