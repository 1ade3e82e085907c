/- int64 values as bit vectors: rules for the walk's operations on them. -/
import Derived.Test.YtbmommomhepfpaaU
import Derived.OpenShut
import Derived.Laws.Small
namespace Go.Proofs.Ytbmommomhepfpaa
open Go.RowKit

/-- An int64 as a value. -/
def s (x : BitVec 64) : Value := .int .i64 x.toInt

theorem s_mk (n : Int) : Value.int .i64 (IntKind.i64.wrap n) = s (BitVec.ofInt 64 n) := by rw [s, wrap_i64_toInt]
theorem ret_s {x y : BitVec 64} (h : x = y) : Ending.returned (s x) = .returned (s y) := by rw [h]

theorem s_ofInt_int (p : Int) (h0 : -9223372036854775808 ≤ p) (h1 : p ≤ 9223372036854775807) : Value.int .i64 p = s (BitVec.ofInt 64 p) := by
  rw [s, BitVec.toInt_ofInt, Int.bmod_eq_of_le (by omega) (by omega)]
@[go_sem] theorem bop_sint_right (op : BinOp) (t : TypeId) (x : BitVec 64) (p : Int) (h0 : -9223372036854775808 ≤ p) (h1 : p ≤ 9223372036854775807) :
    binOp op t (s x) (Value.int .i64 p) = binOp op t (s x) (s (BitVec.ofInt 64 p)) := by rw [s_ofInt_int p h0 h1]
@[go_sem] theorem bop_sint_left (op : BinOp) (t : TypeId) (x : BitVec 64) (p : Int) (h0 : -9223372036854775808 ≤ p) (h1 : p ≤ 9223372036854775807) :
    binOp op t (Value.int .i64 p) (s x) = binOp op t (s (BitVec.ofInt 64 p)) (s x) := by rw [s_ofInt_int p h0 h1]
theorem s_open {n : Int} (h : (Lit.int .i64 n).wf = true) : ∃ x : BitVec 64, Value.int .i64 n = s x :=
  ⟨BitVec.ofInt 64 n, by have hb := bounds_i64 h; exact s_ofInt_int n (by omega) (by omega)⟩

section
variable (t : TypeId) (x y : BitVec 64)
@[go_sem] theorem bops_add : binOp .add t (s x) (s y) = pure (s (x + y)) := by
  simp only [s, binOp, Op.intArith]
  simp only [ne_eq, not_true_eq_false, if_false]
  congr 2
  rw [wrap_i64_toInt, BitVec.ofInt_add, BitVec.ofInt_toInt, BitVec.ofInt_toInt]
@[go_sem] theorem bops_sub : binOp .sub t (s x) (s y) = pure (s (x - y)) := by
  simp only [s, binOp, Op.intArith]
  simp only [ne_eq, not_true_eq_false, if_false]
  congr 2
  rw [wrap_i64_toInt, Int.sub_eq_add_neg, BitVec.ofInt_add, BitVec.ofInt_neg, BitVec.ofInt_toInt, BitVec.ofInt_toInt, BitVec.sub_eq_add_neg]
@[go_sem] theorem bops_mul : binOp .mul t (s x) (s y) = pure (s (x * y)) := by
  simp only [s, binOp, Op.intArith]
  simp only [ne_eq, not_true_eq_false, if_false]
  congr 2
  rw [wrap_i64_toInt, BitVec.ofInt_mul, BitVec.ofInt_toInt, BitVec.ofInt_toInt]
theorem wrap_i64_nat (z : BitVec 64) : IntKind.i64.wrap (z.toNat : Int) = z.toInt := by rw [wrap_i64_toInt, u_ofInt]
@[go_sem] theorem bops_xor : binOp .xor t (s x) (s y) = pure (s (x ^^^ y)) := by
  simp only [s, binOp, Op.intBits]
  simp only [ne_eq, not_true_eq_false, if_false]
  congr 2
  show IntKind.i64.wrap ((BitVec.ofInt 64 x.toInt ^^^ BitVec.ofInt 64 y.toInt).toNat : Int) = _
  rw [BitVec.ofInt_toInt, BitVec.ofInt_toInt, wrap_i64_nat]
@[go_sem] theorem bops_and : binOp .and t (s x) (s y) = pure (s (x &&& y)) := by
  simp only [s, binOp, Op.intBits]
  simp only [ne_eq, not_true_eq_false, if_false]
  congr 2
  show IntKind.i64.wrap ((BitVec.ofInt 64 x.toInt &&& BitVec.ofInt 64 y.toInt).toNat : Int) = _
  rw [BitVec.ofInt_toInt, BitVec.ofInt_toInt, wrap_i64_nat]
@[go_sem] theorem bops_or : binOp .or t (s x) (s y) = pure (s (x ||| y)) := by
  simp only [s, binOp, Op.intBits]
  simp only [ne_eq, not_true_eq_false, if_false]
  congr 2
  show IntKind.i64.wrap ((BitVec.ofInt 64 x.toInt ||| BitVec.ofInt 64 y.toInt).toNat : Int) = _
  rw [BitVec.ofInt_toInt, BitVec.ofInt_toInt, wrap_i64_nat]
theorem toInt_ne_zero {y : BitVec 64} (h : ¬ y = 0#64) : ¬ (y.toInt = 0) := fun e => h (BitVec.eq_of_toInt_eq (by simpa using e))
@[go_sem] theorem bops_rem (h : ¬ y = 0#64) : binOp .rem t (s x) (s y) = pure (s (x.srem y)) := by
  have h' := toInt_ne_zero h
  simp only [s, binOp, Op.intDiv]
  simp only [ne_eq, not_true_eq_false, if_false, h']
  rw [BitVec.toInt_srem]
@[go_sem] theorem bops_quo (h : ¬ y = 0#64) : binOp .quo t (s x) (s y) = pure (s (x.sdiv y)) := by
  have h' := toInt_ne_zero h
  simp only [s, binOp, Op.intDiv]
  simp only [ne_eq, not_true_eq_false, if_false, h']
  congr 2
  rw [wrap_i64_toInt, BitVec.toInt_ofInt, BitVec.toInt_sdiv]
theorem fdiv_word (n : Nat) : Int.fdiv x.toInt (2 ^ (min n 64)) = (x.sshiftRight n).toInt := by
  rw [Int.fdiv_eq_ediv_of_nonneg _ (by exact_mod_cast Nat.zero_le _), BitVec.toInt_sshiftRight, Int.shiftRight_eq_div_pow]
  by_cases h' : n ≤ 64
  · rw [Nat.min_eq_left h']; simp
  · rw [Nat.min_eq_right (by omega)]
    have h1 := BitVec.toInt_lt (x := x)
    have h2 := BitVec.le_toInt (x := x)
    have h3 : (2 : Int) ^ 64 ≤ ((2 ^ n : Nat) : Int) := by exact_mod_cast Nat.pow_le_pow_right (by decide) (by omega : 64 ≤ n)
    generalize ((2 ^ n : Nat) : Int) = d at h3
    by_cases hx : 0 ≤ x.toInt
    · rw [Int.ediv_eq_zero_of_lt hx (by omega), Int.ediv_eq_zero_of_lt hx (by omega)]
    · have a1 : x.toInt / 2 ^ 64 = -1 := by omega
      rw [a1]
      refine ((Int.ediv_emod_unique (a := x.toInt) (b := d) (r := x.toInt + d) (q := -1) (by omega)).2 ⟨by omega, by omega, by omega⟩).1.symm
@[go_sem] theorem bops_shr (k : IntKind) (n : Int) (h : 0 ≤ n) : binOp .shr t (s x) (.int k n) = pure (s (x.sshiftRight n.toNat)) := by
  simp only [s, binOp, Op.shift]
  rw [if_neg (by omega)]
  congr 2
  exact fdiv_word x n.toNat
theorem shl_word (n : Nat) : BitVec.ofInt 64 (x.toInt * 2 ^ (min n 64)) = x <<< n := by
  apply BitVec.eq_of_toNat_eq
  rw [BitVec.ofInt_mul, BitVec.ofInt_toInt, BitVec.toNat_mul, BitVec.toNat_shiftLeft, Nat.shiftLeft_eq]
  have e : BitVec.ofInt 64 (2 ^ (min n 64)) = BitVec.ofNat 64 (2 ^ (min n 64)) := by
    rw [← BitVec.ofInt_natCast]; simp
  rw [e, BitVec.toNat_ofNat]
  simp only [Nat.mul_mod_mod]
  by_cases h' : n ≤ 64
  · rw [Nat.min_eq_left h']
  · rw [Nat.min_eq_right (by omega)]
    have h1 : x.toNat * 2 ^ 64 % 2 ^ 64 = 0 := Nat.mul_mod_left _ _
    have h2 : n = (n - 64) + 64 := by omega
    rw [h1, h2, Nat.pow_add, ← Nat.mul_assoc, Nat.mul_mod_left]
@[go_sem] theorem bops_shl (k : IntKind) (n : Int) (h : 0 ≤ n) : binOp .shl t (s x) (.int k n) = pure (s (x <<< n.toNat)) := by
  simp only [s, binOp, Op.shift]
  rw [if_neg (by omega)]
  congr 2
  rw [wrap_i64_toInt]
  show (BitVec.ofInt 64 (x.toInt * 2 ^ (min n.toNat 64))).toInt = _
  rw [shl_word]
@[go_sem] theorem bops_shr_u : binOp .shr t (s x) (u y) = pure (s (x.sshiftRight y.toNat)) := by
  have := bops_shr t x .u64 (y.toNat : Int) (by omega)
  rw [← u] at this
  simpa using this
@[go_sem] theorem bops_shl_u : binOp .shl t (s x) (u y) = pure (s (x <<< y.toNat)) := by
  have := bops_shl t x .u64 (y.toNat : Int) (by omega)
  rw [← u] at this
  simpa using this
theorem toInt_inj_iff : (x.toInt = y.toInt) ↔ x = y := BitVec.toInt_inj
@[go_sem] theorem bops_eql : binOp .eql t (s x) (s y) = pure (.bool (x == y)) := by
  simp only [s, binOp, Op.intCmp]
  simp only [ne_eq, not_true_eq_false, if_false]
  congr 2
  rw [Bool.eq_iff_iff, beq_iff_eq, beq_iff_eq]; exact toInt_inj_iff x y
@[go_sem] theorem bops_neq : binOp .neq t (s x) (s y) = pure (.bool (x != y)) := by
  simp only [s, binOp, Op.intCmp]
  simp only [ne_eq, not_true_eq_false, if_false]
  congr 2
  rw [Bool.eq_iff_iff, bne_iff_ne, bne_iff_ne, Ne, Ne, toInt_inj_iff]
@[go_sem] theorem bops_lss : binOp .lss t (s x) (s y) = pure (.bool (x.slt y)) := by
  simp only [s, binOp, Op.intCmp]
  simp only [ne_eq, not_true_eq_false, if_false]
  rfl
@[go_sem] theorem bops_gtr : binOp .gtr t (s x) (s y) = pure (.bool (y.slt x)) := by
  simp only [s, binOp, Op.intCmp]
  simp only [ne_eq, not_true_eq_false, if_false]
  rfl
@[go_sem] theorem bops_leq : binOp .leq t (s x) (s y) = pure (.bool (x.sle y)) := by
  simp only [s, binOp, Op.intCmp]
  simp only [ne_eq, not_true_eq_false, if_false]
  rfl
@[go_sem] theorem bops_geq : binOp .geq t (s x) (s y) = pure (.bool (y.sle x)) := by
  simp only [s, binOp, Op.intCmp]
  simp only [ne_eq, not_true_eq_false, if_false]
  rfl
@[go_sem] theorem uops_neg : Op.unary .neg (s x) = pure (s (-x)) := by
  simp only [s, Op.unary, Op.intArith]
  congr 2
  rw [wrap_i64_toInt, Int.zero_sub, BitVec.ofInt_neg, BitVec.ofInt_toInt]
end
section
variable {P : Program} (w : World)
@[go_sem] theorem s_ne_agg (x : BitVec 64) (cs : Array Value) : (s x = Value.agg cs) = False := by simp [s]
@[go_sem] theorem cells_s (x : BitVec 64) : (s x).cells = #[s x] := rfl
@[go_sem] theorem one_s (x : BitVec 64) : (s x).oneCell' = true := rfl
@[go_sem] theorem run_store_s (a : Addr) (x : BitVec 64) (m : Mode) : (store a (s x) m).run P w = stored P w a (s x) m := run_store P w a _ m rfl
@[go_sem] theorem run_eqGuard_s_left (op : BinOp) (t : TypeId) (x y : Operand) (a : BitVec 64) (b : Value) : (eqGuard op t x y (s a) b).run P w = .ok () w := by
  unfold eqGuard s; cases op <;> simp <;> rfl
@[go_sem] theorem run_eqGuard_s_right (op : BinOp) (t : TypeId) (x y : Operand) (a : Value) (b : BitVec 64) : (eqGuard op t x y a (s b)).run P w = .ok () w := by
  unfold eqGuard s; cases op <;> cases a <;> simp <;> rfl
@[go_sem] theorem run_convert_s_u (a d : TypeId) (x : BitVec 64) (hs : P.underlying a = some (.int .i64)) (hd : P.underlying d = some (.int .u64)) :
    (convert a d (s x)).run P w = .ok (u x) w := by
  simp [convert, s, run_underlying hs, run_underlying hd, Conv.intToInt, u_mk, BitVec.ofInt_toInt]
def sminV (x y : BitVec 64) : BitVec 64 := if y.slt x then y else x
def smaxV (x y : BitVec 64) : BitVec 64 := if x.slt y then y else x
@[go_sem] theorem run_min_s (ts : Array TypeId) (t : TypeId) (x y : BitVec 64) : (Builtin.min_ ts t #[s x, s y]).run P w = .ok (s (sminV x y)) w := by
  rw [sminV, s, s, run_min_int2]
  by_cases h : y.toInt < x.toInt
  · have h2 : y.slt x = true := by rw [BitVec.slt]; exact decide_eq_true h
    rw [if_pos h, if_pos h2]; rfl
  · have h2 : y.slt x = false := by rw [BitVec.slt]; exact decide_eq_false h
    rw [if_neg h, if_neg (by simp [h2])]; rfl
@[go_sem] theorem run_max_s (ts : Array TypeId) (t : TypeId) (x y : BitVec 64) : (Builtin.max_ ts t #[s x, s y]).run P w = .ok (s (smaxV x y)) w := by
  rw [smaxV, s, s, run_max_int2]
  by_cases h : x.toInt < y.toInt
  · have h2 : x.slt y = true := by rw [BitVec.slt]; exact decide_eq_true h
    rw [if_pos h, if_pos h2]; rfl
  · have h2 : x.slt y = false := by rw [BitVec.slt]; exact decide_eq_false h
    rw [if_neg h, if_neg (by simp [h2])]; rfl
@[go_sem] theorem wrap_nv (x : BitVec 64) : Value.int .i64 (IntKind.i64.wrap (nv x)) = s x := by rw [nv, wrap_i64_nat, s]
end
end Go.Proofs.Ytbmommomhepfpaa
