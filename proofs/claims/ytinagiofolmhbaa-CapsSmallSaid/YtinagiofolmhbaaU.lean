/- u64 values as bit vectors: rules for the walk's operations on them. -/
import Derived.WalkKit
import Derived.WalkSpells
import Derived.WalkLawsBesides
import Derived.Fence
namespace Go.Proofs.Ytinagiofolmhbaa
open Go.RowKit

/-- A fact that the walk does not see. -/
structure Hd (p : Prop) : Prop where
  out : p

/-- A uint64 as a value. -/
def u (x : BitVec 64) : Value := .int .u64 (x.toNat : Int)

/-- The number of a uint64, where it becomes another integer. -/
def nv (x : BitVec 64) : Int := (x.toNat : Int)

theorem wrap_u64_nat (n : Nat) : IntKind.u64.wrap (n : Int) = ((n % 2 ^ 64 : Nat) : Int) := by
  simp [IntKind.wrap, IntKind.bits, IntKind.signed]

theorem u_ofInt (x : BitVec 64) : BitVec.ofInt 64 (x.toNat : Int) = x := by
  apply BitVec.eq_of_toNat_eq
  rw [BitVec.toNat_ofInt]
  have := x.isLt
  omega

theorem ofInt_wrap (n : Int) : IntKind.u64.wrap n = ((BitVec.ofInt 64 n).toNat : Int) := by
  rw [BitVec.toNat_ofInt]
  simp [IntKind.wrap, IntKind.bits, IntKind.signed]
  omega

theorem u_mk (n : Int) : Value.int .u64 (IntKind.u64.wrap n) = u (BitVec.ofInt 64 n) := by
  rw [u, ofInt_wrap]

theorem ret_u {x y : BitVec 64} (h : x = y) : Ending.returned (u x) = .returned (u y) := by rw [h]

theorem u_lit (n : Nat) (h : n < 18446744073709551616) : Value.int .u64 (no_index (@OfNat.ofNat Int n instOfNat)) = u (BitVec.ofNat 64 n) := by
  rw [u, BitVec.toNat_ofNat, Nat.mod_eq_of_lt (by simpa using h)]; rfl
/-- A literal beside a number. -/
@[go_sem] theorem bop_lit_right (op : BinOp) (t : TypeId) (x : BitVec 64) (n : Nat) (h : n < 18446744073709551616) :
    binOp op t (u x) (Value.int .u64 (no_index (@OfNat.ofNat Int n instOfNat))) = binOp op t (u x) (u (BitVec.ofNat 64 n)) := by rw [u_lit n h]
@[go_sem] theorem bop_lit_left (op : BinOp) (t : TypeId) (x : BitVec 64) (n : Nat) (h : n < 18446744073709551616) :
    binOp op t (Value.int .u64 (no_index (@OfNat.ofNat Int n instOfNat))) (u x) = binOp op t (u (BitVec.ofNat 64 n)) (u x) := by rw [u_lit n h]

theorem u_ofInt_int (p : Int) (h0 : 0 ≤ p) (h1 : p < 18446744073709551616) : Value.int .u64 p = u (BitVec.ofInt 64 p) := by
  rw [u, BitVec.toNat_ofInt]
  congr 1
  omega
@[go_sem] theorem bop_wrap_right (op : BinOp) (t : TypeId) (x : BitVec 64) (n : Int) :
    binOp op t (u x) (Value.int .u64 (IntKind.u64.wrap n)) = binOp op t (u x) (u (BitVec.ofInt 64 n)) := by rw [u_mk]
@[go_sem] theorem bop_wrap_left (op : BinOp) (t : TypeId) (x : BitVec 64) (n : Int) :
    binOp op t (Value.int .u64 (IntKind.u64.wrap n)) (u x) = binOp op t (u (BitVec.ofInt 64 n)) (u x) := by rw [u_mk]
/-- A number that came by a conversion. -/
@[go_sem] theorem bop_int_right (op : BinOp) (t : TypeId) (x : BitVec 64) (p : Int) (h0 : 0 ≤ p) (h1 : p < 18446744073709551616) :
    binOp op t (u x) (Value.int .u64 p) = binOp op t (u x) (u (BitVec.ofInt 64 p)) := by rw [u_ofInt_int p h0 h1]
@[go_sem] theorem bop_int_left (op : BinOp) (t : TypeId) (x : BitVec 64) (p : Int) (h0 : 0 ≤ p) (h1 : p < 18446744073709551616) :
    binOp op t (Value.int .u64 p) (u x) = binOp op t (u (BitVec.ofInt 64 p)) (u x) := by rw [u_ofInt_int p h0 h1]

section
variable (t : TypeId) (x y : BitVec 64)
@[go_sem] theorem bop_add : binOp .add t (u x) (u y) = pure (u (x + y)) := by
  simp only [u, binOp, Op.intArith]
  simp only [ne_eq, not_true_eq_false, if_false]
  congr 2
@[go_sem] theorem bop_sub : binOp .sub t (u x) (u y) = pure (u (x - y)) := by
  simp only [u, binOp, Op.intArith]
  simp only [ne_eq, not_true_eq_false, if_false]
  congr 2
  rw [ofInt_wrap]; congr 2
  rw [Int.sub_eq_add_neg, BitVec.ofInt_add, BitVec.ofInt_neg, u_ofInt, u_ofInt, BitVec.sub_eq_add_neg]
@[go_sem] theorem bop_mul : binOp .mul t (u x) (u y) = pure (u (x * y)) := by
  simp only [u, binOp, Op.intArith]
  simp only [ne_eq, not_true_eq_false, if_false]
  congr 2
@[go_sem] theorem bop_xor : binOp .xor t (u x) (u y) = pure (u (x ^^^ y)) := by
  simp only [u, binOp, Op.intBits]
  simp only [ne_eq, not_true_eq_false, if_false]
  congr 2
  show IntKind.u64.wrap ((BitVec.ofInt 64 (x.toNat : Int) ^^^ BitVec.ofInt 64 (y.toNat : Int)).toNat : Int) = _
  rw [u_ofInt, u_ofInt, ofInt_wrap, u_ofInt]
@[go_sem] theorem bop_and : binOp .and t (u x) (u y) = pure (u (x &&& y)) := by
  simp only [u, binOp, Op.intBits]
  simp only [ne_eq, not_true_eq_false, if_false]
  congr 2
  show IntKind.u64.wrap ((BitVec.ofInt 64 (x.toNat : Int) &&& BitVec.ofInt 64 (y.toNat : Int)).toNat : Int) = _
  rw [u_ofInt, u_ofInt, ofInt_wrap, u_ofInt]
@[go_sem] theorem bop_or : binOp .or t (u x) (u y) = pure (u (x ||| y)) := by
  simp only [u, binOp, Op.intBits]
  simp only [ne_eq, not_true_eq_false, if_false]
  congr 2
  show IntKind.u64.wrap ((BitVec.ofInt 64 (x.toNat : Int) ||| BitVec.ofInt 64 (y.toNat : Int)).toNat : Int) = _
  rw [u_ofInt, u_ofInt, ofInt_wrap, u_ofInt]
@[go_sem] theorem bop_rem (h : ¬ y = 0#64) : binOp .rem t (u x) (u y) = pure (u (x % y)) := by
  have h' : ¬ ((y.toNat : Int) = 0) := fun e => h (BitVec.eq_of_toNat_eq (by simpa using e))
  simp only [u, binOp, Op.intDiv]
  simp only [ne_eq, not_true_eq_false, if_false, h']
  congr 2
@[go_sem] theorem bop_quo (h : ¬ y = 0#64) : binOp .quo t (u x) (u y) = pure (u (x / y)) := by
  have h' : ¬ ((y.toNat : Int) = 0) := fun e => h (BitVec.eq_of_toNat_eq (by simpa using e))
  simp only [u, binOp, Op.intDiv]
  simp only [ne_eq, not_true_eq_false, if_false, h']
  congr 2
  have e : ((x.toNat : Int).tdiv (y.toNat : Int)) = ((x.toNat / y.toNat : Nat) : Int) := rfl
  rw [e, wrap_u64_nat, BitVec.toNat_udiv, Nat.mod_eq_of_lt (Nat.lt_of_le_of_lt (Nat.div_le_self _ _) x.isLt)]
@[go_sem] theorem bop_shr (k : IntKind) (n : Int) (h : 0 ≤ n) : binOp .shr t (u x) (.int k n) = pure (u (x >>> n.toNat)) := by
  simp only [u, binOp, Op.shift]
  rw [if_neg (by omega)]
  congr 2
  show Int.fdiv (x.toNat : Int) (2 ^ (min n.toNat 64)) = _
  rw [Int.fdiv_eq_ediv_of_nonneg _ (by exact_mod_cast Nat.zero_le _), BitVec.toNat_ushiftRight, Nat.shiftRight_eq_div_pow]
  by_cases h' : n.toNat ≤ 64
  · rw [Nat.min_eq_left h']; simp
  · rw [Nat.min_eq_right (by omega)]
    have := x.isLt
    rw [Nat.div_eq_of_lt (Nat.lt_of_lt_of_le this (Nat.pow_le_pow_right (by decide) (by omega : 64 ≤ n.toNat)))]
    exact Int.ediv_eq_zero_of_lt (by omega) (by exact_mod_cast this)
@[go_sem] theorem bop_shl (k : IntKind) (n : Int) (h : 0 ≤ n) : binOp .shl t (u x) (.int k n) = pure (u (x <<< n.toNat)) := by
  simp only [u, binOp, Op.shift]
  rw [if_neg (by omega)]
  congr 2
  show IntKind.u64.wrap ((x.toNat : Int) * 2 ^ (min n.toNat 64)) = _
  have e : (x.toNat : Int) * 2 ^ (min n.toNat 64) = ((x.toNat * 2 ^ (min n.toNat 64) : Nat) : Int) := by simp
  rw [e, wrap_u64_nat, BitVec.toNat_shiftLeft, Nat.shiftLeft_eq]
  by_cases h' : n.toNat ≤ 64
  · rw [Nat.min_eq_left h']
  · rw [Nat.min_eq_right (by omega)]
    congr 1
    have h1 : x.toNat * 2 ^ 64 % 2 ^ 64 = 0 := Nat.mul_mod_left _ _
    have h2 : n.toNat = (n.toNat - 64) + 64 := by omega
    rw [h1, h2, Nat.pow_add, ← Nat.mul_assoc, Nat.mul_mod_left]
@[go_sem] theorem bop_shr_u : binOp .shr t (u x) (u y) = pure (u (x >>> y.toNat)) := by
  have := bop_shr t x .u64 (y.toNat : Int) (by omega)
  rw [← u] at this
  simpa using this
@[go_sem] theorem bop_shl_u : binOp .shl t (u x) (u y) = pure (u (x <<< y.toNat)) := by
  have := bop_shl t x .u64 (y.toNat : Int) (by omega)
  rw [← u] at this
  simpa using this
theorem toNat_inj_int : ((x.toNat : Int) = (y.toNat : Int)) ↔ x = y := by
  constructor
  · intro h; exact BitVec.eq_of_toNat_eq (by omega)
  · rintro rfl; rfl
@[go_sem] theorem bop_eql : binOp .eql t (u x) (u y) = pure (.bool (x == y)) := by
  simp only [u, binOp, Op.intCmp]
  simp only [ne_eq, not_true_eq_false, if_false]
  congr 2
  rw [Bool.eq_iff_iff, beq_iff_eq, beq_iff_eq]; exact toNat_inj_int x y
@[go_sem] theorem bop_neq : binOp .neq t (u x) (u y) = pure (.bool (x != y)) := by
  simp only [u, binOp, Op.intCmp]
  simp only [ne_eq, not_true_eq_false, if_false]
  congr 2
  rw [Bool.eq_iff_iff, bne_iff_ne, bne_iff_ne, Ne, Ne, toNat_inj_int]
@[go_sem] theorem bop_lss : binOp .lss t (u x) (u y) = pure (.bool (x.ult y)) := by
  simp only [u, binOp, Op.intCmp]
  simp only [ne_eq, not_true_eq_false, if_false]
  congr 2
  rw [BitVec.ult]; simp
@[go_sem] theorem bop_gtr : binOp .gtr t (u x) (u y) = pure (.bool (y.ult x)) := by
  simp only [u, binOp, Op.intCmp]
  simp only [ne_eq, not_true_eq_false, if_false]
  congr 2
  rw [BitVec.ult]; simp
@[go_sem] theorem bop_leq : binOp .leq t (u x) (u y) = pure (.bool (x.ule y)) := by
  simp only [u, binOp, Op.intCmp]
  simp only [ne_eq, not_true_eq_false, if_false]
  congr 2
  rw [BitVec.ule]; simp
@[go_sem] theorem bop_geq : binOp .geq t (u x) (u y) = pure (.bool (y.ule x)) := by
  simp only [u, binOp, Op.intCmp]
  simp only [ne_eq, not_true_eq_false, if_false]
  congr 2
  rw [BitVec.ule]; simp
@[go_sem] theorem uop_xor : Op.unary .xor (u x) = pure (u (~~~ x)) := by
  simp only [u, Op.unary, Op.intBits]
  congr 2
  show IntKind.u64.wrap ((BitVec.ofInt 64 IntKind.u64.max ^^^ BitVec.ofInt 64 (x.toNat : Int)).toNat : Int) = _
  have : BitVec.ofInt 64 IntKind.u64.max = BitVec.allOnes 64 := by decide
  rw [u_ofInt, ofInt_wrap, u_ofInt, this, BitVec.allOnes_xor]
end
section
variable {P : Program} (w : World)
@[go_sem] theorem u_ne_agg (x : BitVec 64) (cs : Array Value) : (u x = Value.agg cs) = False := by simp [u]
@[go_sem] theorem cells_u (x : BitVec 64) : (u x).cells = #[u x] := rfl
@[go_sem] theorem one_u (x : BitVec 64) : (u x).oneCell' = true := rfl
@[go_sem] theorem run_store_u (a : Addr) (x : BitVec 64) (m : Mode) : (store a (u x) m).run P w = stored P w a (u x) m := run_store P w a _ m rfl
@[go_sem] theorem run_eqGuard_u_left (op : BinOp) (t : TypeId) (x y : Operand) (a : BitVec 64) (b : Value) : (eqGuard op t x y (u a) b).run P w = .ok () w := by
  unfold eqGuard u; cases op <;> simp <;> rfl
@[go_sem] theorem run_eqGuard_u_right (op : BinOp) (t : TypeId) (x y : Operand) (a : Value) (b : BitVec 64) : (eqGuard op t x y a (u b)).run P w = .ok () w := by
  unfold eqGuard u; cases op <;> cases a <;> simp <;> rfl
/-- A number's conversions: to a uint64, and from one. -/
theorem wrap_i64_toInt (n : Int) : IntKind.i64.wrap n = (BitVec.ofInt 64 n).toInt := by
  rw [BitVec.toInt_ofInt, Int.bmod_def]
  simp [IntKind.wrap, IntKind.bits, IntKind.signed]
  split <;> split <;> omega
theorem run_convert_int_u (s d : TypeId) (k : IntKind) (n : Int) (hs : P.underlying s = some (.int k)) (hd : P.underlying d = some (.int .u64)) :
    (convert s d (.int k n)).run P w = .ok (u (BitVec.ofInt 64 n)) w := by
  simp [convert, run_underlying hs, run_underlying hd, Conv.intToInt, u_mk]
@[go_sem] theorem run_convert_u_int (s d : TypeId) (k : IntKind) (x : BitVec 64) (hs : P.underlying s = some (.int .u64)) (hd : P.underlying d = some (.int k)) :
    (convert s d (u x)).run P w = .ok (.int k (k.wrap (nv x))) w := by
  simp [convert, run_underlying hs, run_underlying hd, Conv.intToInt, u, nv]
end
@[go_sem] theorem wide_depth : Fence.wide.depth = none := rfl
@[go_sem] theorem wide_fn (f : FuncId) : Fence.wide.fn f = True := rfl
end Go.Proofs.Ytinagiofolmhbaa
