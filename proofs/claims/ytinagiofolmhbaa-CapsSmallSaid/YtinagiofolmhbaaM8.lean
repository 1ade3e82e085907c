/- Bytes as bit vectors: rules for the walk's operations on them. -/
import Derived.Test.YtinagiofolmhbaaU
namespace Go.Proofs.Ytinagiofolmhbaa
open Go.RowKit

/-- A byte as a value. -/
def h8 (x : BitVec 8) : Value := .int .u8 (x.toNat : Int)
/-- The number of a byte, where it becomes another integer. -/
def n8 (x : BitVec 8) : Int := (x.toNat : Int)
theorem h8_ofInt (x : BitVec 8) : BitVec.ofInt 8 (x.toNat : Int) = x := by
  apply BitVec.eq_of_toNat_eq
  rw [BitVec.toNat_ofInt]
  have := x.isLt
  omega
theorem h8_wrap (n : Int) : IntKind.u8.wrap n = ((BitVec.ofInt 8 n).toNat : Int) := by
  rw [BitVec.toNat_ofInt]
  simp [IntKind.wrap, IntKind.bits, IntKind.signed]
  omega
theorem h8_lit (n : Nat) (h : n < 256) : Value.int .u8 (no_index (@OfNat.ofNat Int n instOfNat)) = h8 (BitVec.ofNat 8 n) := by
  rw [h8, BitVec.toNat_ofNat, Nat.mod_eq_of_lt (by simpa using h)]; rfl
theorem h8_int (n : Int) (h0 : 0 ≤ n) (h1 : n < 256) : Value.int .u8 n = h8 (BitVec.ofInt 8 n) := by
  rw [h8, BitVec.toNat_ofInt]
  congr 1
  omega
@[go_sem] theorem bop8_lit_right (op : BinOp) (t : TypeId) (x : BitVec 8) (n : Nat) (h : n < 256) :
    binOp op t (h8 x) (Value.int .u8 (no_index (@OfNat.ofNat Int n instOfNat))) = binOp op t (h8 x) (h8 (BitVec.ofNat 8 n)) := by rw [h8_lit n h]
@[go_sem] theorem bop8_lit_left (op : BinOp) (t : TypeId) (x : BitVec 8) (n : Nat) (h : n < 256) :
    binOp op t (Value.int .u8 (no_index (@OfNat.ofNat Int n instOfNat))) (h8 x) = binOp op t (h8 (BitVec.ofNat 8 n)) (h8 x) := by rw [h8_lit n h]
section
variable (t : TypeId) (x y : BitVec 8)
@[go_sem] theorem bop8_and : binOp .and t (h8 x) (h8 y) = pure (h8 (x &&& y)) := by
  simp only [h8, binOp, Op.intBits]
  simp only [ne_eq, not_true_eq_false, if_false]
  congr 2
  show IntKind.u8.wrap ((BitVec.ofInt 8 (x.toNat : Int) &&& BitVec.ofInt 8 (y.toNat : Int)).toNat : Int) = _
  rw [h8_ofInt, h8_ofInt, h8_wrap, h8_ofInt]
@[go_sem] theorem bop8_or : binOp .or t (h8 x) (h8 y) = pure (h8 (x ||| y)) := by
  simp only [h8, binOp, Op.intBits]
  simp only [ne_eq, not_true_eq_false, if_false]
  congr 2
  show IntKind.u8.wrap ((BitVec.ofInt 8 (x.toNat : Int) ||| BitVec.ofInt 8 (y.toNat : Int)).toNat : Int) = _
  rw [h8_ofInt, h8_ofInt, h8_wrap, h8_ofInt]
@[go_sem] theorem bop8_andNot : binOp .andNot t (h8 x) (h8 y) = pure (h8 (x &&& ~~~y)) := by
  simp only [h8, binOp, Op.intBits]
  simp only [ne_eq, not_true_eq_false, if_false]
  congr 2
  show IntKind.u8.wrap ((BitVec.ofInt 8 (x.toNat : Int) &&& ~~~BitVec.ofInt 8 (y.toNat : Int)).toNat : Int) = _
  rw [h8_ofInt, h8_ofInt, h8_wrap, h8_ofInt]
@[go_sem] theorem bop8_rem (h : ¬ y = 0#8) : binOp .rem t (h8 x) (h8 y) = pure (h8 (x % y)) := by
  have h' : ¬ ((y.toNat : Int) = 0) := fun e => h (BitVec.eq_of_toNat_eq (by simpa using e))
  simp only [h8, binOp, Op.intDiv]
  simp only [ne_eq, not_true_eq_false, if_false, h']
  congr 2
theorem toNat8_inj : ((x.toNat : Int) = (y.toNat : Int)) ↔ x = y := by
  constructor
  · intro h; exact BitVec.eq_of_toNat_eq (by omega)
  · rintro rfl; rfl
@[go_sem] theorem bop8_eql : binOp .eql t (h8 x) (h8 y) = pure (.bool (x == y)) := by
  simp only [h8, binOp, Op.intCmp]
  simp only [ne_eq, not_true_eq_false, if_false]
  congr 2
  rw [Bool.eq_iff_iff, beq_iff_eq, beq_iff_eq]; exact toNat8_inj x y
@[go_sem] theorem bop8_neq : binOp .neq t (h8 x) (h8 y) = pure (.bool (x != y)) := by
  simp only [h8, binOp, Op.intCmp]
  simp only [ne_eq, not_true_eq_false, if_false]
  congr 2
  rw [Bool.eq_iff_iff, bne_iff_ne, bne_iff_ne, Ne, Ne, toNat8_inj]
@[go_sem] theorem bop8_gtr : binOp .gtr t (h8 x) (h8 y) = pure (.bool (y.ult x)) := by
  simp only [h8, binOp, Op.intCmp]
  simp only [ne_eq, not_true_eq_false, if_false]
  congr 2
  rw [BitVec.ult]; simp
end
section
variable {P : Program} (w : World)
@[go_sem] theorem h8_ne_agg (x : BitVec 8) (cs : Array Value) : (h8 x = Value.agg cs) = False := by simp [h8]
@[go_sem] theorem cells_h8 (x : BitVec 8) : (h8 x).cells = #[h8 x] := rfl
@[go_sem] theorem one_h8 (x : BitVec 8) : (h8 x).oneCell' = true := rfl
@[go_sem] theorem run_store_h8 (a : Addr) (x : BitVec 8) (m : Mode) : (store a (h8 x) m).run P w = stored P w a (h8 x) m := run_store P w a _ m rfl
@[go_sem] theorem run_eqGuard_h8_left (op : BinOp) (t : TypeId) (x y : Operand) (a : BitVec 8) (b : Value) : (eqGuard op t x y (h8 a) b).run P w = .ok () w := by
  unfold eqGuard h8; cases op <;> simp <;> rfl
@[go_sem] theorem run_eqGuard_h8_right (op : BinOp) (t : TypeId) (x y : Operand) (a : Value) (b : BitVec 8) : (eqGuard op t x y a (h8 b)).run P w = .ok () w := by
  unfold eqGuard h8; cases op <;> cases a <;> simp <;> rfl
@[go_sem] theorem run_convert_h8_int (s d : TypeId) (x : BitVec 8) (hs : P.underlying s = some (.int .u8)) (hd : P.underlying d = some (.int .i64)) :
    (convert s d (h8 x)).run P w = .ok (.int .i64 (n8 x)) w := by
  have := x.isLt
  have e : IntKind.i64.wrap (x.toNat : Int) = (x.toNat : Int) := IntWalk.i64_in _ ⟨by omega, by omega⟩
  simp [convert, run_underlying hs, run_underlying hd, Conv.intToInt, h8, n8, e]
end
end Go.Proofs.Ytinagiofolmhbaa
