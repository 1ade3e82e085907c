/- Equality of books, of four numbers, of charges. -/
import Derived.Test.YtppfhcocmpmadaaA1
import Derived.ChangeKeysEq
import Derived.Laws.StructEq
namespace Go.Proofs.Ytppfhcocmpmadaa
open Go.RowKit
set_option linter.unusedVariables false

def eq4 (f g : Nat → Int) : Bool := f 0 == g 0 && (f 1 == g 1 && (f 2 == g 2 && f 3 == g 3))
theorem eq4_iff (f g : Nat → Int) : eq4 f g = true ↔ ∀ j, j < 4 → f j = g j := by
  simp only [eq4, Bool.and_eq_true, beq_iff_eq]
  constructor
  · rintro ⟨h0, h1, h2, h3⟩ j hj
    have : j = 0 ∨ j = 1 ∨ j = 2 ∨ j = 3 := by omega
    rcases this with rfl | rfl | rfl | rfl <;> assumption
  · intro h; exact ⟨h 0 (by decide), h 1 (by decide), h 2 (by decide), h 3 (by decide)⟩
theorem eq4_self (f : Nat → Int) : eq4 f f = true := (eq4_iff f f).2 fun _ _ => rfl
theorem plain3 : Try.prog.plainKey 3 = true := by kernel_rfl
theorem ex_info3 : ∃ i, Try.prog.info? 3 = some i := ⟨_, rfl⟩
theorem cells3 : Try.prog.cellsOf 3 = 1 := by kernel_rfl

theorem eq_ar (d : Nat) (f g : Nat → Int) (w : World) : (Op.equalIn (d + 2) 25 (.agg (ar f)) (.agg (ar g))).run Try.prog w = .ok (eq4 f g) w := by
  obtain ⟨i, hi⟩ := ex_info3
  rw [run_equalIn_array w (d + 1) _ _ Try.underlying25 hi, cells3]
  have pf : ∀ (f : Nat → Int) j (h : j < 4) W, (part 3 (ar f) (j * 1)).run Try.prog W = .ok (.int .i64 (f j)) W := fun f j h W => run_part_plain W plain3 (by rw [Nat.mul_one]; exact ar_get f j h)
  have qf : ∀ (a b : Int) W, (Op.equalIn (d + 1) 3 (.int .i64 a) (.int .i64 b)).run Try.prog W = .ok (a == b) W := fun a b W => run_equalIn_int W d 3 .i64 .i64 a b Try.underlying3
  have e : List.range 4 = [0, 1, 2, 3] := rfl
  rw [e]
  simp only [Op.eqItems, Sem.run_bind, pf f 0 (by decide), pf g 0 (by decide), pf f 1 (by decide), pf g 1 (by decide), pf f 2 (by decide), pf g 2 (by decide), pf f 3 (by decide), pf g 3 (by decide), qf, Result.andThen_ok, Sem.run_ite, Sem.run_pure, eq4]
  cases f 0 == g 0 <;> cases f 1 == g 1 <;> cases f 2 == g 2 <;> cases f 3 == g 3 <;> simp

theorem eqv_ar (f g : Nat → Int) (w : World) : (binOp .eql 25 (.agg (ar f)) (.agg (ar g))).run Try.prog w = .ok (.bool (eq4 f g)) w := by
  rw [run_eql_struct, eq_ar 9998]; rfl
theorem nev_ar (f g : Nat → Int) (w : World) : (binOp .neq 25 (.agg (ar f)) (.agg (ar g))).run Try.prog w = .ok (.bool (!eq4 f g)) w := by
  rw [run_neq_struct, eq_ar 9998]; rfl

theorem part_lim (L U : Nat → Int) (W : World) : (part 25 (bk L U) 0).run Try.prog W = .ok (.agg (ar L)) W := by kernel_rfl
theorem part_use (L U : Nat → Int) (W : World) : (part 25 (bk L U) 4).run Try.prog W = .ok (.agg (ar U)) W := by kernel_rfl
theorem fields27 : ∃ a b : Field, (Try.prog.fieldsOf 27).toList = [a, b] ∧ a.name = "Limits" ∧ b.name = "Used" ∧ a.type = 25 ∧ b.type = 25 ∧ a.offset = 0 ∧ b.offset = 4 :=
  ⟨(Try.prog.fieldsOf 27)[0]!, (Try.prog.fieldsOf 27)[1]!, by kernel_rfl, by kernel_rfl, by kernel_rfl, by kernel_rfl, by kernel_rfl, by kernel_rfl, by kernel_rfl⟩
theorem fields68 : ∃ a b : Field, (Try.prog.fieldsOf 68).toList = [a, b] ∧ a.name = "Limits" ∧ b.name = "Used" ∧ a.type = 25 ∧ b.type = 25 ∧ a.offset = 0 ∧ b.offset = 4 :=
  ⟨(Try.prog.fieldsOf 68)[0]!, (Try.prog.fieldsOf 68)[1]!, by kernel_rfl, by kernel_rfl, by kernel_rfl, by kernel_rfl, by kernel_rfl, by kernel_rfl, by kernel_rfl⟩
theorem fields32 : ∃ a b : Field, (Try.prog.fieldsOf 32).toList = [a, b] ∧ a.name = "Kind" ∧ b.name = "Amount" ∧ a.type = 3 ∧ b.type = 3 ∧ a.offset = 0 ∧ b.offset = 1 :=
  ⟨(Try.prog.fieldsOf 32)[0]!, (Try.prog.fieldsOf 32)[1]!, by kernel_rfl, by kernel_rfl, by kernel_rfl, by kernel_rfl, by kernel_rfl, by kernel_rfl, by kernel_rfl⟩
theorem fields82 : ∃ a b : Field, (Try.prog.fieldsOf 82).toList = [a, b] ∧ a.name = "Kind" ∧ b.name = "Amount" ∧ a.type = 3 ∧ b.type = 3 ∧ a.offset = 0 ∧ b.offset = 1 :=
  ⟨(Try.prog.fieldsOf 82)[0]!, (Try.prog.fieldsOf 82)[1]!, by kernel_rfl, by kernel_rfl, by kernel_rfl, by kernel_rfl, by kernel_rfl, by kernel_rfl, by kernel_rfl⟩
theorem eq_bk_of (t : TypeId) (ht : Try.prog.underlying t = some (.struct (Try.prog.fieldsOf t))) (hp : Try.prog.stoodInHeld t = false)
    (hf : ∃ a b : Field, (Try.prog.fieldsOf t).toList = [a, b] ∧ a.name = "Limits" ∧ b.name = "Used" ∧ a.type = 25 ∧ b.type = 25 ∧ a.offset = 0 ∧ b.offset = 4) (d : Nat) (L U L' U' : Nat → Int) (w : World) :
    (Op.equalIn (d + 3) t (.agg (bk L U)) (.agg (bk L' U'))).run Try.prog w = .ok (eq4 L L' && eq4 U U') w := by
  obtain ⟨a, b, e, n1, n2, t1, t2, o1, o2⟩ := hf
  have h1 : a.name ≠ "_" := by rw [n1]; decide
  have h2 : b.name ≠ "_" := by rw [n2]; decide
  rw [run_equalIn_struct w (d + 2) t _ _ ht hp, e]
  simp only [Op.eqFields, if_pos h1, if_pos h2, t1, t2, o1, o2, Sem.run_bind, part_lim, part_use, Result.andThen_ok, eq_ar, Sem.run_ite, Sem.run_pure]
  cases eq4 L L' <;> cases eq4 U U' <;> simp
theorem eq_ch_of (t : TypeId) (ht : Try.prog.underlying t = some (.struct (Try.prog.fieldsOf t))) (hp : Try.prog.stoodInHeld t = false)
    (hf : ∃ a b : Field, (Try.prog.fieldsOf t).toList = [a, b] ∧ a.name = "Kind" ∧ b.name = "Amount" ∧ a.type = 3 ∧ b.type = 3 ∧ a.offset = 0 ∧ b.offset = 1) (d : Nat) (p q p' q' : Int) (w : World) :
    (Op.equalIn (d + 2) t (.agg #[.int .i64 p, .int .i64 q]) (.agg #[.int .i64 p', .int .i64 q'])).run Try.prog w = .ok (p == p' && q == q') w := by
  obtain ⟨a, b, e, n1, n2, t1, t2, o1, o2⟩ := hf
  have h1 : a.name ≠ "_" := by rw [n1]; decide
  have h2 : b.name ≠ "_" := by rw [n2]; decide
  have p0 : ∀ (x y : Int) W, (part 3 #[.int .i64 x, .int .i64 y] 0).run Try.prog W = .ok (.int .i64 x) W := fun x y W => run_part_plain W plain3 rfl
  have p1 : ∀ (x y : Int) W, (part 3 #[.int .i64 x, .int .i64 y] 1).run Try.prog W = .ok (.int .i64 y) W := fun x y W => run_part_plain W plain3 rfl
  have qf : ∀ (a b : Int) W, (Op.equalIn (d + 1) 3 (.int .i64 a) (.int .i64 b)).run Try.prog W = .ok (a == b) W := fun a b W => run_equalIn_int W d 3 .i64 .i64 a b Try.underlying3
  rw [run_equalIn_struct w (d + 1) t _ _ ht hp, e]
  simp only [Op.eqFields, if_pos h1, if_pos h2, t1, t2, o1, o2, Sem.run_bind, p0, p1, qf, Result.andThen_ok, Sem.run_ite, Sem.run_pure]
  cases p == p' <;> cases q == q' <;> simp
theorem eqv_bk (L U L' U' : Nat → Int) (w : World) : (binOp .eql 27 (.agg (bk L U)) (.agg (bk L' U'))).run Try.prog w = .ok (.bool (eq4 L L' && eq4 U U')) w := by
  rw [run_eql_struct, eq_bk_of 27 (by kernel_rfl) (by kernel_rfl) fields27 9997]; rfl
theorem nev_bk (L U L' U' : Nat → Int) (w : World) : (binOp .neq 27 (.agg (bk L U)) (.agg (bk L' U'))).run Try.prog w = .ok (.bool (!(eq4 L L' && eq4 U U'))) w := by
  rw [run_neq_struct, eq_bk_of 27 (by kernel_rfl) (by kernel_rfl) fields27 9997]; rfl
theorem eqv_rb (L U L' U' : Nat → Int) (w : World) : (binOp .eql 68 (.agg (bk L U)) (.agg (bk L' U'))).run Try.prog w = .ok (.bool (eq4 L L' && eq4 U U')) w := by
  rw [run_eql_struct, eq_bk_of 68 (by kernel_rfl) (by kernel_rfl) fields68 9997]; rfl
theorem nev_rb (L U L' U' : Nat → Int) (w : World) : (binOp .neq 68 (.agg (bk L U)) (.agg (bk L' U'))).run Try.prog w = .ok (.bool (!(eq4 L L' && eq4 U U'))) w := by
  rw [run_neq_struct, eq_bk_of 68 (by kernel_rfl) (by kernel_rfl) fields68 9997]; rfl
theorem eqv_ch (p q p' q' : Int) (w : World) : (binOp .eql 32 (.agg #[.int .i64 p, .int .i64 q]) (.agg #[.int .i64 p', .int .i64 q'])).run Try.prog w = .ok (.bool (p == p' && q == q')) w := by
  rw [run_eql_struct, eq_ch_of 32 (by kernel_rfl) (by kernel_rfl) fields32 9998]; rfl
theorem nev_ch (p q p' q' : Int) (w : World) : (binOp .neq 32 (.agg #[.int .i64 p, .int .i64 q]) (.agg #[.int .i64 p', .int .i64 q'])).run Try.prog w = .ok (.bool (!(p == p' && q == q'))) w := by
  rw [run_neq_struct, eq_ch_of 32 (by kernel_rfl) (by kernel_rfl) fields32 9998]; rfl
theorem nev_rc (p q p' q' : Int) (w : World) : (binOp .neq 82 (.agg #[.int .i64 p, .int .i64 q]) (.agg #[.int .i64 p', .int .i64 q'])).run Try.prog w = .ok (.bool (!(p == p' && q == q'))) w := by
  rw [run_neq_struct, eq_ch_of 82 (by kernel_rfl) (by kernel_rfl) fields82 9998]; rfl
end Go.Proofs.Ytppfhcocmpmadaa
