/- Equality of windows. -/
import Derived.Test.YtlblpmadehikgaaB1
import Derived.ChangeKeysEq
import Derived.Laws.StructEq
namespace Go.Proofs.Ytlblpmadehikgaa
open Go.RowKit
set_option linter.unusedVariables false

theorem plain3 : Try.prog.plainKey 3 = true := by kernel_rfl
theorem fields28 : ∃ a b : Field, (Try.prog.fieldsOf 28).toList = [a, b] ∧ a.name = "From" ∧ b.name = "End" ∧ a.type = 3 ∧ b.type = 3 ∧ a.offset = 0 ∧ b.offset = 1 :=
  ⟨(Try.prog.fieldsOf 28)[0]!, (Try.prog.fieldsOf 28)[1]!, by kernel_rfl, by kernel_rfl, by kernel_rfl, by kernel_rfl, by kernel_rfl, by kernel_rfl, by kernel_rfl⟩
theorem fields61 : ∃ a b : Field, (Try.prog.fieldsOf 61).toList = [a, b] ∧ a.name = "From" ∧ b.name = "End" ∧ a.type = 3 ∧ b.type = 3 ∧ a.offset = 0 ∧ b.offset = 1 :=
  ⟨(Try.prog.fieldsOf 61)[0]!, (Try.prog.fieldsOf 61)[1]!, by kernel_rfl, by kernel_rfl, by kernel_rfl, by kernel_rfl, by kernel_rfl, by kernel_rfl, by kernel_rfl⟩
theorem eq_w_of (t : TypeId) (ht : Try.prog.underlying t = some (.struct (Try.prog.fieldsOf t))) (hp : Try.prog.stoodInHeld t = false)
    (hf : ∃ a b : Field, (Try.prog.fieldsOf t).toList = [a, b] ∧ a.name = "From" ∧ b.name = "End" ∧ a.type = 3 ∧ b.type = 3 ∧ a.offset = 0 ∧ b.offset = 1) (d : Nat) (p q p' q' : Int) (w : World) :
    (Op.equalIn (d + 2) t (.agg #[.int .i64 p, .int .i64 q]) (.agg #[.int .i64 p', .int .i64 q'])).run Try.prog w = .ok (p == p' && q == q') w := by
  obtain ⟨a, b, e, n1, n2, t1, t2, o1, o2⟩ := hf
  have h1 : a.name ≠ "_" := by rw [n1]; decide
  have h2 : b.name ≠ "_" := by rw [n2]; decide
  have p0 : ∀ (x y : Int) W, (part 3 #[.int .i64 x, .int .i64 y] 0).run Try.prog W = .ok (.int .i64 x) W := fun x y W => run_part_plain W plain3 rfl
  have p1 : ∀ (x y : Int) W, (part 3 #[.int .i64 x, .int .i64 y] 1).run Try.prog W = .ok (.int .i64 y) W := fun x y W => run_part_plain W plain3 rfl
  have qf : ∀ (a b : Int) W, (Op.equalIn (d + 1) 3 (.int .i64 a) (.int .i64 b)).run Try.prog W = .ok (a == b) W := fun a b W => run_equalIn_int W d 3 .i64 .i64 a b Try.underlying3
  rw [run_equalIn_struct w (d + 1) t _ _ ht hp, e]
  simp only [Op.eqFields, if_pos h1, if_pos h2, t1, t2, o1, o2, Sem.run_bind, p0, p1, qf, Result.andThen_ok, Sem.run_ite, Sem.run_pure]
  cases p == p' <;> cases q == q' <;> simp
theorem eqv_w28 (p q p' q' : Int) (w : World) : (binOp .eql 28 (.agg #[.int .i64 p, .int .i64 q]) (.agg #[.int .i64 p', .int .i64 q'])).run Try.prog w = .ok (.bool ((p == p' && q == q'))) w := by
  rw [run_eql_struct, eq_w_of 28 Try.underlying28 (by kernel_rfl) fields28 9998]; rfl
theorem nev_w28 (p q p' q' : Int) (w : World) : (binOp .neq 28 (.agg #[.int .i64 p, .int .i64 q]) (.agg #[.int .i64 p', .int .i64 q'])).run Try.prog w = .ok (.bool (!(p == p' && q == q'))) w := by
  rw [run_neq_struct, eq_w_of 28 Try.underlying28 (by kernel_rfl) fields28 9998]; rfl
theorem eqv_w61 (p q p' q' : Int) (w : World) : (binOp .eql 61 (.agg #[.int .i64 p, .int .i64 q]) (.agg #[.int .i64 p', .int .i64 q'])).run Try.prog w = .ok (.bool ((p == p' && q == q'))) w := by
  rw [run_eql_struct, eq_w_of 61 Try.underlying61 (by kernel_rfl) fields61 9998]; rfl
theorem nev_w61 (p q p' q' : Int) (w : World) : (binOp .neq 61 (.agg #[.int .i64 p, .int .i64 q]) (.agg #[.int .i64 p', .int .i64 q'])).run Try.prog w = .ok (.bool (!(p == p' && q == q'))) w := by
  rw [run_neq_struct, eq_w_of 61 Try.underlying61 (by kernel_rfl) fields61 9998]; rfl
end Go.Proofs.Ytlblpmadehikgaa
