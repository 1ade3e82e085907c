/- Walk of the law RngOrder. -/
import Derived.Test.YtpioobaapigjcaaA4
import Derived.Laws.Small
namespace Go.Proofs.Ytpioobaapigjcaa
open Go.RowKit
set_option linter.unusedVariables false

theorem blw_nat (v w : BitVec 64) (p q : Nat) (p0 : 0 < p) (q0 : 0 < q) :
    (blw v.toNat p < p) ∧ (v.toNat ≤ w.toNat → blw v.toNat p ≤ blw w.toNat p) ∧ (blw v.toNat p ≤ blw v.toNat (p + q)) ∧ blw v.toNat (p * q) / q = blw v.toNat p :=
  ⟨blw_lt _ _ v.isLt p0, blw_mono _ _ _, blw_mono_n _ _ _ (by omega), blw_mul _ _ _ q0⟩

theorem neg_wrap (n : Int) (n0 : -2147483648 ≤ n) (n1 : n ≤ 2147483647) : wrap32 (-wrap32 (n + 1)) = if n = 2147483647 then -2147483648 else -(n + 1) := by
  unfold wrap32
  split <;> omega

theorem max_neg (n : Int) (n0 : -2147483648 ≤ n) (n1 : n ≤ 2147483647) : ∃ p : Int, 0 ≤ p ∧ p ≤ 2147483647 ∧ (if n < wrap32 (-wrap32 (n + 1)) then wrap32 (-wrap32 (n + 1)) else n) = p := by
  rw [neg_wrap n n0 n1]
  refine ⟨_, ?_, ?_, rfl⟩ <;> split <;> split <;> omega

theorem order_facts (v w : BitVec 64) (p q : Int) (p0 : 0 ≤ p) (p1 : p ≤ 2147483647) (q0 : 0 ≤ q) (q1 : q ≤ 2147483647) :
    ∃ A B C D R : Int, (blw v.toNat (p + 1).toNat : Int) = A ∧ (blw w.toNat (p + 1).toNat : Int) = B ∧ (blw v.toNat (p + 1 + (q + 1)).toNat : Int) = C ∧ (p + 1) * (q + 1) = R ∧ (blw v.toNat R.toNat : Int) = D ∧
      0 ≤ A ∧ A < p + 1 ∧ (v.toNat ≤ w.toNat → A ≤ B) ∧ (w.toNat ≤ v.toNat → B ≤ A) ∧ A ≤ C ∧ 0 ≤ D ∧ D / (q + 1) = A ∧ 1 ≤ R ∧ R ≤ 4611686018427387904 := by
  obtain ⟨P, hP⟩ : ∃ P : Nat, p + 1 = P := ⟨(p + 1).toNat, by omega⟩
  obtain ⟨Q, hQ⟩ : ∃ Q : Nat, q + 1 = Q := ⟨(q + 1).toNat, by omega⟩
  rw [hP, hQ]
  have hm : (P : Int) * Q = ((P * Q : Nat) : Int) := by simp
  have hs : (P : Int) + Q = ((P + Q : Nat) : Int) := by simp
  have hle : P * Q ≤ 2147483648 * 2147483648 := Nat.mul_le_mul (by omega) (by omega)
  have hge : 1 * 1 ≤ P * Q := Nat.mul_le_mul (by omega) (by omega)
  refine ⟨_, _, _, _, _, rfl, rfl, rfl, rfl, rfl, ?_⟩
  rw [hm, hs]
  simp only [Int.toNat_natCast]
  refine ⟨by omega, ?_, ?_, ?_, ?_, by omega, ?_, by omega, by omega⟩
  · have := blw_lt v.toNat P v.isLt (by omega); omega
  · intro h; have := blw_mono v.toNat w.toNat P h; omega
  · intro h; have := blw_mono w.toNat v.toNat P h; omega
  · have := blw_mono_n v.toNat P (P + Q) (by omega); omega
  · have := blw_mul v.toNat P Q (by omega)
    rw [← this]; simp

set_option maxHeartbeats 2000000 in
theorem rngOrder_aux (v w' : BitVec 64) (n m p q : Int) (n0 : -2147483648 ≤ n) (n1 : n ≤ 2147483647) (m0 : -2147483648 ≤ m) (m1 : m ≤ 2147483647)
    (p0 : 0 ≤ p) (p1 : p ≤ 2147483647) (q0 : 0 ≤ q) (q1 : q ≤ 2147483647) (hp : (if n < wrap32 (-wrap32 (n + 1)) then wrap32 (-wrap32 (n + 1)) else n) = p)
    (hq : (if m < wrap32 (-wrap32 (m + 1)) then wrap32 (-wrap32 (m + 1)) else m) = q) (w : World) :
    Calls Try.prog 5 #[u v, u w', .int .i32 n, .int .i32 m] w fun e w' => e = .returned (.bool true) ∧ Below w.heap.size w w' := by
  obtain ⟨A, B, C, D, R, hA, hB, hC, hR, hD, a0, a1, ab, ba, ac, d0, hd, r0, r1⟩ := order_facts v w' p q p0 p1 q0 q1
  have hbn : 0 ≤ B := by omega
  have HA := Hd.mk hA
  have HB := Hd.mk hB
  have HC := Hd.mk hC
  have HD := Hd.mk hD
  have HQ := Hd.mk hd
  have hR2 : wrap64 R = R := by unfold wrap64; omega
  have HAB := Hd.mk ab
  have HBA := Hd.mk ba
  clear hA hB hC hD hd ab ba
  go_enter Try.func5, Try.ntmps5
  go_wp2_with fail
  refine (Below_yes v (p + 1) (by omega) (by omega) _).mono ?_
  rintro e w1 ⟨rfl, rfl⟩
  rw [HA.out]
  go_wp2_with fail
  refine (Below_yes w' (p + 1) (by omega) (by omega) _).mono ?_
  rintro e w1 ⟨rfl, rfl⟩
  rw [HB.out]
  go_wp2_with fail
  refine (Below_yes v (p + 1 + (q + 1)) (by omega) (by omega) _).mono ?_
  rintro e w1 ⟨rfl, rfl⟩
  rw [HC.out]
  go_wp2_with fail
  refine (Below_yes v R (by omega) (by omega) _).mono ?_
  rintro e w1 ⟨rfl, rfl⟩
  rw [HD.out]
  clear hp hq hR hR2
  have hdq : wrap64 (D.tdiv (q + 1)) = A := by rw [Int.tdiv_eq_ediv_of_nonneg d0, HQ.out]; unfold wrap64; omega
  rcases Nat.lt_trichotomy v.toNat w'.toNat with h | h | h
  · have t1 : v.ult w' = true := by rw [BitVec.ult]; exact decide_eq_true h
    have t2 : w'.ult v = false := by rw [BitVec.ult]; exact decide_eq_false (by omega)
    have hab := HAB.out (by omega)
    clear h
    go_wp2_with fail
    refine (awake_any _).mono ?_
    rintro e w6 ⟨rfl, hB6⟩
    go_wp2_with fail
    go_ret
    exact ⟨rfl, hB6⟩
  · have t1 : v.ult w' = false := by rw [BitVec.ult]; exact decide_eq_false (by omega)
    have t2 : w'.ult v = false := by rw [BitVec.ult]; exact decide_eq_false (by omega)
    have hab := HAB.out (by omega)
    have hba := HBA.out (by omega)
    clear h
    go_wp2_with fail
    refine (awake_any _).mono ?_
    rintro e w6 ⟨rfl, hB6⟩
    go_wp2_with fail
    go_ret
    exact ⟨rfl, hB6⟩
  · have t1 : v.ult w' = false := by rw [BitVec.ult]; exact decide_eq_false (by omega)
    have t2 : w'.ult v = true := by rw [BitVec.ult]; exact decide_eq_true h
    have hba := HBA.out (by omega)
    clear h
    go_wp2_with fail
    refine (awake_any _).mono ?_
    rintro e w6 ⟨rfl, hB6⟩
    go_wp2_with fail
    go_ret
    exact ⟨rfl, hB6⟩

theorem rngOrder_walk (v w' : BitVec 64) (n m : Int) (n0 : -2147483648 ≤ n) (n1 : n ≤ 2147483647) (m0 : -2147483648 ≤ m) (m1 : m ≤ 2147483647) (w : World) :
    Calls Try.prog 5 #[u v, u w', .int .i32 n, .int .i32 m] w fun e w' => e = .returned (.bool true) ∧ Below w.heap.size w w' := by
  obtain ⟨p, p0, p1, hp⟩ := max_neg n n0 n1
  obtain ⟨q, q0, q1, hq⟩ := max_neg m m0 m1
  exact rngOrder_aux v w' n m p q n0 n1 m0 m1 p0 p1 q0 q1 hp hq w
end Go.Proofs.Ytpioobaapigjcaa
