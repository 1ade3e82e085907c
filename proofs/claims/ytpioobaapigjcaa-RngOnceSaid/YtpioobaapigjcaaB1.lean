/- Walks of the laws RngOnce, RngApart. -/
import Derived.Test.YtpioobaapigjcaaA4
namespace Go.Proofs.Ytpioobaapigjcaa
open Go.RowKit
set_option linter.unusedVariables false

theorem at_inj (seed : BitVec 64) (p a b : Int) (a0 : 0 ≤ a) (a1 : a ≤ 281474976710656) (b0 : 0 ≤ b) (b1 : b ≤ 281474976710656) : atV (keyV seed p) a = atV (keyV seed p) b ↔ a = b := by
  constructor
  · intro h
    have h2 := congrArg (fun v => (findV seed p v).toNat) h
    simp only [find_at, nv_int a a0 a1, nv_int b b0 b1] at h2
    omega
  · rintro rfl; rfl

theorem idx_num (i : BitVec 64) : ∃ a : Int, 0 ≤ a ∧ a ≤ 281474976710656 ∧ IntKind.i64.wrap (nv (i % 281474976710657#64)) = a := by
  have h : (i % 281474976710657#64).toNat < 281474976710657 := by rw [BitVec.toNat_umod]; exact Nat.mod_lt _ (by decide)
  refine ⟨((i % 281474976710657#64).toNat : Int), by omega, by omega, ?_⟩
  rw [nv, wrap_i64_toInt, BitVec.toInt_ofInt, Int.bmod_eq_of_le (by omega) (by omega)]

set_option maxHeartbeats 1000000 in
theorem rngOnce_walk (seed : BitVec 64) (p : Int) (p0 : 0 ≤ p) (p1 : p ≤ 65535) (i j : BitVec 64) (w : World) :
    Calls Try.prog 3 #[u seed, .int .u16 p, u i, u j] w fun e w' => e = .returned (.bool true) ∧ Below w.heap.size w w' := by
  obtain ⟨a, a0, a1, ha⟩ := idx_num i
  obtain ⟨b, b0, b1, hb⟩ := idx_num j
  have hxy : ((atV (keyV seed p) a == atV (keyV seed p) b) == (a == b)) = true := by
    rw [beq_iff_eq, Bool.eq_iff_iff, beq_iff_eq, beq_iff_eq, at_inj seed p a b a0 a1 b0 b1]
  go_enter Try.func3, Try.ntmps3
  go_wp2_with fail
  refine (Value_yes seed p a p0 (by omega) a0 a1 _).mono ?_
  rintro e w1 ⟨rfl, hB1⟩
  go_wp2_with fail
  refine (Value_yes seed p b p0 (by omega) b0 b1 _).mono ?_
  rintro e w2 ⟨rfl, hB2⟩
  have hB := hB1.trans (hB2.mono hB1.size)
  clear hB1 hB2
  go_wp2_with fail
  refine (Find_at seed p a p0 (by omega) a0 a1 _).mono ?_
  rintro e w3 ⟨rfl, hB3⟩
  have hB4 := hB.trans (hB3.mono hB.size)
  clear hB hB3
  go_wp2_with fail
  refine (Find_at seed p b p0 (by omega) b0 b1 _).mono ?_
  rintro e w5 ⟨rfl, hB5⟩
  have hB := hB4.trans (hB5.mono hB4.size)
  clear hB4 hB5
  go_wp2_with fail
  refine (awake_any _).mono ?_
  rintro e w6 ⟨rfl, hB6⟩
  have hB7 := hB.trans (hB6.mono hB.size)
  go_wp2_with fail
  go_ret
  exact ⟨rfl, hB7⟩

theorem join_inj (a b c d : BitVec 64) (h : a = c ∨ b = d) : joinV [a, b] = joinV [c, d] ↔ (a = c ∧ b = d) := by
  constructor
  · intro e
    have e1 : joinStep (joinStep 0#64 a) b = joinStep (joinStep 0#64 c) d := e
    unfold joinStep at e1
    rw [mix_inj] at e1
    rcases h with rfl | rfl
    · exact ⟨rfl, by grind⟩
    · refine ⟨?_, rfl⟩
      have e2 : mixV (11400714819323198485#64 + a + 0#64 * 11400714819323198485#64) * 11400714819323198485#64 = mixV (11400714819323198485#64 + c + 0#64 * 11400714819323198485#64) * 11400714819323198485#64 := by grind
      have e3 := congrArg (· * byV 5) e2
      simp only [BitVec.mul_assoc, byV5, BitVec.mul_one] at e3
      rw [mix_inj] at e3
      grind
  · rintro ⟨rfl, rfl⟩; rfl

theorem p_inj (p q : Int) (p0 : 0 ≤ p) (p1 : p ≤ 65535) (q0 : 0 ≤ q) (q1 : q ≤ 65535) : BitVec.ofInt 64 p = BitVec.ofInt 64 q ↔ p = q := by
  constructor
  · intro h
    have := congrArg BitVec.toNat h
    rw [nv_int p p0 (by omega), nv_int q q0 (by omega)] at this
    omega
  · rintro rfl; rfl
theorem key_inj (s t : BitVec 64) (p q : Int) (p0 : 0 ≤ p) (p1 : p ≤ 65535) (q0 : 0 ≤ q) (q1 : q ≤ 65535) (h : s = t ∨ p = q) : keyV s p = keyV t q ↔ (s = t ∧ p = q) := by
  unfold keyV
  rw [join_inj _ _ _ _ (h.imp id (fun e => by rw [e])), p_inj p q p0 p1 q0 q1]
theorem at_key_inj (k l : BitVec 64) (i : Int) : atV k i = atV l i ↔ k = l := by
  unfold atV
  rw [mix_inj]
  constructor
  · intro h; grind
  · rintro rfl; rfl

set_option maxHeartbeats 1000000 in
theorem rngApart_ss (seed : BitVec 64) (p : Int) (p0 : 0 ≤ p) (p1 : p ≤ 65535)  (a : Int) (a0 : 0 ≤ a) (a1 : a ≤ 281474976710656) (i : BitVec 64) (ha : IntKind.i64.wrap (nv (i % 281474976710657#64)) = a) (w : World) :
    Calls Try.prog 6 #[u seed, u seed, .int .u16 p, .int .u16 p, u i] w fun e w' => e = .returned (.bool true) ∧ Below w.heap.size w w' := by
  go_enter Try.func6, Try.ntmps6
  go_wp2_with fail
  refine (Key_yes seed p p0 (by omega) _).mono ?_
  rintro e w1 ⟨rfl, hB1⟩
  go_wp2_with fail
  refine (Key_yes seed p (by omega) (by omega) _).mono ?_
  rintro e w2 ⟨rfl, hB2⟩
  have hB := hB1.trans (hB2.mono hB1.size)
  clear hB1 hB2
  go_wp2_with fail
  refine (Value_yes seed p a p0 (by omega) a0 a1 _).mono ?_
  rintro e w3 ⟨rfl, hB3⟩
  have hB4 := hB.trans (hB3.mono hB.size)
  clear hB hB3
  go_wp2_with fail
  refine (Value_yes seed p a (by omega) (by omega) a0 a1 _).mono ?_
  rintro e w5 ⟨rfl, hB5⟩
  have hB := hB4.trans (hB5.mono hB4.size)
  clear hB4 hB5
  go_wp2_with fail
  refine (awake_any _).mono ?_
  rintro e w6 ⟨rfl, hB6⟩
  have hB7 := hB.trans (hB6.mono hB.size)
  go_wp2_with fail
  go_ret
  exact ⟨rfl, hB7⟩

set_option maxHeartbeats 1000000 in
theorem rngApart_sd (seed : BitVec 64) (p : Int) (p0 : 0 ≤ p) (p1 : p ≤ 65535) (q : Int) (q0 : 0 ≤ q) (q1 : q ≤ 65535) (hne : p ≠ q) (a : Int) (a0 : 0 ≤ a) (a1 : a ≤ 281474976710656) (i : BitVec 64) (ha : IntKind.i64.wrap (nv (i % 281474976710657#64)) = a) (w : World) :
    Calls Try.prog 6 #[u seed, u seed, .int .u16 p, .int .u16 q, u i] w fun e w' => e = .returned (.bool true) ∧ Below w.heap.size w w' := by
  have hk : (keyV seed p == keyV seed q) = false := beq_eq_false_iff_ne.2 (fun e => hne ((key_inj seed seed p q p0 p1 q0 q1 (.inl rfl)).1 e).2)
  have hx : (atV (keyV seed p) a == atV (keyV seed q) a) = false := beq_eq_false_iff_ne.2 (fun e => beq_eq_false_iff_ne.1 hk ((at_key_inj _ _ a).1 e))
  have hpq : (p == q) = false := beq_eq_false_iff_ne.2 hne
  have hpq' : (p != q) = true := bne_iff_ne.2 hne
  clear hne
  go_enter Try.func6, Try.ntmps6
  go_wp2_with fail
  refine (Key_yes seed p p0 (by omega) _).mono ?_
  rintro e w1 ⟨rfl, hB1⟩
  go_wp2_with fail
  refine (Key_yes seed q (by omega) (by omega) _).mono ?_
  rintro e w2 ⟨rfl, hB2⟩
  have hB := hB1.trans (hB2.mono hB1.size)
  clear hB1 hB2
  go_wp2_with fail
  refine (Value_yes seed p a p0 (by omega) a0 a1 _).mono ?_
  rintro e w3 ⟨rfl, hB3⟩
  have hB4 := hB.trans (hB3.mono hB.size)
  clear hB hB3
  go_wp2_with fail
  refine (Value_yes seed q a (by omega) (by omega) a0 a1 _).mono ?_
  rintro e w5 ⟨rfl, hB5⟩
  have hB := hB4.trans (hB5.mono hB4.size)
  clear hB4 hB5
  go_wp2_with fail
  refine (awake_any _).mono ?_
  rintro e w6 ⟨rfl, hB6⟩
  have hB7 := hB.trans (hB6.mono hB.size)
  go_wp2_with fail
  go_ret
  exact ⟨rfl, hB7⟩

set_option maxHeartbeats 1000000 in
theorem rngApart_ds (seed other : BitVec 64) (hs : seed ≠ other) (p : Int) (p0 : 0 ≤ p) (p1 : p ≤ 65535)  (a : Int) (a0 : 0 ≤ a) (a1 : a ≤ 281474976710656) (i : BitVec 64) (ha : IntKind.i64.wrap (nv (i % 281474976710657#64)) = a) (w : World) :
    Calls Try.prog 6 #[u seed, u other, .int .u16 p, .int .u16 p, u i] w fun e w' => e = .returned (.bool true) ∧ Below w.heap.size w w' := by
  have hk : (keyV seed p == keyV other p) = false := beq_eq_false_iff_ne.2 (fun e => hs ((key_inj seed other p p p0 p1 p0 p1 (.inr rfl)).1 e).1)
  have hx : (atV (keyV seed p) a == atV (keyV other p) a) = false := beq_eq_false_iff_ne.2 (fun e => beq_eq_false_iff_ne.1 hk ((at_key_inj _ _ a).1 e))
  have hso : (seed == other) = false := beq_eq_false_iff_ne.2 hs
  have hso' : (seed != other) = true := bne_iff_ne.2 hs
  clear hs
  go_enter Try.func6, Try.ntmps6
  go_wp2_with fail
  refine (Key_yes seed p p0 (by omega) _).mono ?_
  rintro e w1 ⟨rfl, hB1⟩
  go_wp2_with fail
  refine (Key_yes other p (by omega) (by omega) _).mono ?_
  rintro e w2 ⟨rfl, hB2⟩
  have hB := hB1.trans (hB2.mono hB1.size)
  clear hB1 hB2
  go_wp2_with fail
  refine (Value_yes seed p a p0 (by omega) a0 a1 _).mono ?_
  rintro e w3 ⟨rfl, hB3⟩
  have hB4 := hB.trans (hB3.mono hB.size)
  clear hB hB3
  go_wp2_with fail
  refine (Value_yes other p a (by omega) (by omega) a0 a1 _).mono ?_
  rintro e w5 ⟨rfl, hB5⟩
  have hB := hB4.trans (hB5.mono hB4.size)
  clear hB4 hB5
  go_wp2_with fail
  refine (awake_any _).mono ?_
  rintro e w6 ⟨rfl, hB6⟩
  have hB7 := hB.trans (hB6.mono hB.size)
  go_wp2_with fail
  go_ret
  exact ⟨rfl, hB7⟩

set_option maxHeartbeats 1000000 in
theorem rngApart_dd (seed other : BitVec 64) (hs : seed ≠ other) (p : Int) (p0 : 0 ≤ p) (p1 : p ≤ 65535) (q : Int) (q0 : 0 ≤ q) (q1 : q ≤ 65535) (hne : p ≠ q) (a : Int) (a0 : 0 ≤ a) (a1 : a ≤ 281474976710656) (i : BitVec 64) (ha : IntKind.i64.wrap (nv (i % 281474976710657#64)) = a) (w : World) :
    Calls Try.prog 6 #[u seed, u other, .int .u16 p, .int .u16 q, u i] w fun e w' => e = .returned (.bool true) ∧ Below w.heap.size w w' := by
  have hk : (keyV seed p == keyV other p) = false := beq_eq_false_iff_ne.2 (fun e => hs ((key_inj seed other p p p0 p1 p0 p1 (.inr rfl)).1 e).1)
  have hx : (atV (keyV seed p) a == atV (keyV other p) a) = false := beq_eq_false_iff_ne.2 (fun e => beq_eq_false_iff_ne.1 hk ((at_key_inj _ _ a).1 e))
  have hso : (seed == other) = false := beq_eq_false_iff_ne.2 hs
  have hso' : (seed != other) = true := bne_iff_ne.2 hs
  clear hs
  have hpq : (p == q) = false := beq_eq_false_iff_ne.2 hne
  have hpq' : (p != q) = true := bne_iff_ne.2 hne
  clear hne
  go_enter Try.func6, Try.ntmps6
  go_wp2_with fail
  refine (Key_yes seed p p0 (by omega) _).mono ?_
  rintro e w1 ⟨rfl, hB1⟩
  go_wp2_with fail
  refine (Key_yes other p (by omega) (by omega) _).mono ?_
  rintro e w2 ⟨rfl, hB2⟩
  have hB := hB1.trans (hB2.mono hB1.size)
  clear hB1 hB2
  go_wp2_with fail
  refine (Value_yes seed p a p0 (by omega) a0 a1 _).mono ?_
  rintro e w3 ⟨rfl, hB3⟩
  have hB4 := hB.trans (hB3.mono hB.size)
  clear hB hB3
  go_wp2_with fail
  refine (Value_yes other p a (by omega) (by omega) a0 a1 _).mono ?_
  rintro e w5 ⟨rfl, hB5⟩
  have hB := hB4.trans (hB5.mono hB4.size)
  clear hB4 hB5
  go_wp2_with fail
  refine (awake_any _).mono ?_
  rintro e w6 ⟨rfl, hB6⟩
  have hB7 := hB.trans (hB6.mono hB.size)
  go_wp2_with fail
  go_ret
  exact ⟨rfl, hB7⟩

theorem rngApart_walk (seed other : BitVec 64) (p q : Int) (p0 : 0 ≤ p) (p1 : p ≤ 65535) (q0 : 0 ≤ q) (q1 : q ≤ 65535) (i : BitVec 64) (w : World) :
    Calls Try.prog 6 #[u seed, u other, .int .u16 p, .int .u16 q, u i] w fun e w' => e = .returned (.bool true) ∧ Below w.heap.size w w' := by
  obtain ⟨a, a0, a1, ha⟩ := idx_num i
  by_cases hs : seed = other
  · subst hs
    by_cases hp : p = q
    · subst hp; exact rngApart_ss seed p p0 p1 a a0 a1 i ha w
    · exact rngApart_sd seed p p0 p1 q q0 q1 hp a a0 a1 i ha w
  · by_cases hp : p = q
    · subst hp; exact rngApart_ds seed other hs p p0 p1 a a0 a1 i ha w
    · exact rngApart_dd seed other hs p p0 p1 q q0 q1 hp a a0 a1 i ha w
end Go.Proofs.Ytpioobaapigjcaa
