/- Walk of the law WordDivides. -/
import Derived.Test.YtbmommomhepfpaaW8
import Derived.Test.YtbmommomhepfpaaP2
namespace Go.Proofs.Ytbmommomhepfpaa
open Go.RowKit

theorem exact4 (a b : BitVec 64) (hb : ¬ b = 0#64) : exactV 4 a b = (((0#64).sle a || (0#64).sle b) || (0#64).sle (a.sdiv b)) := by
  rw [exactV, if_pos (appE_4 b hb), appV_4 a b hb]; rfl

/-- What the walk needs to know of a, b, the quotient, the rest. -/
structure DivF (a b r m n : BitVec 64) (q : BitVec 64) (X : Bool) : Prop where
  fq : a.sdiv b = q
  fr : a.srem b = r
  fm : modV a b = m
  fmn : modV a n = m
  fn : 0#64 - b = n
  b0 : ¬ b = 0#64
  n0 : ¬ n = 0#64
  sum : q * b + r = a
  ex : exactV 4 a b = X

theorem slt_of {x y : BitVec 64} (h : x.toInt < y.toInt) : x.slt y = true := by rw [BitVec.slt]; exact decide_eq_true h
theorem not_slt {x y : BitVec 64} (h : y.toInt ≤ x.toInt) : x.slt y = false := by rw [BitVec.slt]; exact decide_eq_false (by omega)
theorem sle_of {x y : BitVec 64} (h : x.toInt ≤ y.toInt) : x.sle y = true := by rw [BitVec.sle]; exact decide_eq_true h
theorem not_sle {x y : BitVec 64} (h : y.toInt < x.toInt) : x.sle y = false := by rw [BitVec.sle]; exact decide_eq_false (by omega)

set_option maxRecDepth 100000 in
set_option maxHeartbeats 2000000 in
theorem div_pp0 (a b r m n q : BitVec 64) (F : DivF a b r m n q true)
    (r1 : (0#64).slt r = true) (r2 : r.slt 0#64 = false) (a1 : a.slt 0#64 = false) (b1 : (0#64).slt b = true) (b2 : b.slt 0#64 = false) (m1 : m.slt 0#64 = false) (c1 : b.sle r = false) (c2 : r.sle (-b) = false) (c3 : b.sle m = false) (hm : m = r) (x1 : (a != 9223372036854775808#64) = true) (w : World) :
    Calls Try.prog 4 #[s a, s b] w fun e w' => e = .returned (.bool true) ∧ Below w.heap.size w w' := by
  have HM := Hd.mk hm
  clear hm
  have hb0 : (b == 0#64) = false := beq_eq_false_iff_ne.2 F.b0
  go_enter Try.func4, Try.ntmps4
  go_wp2_with fail
  refine (do_4 _ _ F.b0 _).mono ?_
  rintro e w1 ⟨rfl, hB1⟩
  rw [F.fq]
  go_wp2_with fail
  refine (do_5 _ _ F.b0 _).mono ?_
  rintro e w2 ⟨rfl, hB2⟩
  rw [F.fr]
  have hB := hB1.trans (hB2.mono hB1.size)
  clear hB1 hB2
  go_wp2_with fail
  refine (do_6 _ _ F.b0 _).mono ?_
  rintro e w3 ⟨rfl, hB3⟩
  rw [F.fm]
  have hB4 := hB.trans (hB3.mono hB.size)
  clear hB hB3
  go_wp2_with fail
  refine (do_3 _ _ _).mono ?_
  rintro e w5 ⟨rfl, hB5⟩
  have hB := hB4.trans (hB5.mono hB4.size)
  clear hB4 hB5
  go_wp2_with fail
  refine (do_1 _ _ _).mono ?_
  rintro e w6 ⟨rfl, hB6⟩
  rw [F.sum]
  have hB4 := hB.trans (hB6.mono hB.size)
  clear hB hB6
  go_wp2_with fail
  refine (exact_any 4 (by decide) (by decide) _ _ _).mono ?_
  rintro e w7 ⟨rfl, hB7⟩
  rw [F.ex, appE_4 b F.b0]
  have hB := hB4.trans (hB7.mono hB4.size)
  clear hB4 hB7
  try rw [← HM.out]
  go_wp2_with fail
  refine (do_2 0#64 b _).mono ?_
  rintro e w8 ⟨rfl, hB8⟩
  rw [F.fn]
  have hB4 := hB.trans (hB8.mono hB.size)
  clear hB hB8
  go_wp2_with fail
  refine (do_6 _ _ F.n0 _).mono ?_
  rintro e w9 ⟨rfl, hB9⟩
  rw [F.fmn]
  have hB := hB4.trans (hB9.mono hB4.size)
  clear hB4 hB9
  go_wp2_with fail
  refine (awake_any _).mono ?_
  rintro e w10 ⟨rfl, hB10⟩
  have hB4 := hB.trans (hB10.mono hB.size)
  clear hB hB10
  go_wp2_with fail
  go_ret
  exact ⟨rfl, hB4⟩

set_option maxRecDepth 100000 in
set_option maxHeartbeats 2000000 in
theorem div_pn0 (a b r m n q : BitVec 64) (F : DivF a b r m n q true)
    (r1 : (0#64).slt r = true) (r2 : r.slt 0#64 = false) (a1 : a.slt 0#64 = false) (b1 : (0#64).slt b = false) (b2 : b.slt 0#64 = true) (m1 : m.slt 0#64 = false) (c1 : r.sle b = false) (c3 : (-m).sle b = false) (c2 : (-r).sle b = false) (hm : m = r) (x1 : (a != 9223372036854775808#64) = true) (w : World) :
    Calls Try.prog 4 #[s a, s b] w fun e w' => e = .returned (.bool true) ∧ Below w.heap.size w w' := by
  have HM := Hd.mk hm
  clear hm
  have hb0 : (b == 0#64) = false := beq_eq_false_iff_ne.2 F.b0
  go_enter Try.func4, Try.ntmps4
  go_wp2_with fail
  refine (do_4 _ _ F.b0 _).mono ?_
  rintro e w1 ⟨rfl, hB1⟩
  rw [F.fq]
  go_wp2_with fail
  refine (do_5 _ _ F.b0 _).mono ?_
  rintro e w2 ⟨rfl, hB2⟩
  rw [F.fr]
  have hB := hB1.trans (hB2.mono hB1.size)
  clear hB1 hB2
  go_wp2_with fail
  refine (do_6 _ _ F.b0 _).mono ?_
  rintro e w3 ⟨rfl, hB3⟩
  rw [F.fm]
  have hB4 := hB.trans (hB3.mono hB.size)
  clear hB hB3
  go_wp2_with fail
  refine (do_3 _ _ _).mono ?_
  rintro e w5 ⟨rfl, hB5⟩
  have hB := hB4.trans (hB5.mono hB4.size)
  clear hB4 hB5
  go_wp2_with fail
  refine (do_1 _ _ _).mono ?_
  rintro e w6 ⟨rfl, hB6⟩
  rw [F.sum]
  have hB4 := hB.trans (hB6.mono hB.size)
  clear hB hB6
  go_wp2_with fail
  refine (exact_any 4 (by decide) (by decide) _ _ _).mono ?_
  rintro e w7 ⟨rfl, hB7⟩
  rw [F.ex, appE_4 b F.b0]
  have hB := hB4.trans (hB7.mono hB4.size)
  clear hB4 hB7
  try rw [← HM.out]
  go_wp2_with fail
  refine (do_2 0#64 b _).mono ?_
  rintro e w8 ⟨rfl, hB8⟩
  rw [F.fn]
  have hB4 := hB.trans (hB8.mono hB.size)
  clear hB hB8
  go_wp2_with fail
  refine (do_6 _ _ F.n0 _).mono ?_
  rintro e w9 ⟨rfl, hB9⟩
  rw [F.fmn]
  have hB := hB4.trans (hB9.mono hB4.size)
  clear hB4 hB9
  go_wp2_with fail
  refine (awake_any _).mono ?_
  rintro e w10 ⟨rfl, hB10⟩
  have hB4 := hB.trans (hB10.mono hB.size)
  clear hB hB10
  go_wp2_with fail
  go_ret
  exact ⟨rfl, hB4⟩

set_option maxRecDepth 100000 in
set_option maxHeartbeats 2000000 in
theorem div_np0 (a b r m n q : BitVec 64) (F : DivF a b r m n q true)
    (r1 : (0#64).slt r = false) (r2 : r.slt 0#64 = true) (a2 : (0#64).slt a = false) (b1 : (0#64).slt b = true) (b2 : b.slt 0#64 = false) (m1 : m.slt 0#64 = false) (c1 : b.sle r = false) (c2 : r.sle (-b) = false) (c3 : b.sle m = false) (hm : m = r + b) (x1 : (a != 9223372036854775808#64) = true) (w : World) :
    Calls Try.prog 4 #[s a, s b] w fun e w' => e = .returned (.bool true) ∧ Below w.heap.size w w' := by
  have HM := Hd.mk hm
  clear hm
  have hb0 : (b == 0#64) = false := beq_eq_false_iff_ne.2 F.b0
  go_enter Try.func4, Try.ntmps4
  go_wp2_with fail
  refine (do_4 _ _ F.b0 _).mono ?_
  rintro e w1 ⟨rfl, hB1⟩
  rw [F.fq]
  go_wp2_with fail
  refine (do_5 _ _ F.b0 _).mono ?_
  rintro e w2 ⟨rfl, hB2⟩
  rw [F.fr]
  have hB := hB1.trans (hB2.mono hB1.size)
  clear hB1 hB2
  go_wp2_with fail
  refine (do_6 _ _ F.b0 _).mono ?_
  rintro e w3 ⟨rfl, hB3⟩
  rw [F.fm]
  have hB4 := hB.trans (hB3.mono hB.size)
  clear hB hB3
  go_wp2_with fail
  refine (do_3 _ _ _).mono ?_
  rintro e w5 ⟨rfl, hB5⟩
  have hB := hB4.trans (hB5.mono hB4.size)
  clear hB4 hB5
  go_wp2_with fail
  refine (do_1 _ _ _).mono ?_
  rintro e w6 ⟨rfl, hB6⟩
  rw [F.sum]
  have hB4 := hB.trans (hB6.mono hB.size)
  clear hB hB6
  go_wp2_with fail
  refine (exact_any 4 (by decide) (by decide) _ _ _).mono ?_
  rintro e w7 ⟨rfl, hB7⟩
  rw [F.ex, appE_4 b F.b0]
  have hB := hB4.trans (hB7.mono hB4.size)
  clear hB4 hB7
  try rw [← HM.out]
  go_wp2_with fail
  refine (do_2 0#64 b _).mono ?_
  rintro e w8 ⟨rfl, hB8⟩
  rw [F.fn]
  have hB4 := hB.trans (hB8.mono hB.size)
  clear hB hB8
  go_wp2_with fail
  refine (do_6 _ _ F.n0 _).mono ?_
  rintro e w9 ⟨rfl, hB9⟩
  rw [F.fmn]
  have hB := hB4.trans (hB9.mono hB4.size)
  clear hB4 hB9
  go_wp2_with fail
  refine (awake_any _).mono ?_
  rintro e w10 ⟨rfl, hB10⟩
  have hB4 := hB.trans (hB10.mono hB.size)
  clear hB hB10
  go_wp2_with fail
  go_ret
  exact ⟨rfl, hB4⟩

set_option maxRecDepth 100000 in
set_option maxHeartbeats 2000000 in
theorem div_np1 (a b r m n q : BitVec 64) (F : DivF a b r m n q true)
    (r1 : (0#64).slt r = false) (r2 : r.slt 0#64 = true) (a2 : (0#64).slt a = false) (b1 : (0#64).slt b = true) (b2 : b.slt 0#64 = false) (m1 : m.slt 0#64 = false) (c1 : b.sle r = false) (c2 : r.sle (-b) = false) (c3 : b.sle m = false) (hm : m = r + b) (x1 : (a != 9223372036854775808#64) = false) (x2 : (b != 18446744073709551615#64) = true) (w : World) :
    Calls Try.prog 4 #[s a, s b] w fun e w' => e = .returned (.bool true) ∧ Below w.heap.size w w' := by
  have HM := Hd.mk hm
  clear hm
  have hb0 : (b == 0#64) = false := beq_eq_false_iff_ne.2 F.b0
  go_enter Try.func4, Try.ntmps4
  go_wp2_with fail
  refine (do_4 _ _ F.b0 _).mono ?_
  rintro e w1 ⟨rfl, hB1⟩
  rw [F.fq]
  go_wp2_with fail
  refine (do_5 _ _ F.b0 _).mono ?_
  rintro e w2 ⟨rfl, hB2⟩
  rw [F.fr]
  have hB := hB1.trans (hB2.mono hB1.size)
  clear hB1 hB2
  go_wp2_with fail
  refine (do_6 _ _ F.b0 _).mono ?_
  rintro e w3 ⟨rfl, hB3⟩
  rw [F.fm]
  have hB4 := hB.trans (hB3.mono hB.size)
  clear hB hB3
  go_wp2_with fail
  refine (do_3 _ _ _).mono ?_
  rintro e w5 ⟨rfl, hB5⟩
  have hB := hB4.trans (hB5.mono hB4.size)
  clear hB4 hB5
  go_wp2_with fail
  refine (do_1 _ _ _).mono ?_
  rintro e w6 ⟨rfl, hB6⟩
  rw [F.sum]
  have hB4 := hB.trans (hB6.mono hB.size)
  clear hB hB6
  go_wp2_with fail
  refine (exact_any 4 (by decide) (by decide) _ _ _).mono ?_
  rintro e w7 ⟨rfl, hB7⟩
  rw [F.ex, appE_4 b F.b0]
  have hB := hB4.trans (hB7.mono hB4.size)
  clear hB4 hB7
  try rw [← HM.out]
  go_wp2_with fail
  refine (do_2 0#64 b _).mono ?_
  rintro e w8 ⟨rfl, hB8⟩
  rw [F.fn]
  have hB4 := hB.trans (hB8.mono hB.size)
  clear hB hB8
  go_wp2_with fail
  refine (do_6 _ _ F.n0 _).mono ?_
  rintro e w9 ⟨rfl, hB9⟩
  rw [F.fmn]
  have hB := hB4.trans (hB9.mono hB4.size)
  clear hB4 hB9
  go_wp2_with fail
  refine (awake_any _).mono ?_
  rintro e w10 ⟨rfl, hB10⟩
  have hB4 := hB.trans (hB10.mono hB.size)
  clear hB hB10
  go_wp2_with fail
  go_ret
  exact ⟨rfl, hB4⟩

set_option maxRecDepth 100000 in
set_option maxHeartbeats 2000000 in
theorem div_nn0 (a b r m n q : BitVec 64) (F : DivF a b r m n q true)
    (r1 : (0#64).slt r = false) (r2 : r.slt 0#64 = true) (a2 : (0#64).slt a = false) (b1 : (0#64).slt b = false) (b2 : b.slt 0#64 = true) (m1 : m.slt 0#64 = false) (c1 : r.sle b = false) (c3 : (-m).sle b = false) (hm : m = r - b) (x1 : (a != 9223372036854775808#64) = true) (w : World) :
    Calls Try.prog 4 #[s a, s b] w fun e w' => e = .returned (.bool true) ∧ Below w.heap.size w w' := by
  have HM := Hd.mk hm
  clear hm
  have hb0 : (b == 0#64) = false := beq_eq_false_iff_ne.2 F.b0
  go_enter Try.func4, Try.ntmps4
  go_wp2_with fail
  refine (do_4 _ _ F.b0 _).mono ?_
  rintro e w1 ⟨rfl, hB1⟩
  rw [F.fq]
  go_wp2_with fail
  refine (do_5 _ _ F.b0 _).mono ?_
  rintro e w2 ⟨rfl, hB2⟩
  rw [F.fr]
  have hB := hB1.trans (hB2.mono hB1.size)
  clear hB1 hB2
  go_wp2_with fail
  refine (do_6 _ _ F.b0 _).mono ?_
  rintro e w3 ⟨rfl, hB3⟩
  rw [F.fm]
  have hB4 := hB.trans (hB3.mono hB.size)
  clear hB hB3
  go_wp2_with fail
  refine (do_3 _ _ _).mono ?_
  rintro e w5 ⟨rfl, hB5⟩
  have hB := hB4.trans (hB5.mono hB4.size)
  clear hB4 hB5
  go_wp2_with fail
  refine (do_1 _ _ _).mono ?_
  rintro e w6 ⟨rfl, hB6⟩
  rw [F.sum]
  have hB4 := hB.trans (hB6.mono hB.size)
  clear hB hB6
  go_wp2_with fail
  refine (exact_any 4 (by decide) (by decide) _ _ _).mono ?_
  rintro e w7 ⟨rfl, hB7⟩
  rw [F.ex, appE_4 b F.b0]
  have hB := hB4.trans (hB7.mono hB4.size)
  clear hB4 hB7
  try rw [← HM.out]
  go_wp2_with fail
  refine (do_2 0#64 b _).mono ?_
  rintro e w8 ⟨rfl, hB8⟩
  rw [F.fn]
  have hB4 := hB.trans (hB8.mono hB.size)
  clear hB hB8
  go_wp2_with fail
  refine (do_6 _ _ F.n0 _).mono ?_
  rintro e w9 ⟨rfl, hB9⟩
  rw [F.fmn]
  have hB := hB4.trans (hB9.mono hB4.size)
  clear hB4 hB9
  go_wp2_with fail
  refine (awake_any _).mono ?_
  rintro e w10 ⟨rfl, hB10⟩
  have hB4 := hB.trans (hB10.mono hB.size)
  clear hB hB10
  go_wp2_with fail
  go_ret
  exact ⟨rfl, hB4⟩

set_option maxRecDepth 100000 in
set_option maxHeartbeats 2000000 in
theorem div_nn1 (a b r m n q : BitVec 64) (F : DivF a b r m n q true)
    (r1 : (0#64).slt r = false) (r2 : r.slt 0#64 = true) (a2 : (0#64).slt a = false) (b1 : (0#64).slt b = false) (b2 : b.slt 0#64 = true) (m1 : m.slt 0#64 = false) (c1 : r.sle b = false) (c3 : (-m).sle b = false) (hm : m = r - b) (x1 : (a != 9223372036854775808#64) = false) (x2 : (b != 18446744073709551615#64) = true) (w : World) :
    Calls Try.prog 4 #[s a, s b] w fun e w' => e = .returned (.bool true) ∧ Below w.heap.size w w' := by
  have HM := Hd.mk hm
  clear hm
  have hb0 : (b == 0#64) = false := beq_eq_false_iff_ne.2 F.b0
  go_enter Try.func4, Try.ntmps4
  go_wp2_with fail
  refine (do_4 _ _ F.b0 _).mono ?_
  rintro e w1 ⟨rfl, hB1⟩
  rw [F.fq]
  go_wp2_with fail
  refine (do_5 _ _ F.b0 _).mono ?_
  rintro e w2 ⟨rfl, hB2⟩
  rw [F.fr]
  have hB := hB1.trans (hB2.mono hB1.size)
  clear hB1 hB2
  go_wp2_with fail
  refine (do_6 _ _ F.b0 _).mono ?_
  rintro e w3 ⟨rfl, hB3⟩
  rw [F.fm]
  have hB4 := hB.trans (hB3.mono hB.size)
  clear hB hB3
  go_wp2_with fail
  refine (do_3 _ _ _).mono ?_
  rintro e w5 ⟨rfl, hB5⟩
  have hB := hB4.trans (hB5.mono hB4.size)
  clear hB4 hB5
  go_wp2_with fail
  refine (do_1 _ _ _).mono ?_
  rintro e w6 ⟨rfl, hB6⟩
  rw [F.sum]
  have hB4 := hB.trans (hB6.mono hB.size)
  clear hB hB6
  go_wp2_with fail
  refine (exact_any 4 (by decide) (by decide) _ _ _).mono ?_
  rintro e w7 ⟨rfl, hB7⟩
  rw [F.ex, appE_4 b F.b0]
  have hB := hB4.trans (hB7.mono hB4.size)
  clear hB4 hB7
  try rw [← HM.out]
  go_wp2_with fail
  refine (do_2 0#64 b _).mono ?_
  rintro e w8 ⟨rfl, hB8⟩
  rw [F.fn]
  have hB4 := hB.trans (hB8.mono hB.size)
  clear hB hB8
  go_wp2_with fail
  refine (do_6 _ _ F.n0 _).mono ?_
  rintro e w9 ⟨rfl, hB9⟩
  rw [F.fmn]
  have hB := hB4.trans (hB9.mono hB4.size)
  clear hB4 hB9
  go_wp2_with fail
  refine (awake_any _).mono ?_
  rintro e w10 ⟨rfl, hB10⟩
  have hB4 := hB.trans (hB10.mono hB.size)
  clear hB hB10
  go_wp2_with fail
  go_ret
  exact ⟨rfl, hB4⟩

set_option maxRecDepth 100000 in
set_option maxHeartbeats 2000000 in
theorem div_zp0 (a b r m n q : BitVec 64) (F : DivF a b r m n q true)
    (r1 : (0#64).slt r = false) (r2 : r.slt 0#64 = false) (b1 : (0#64).slt b = true) (b2 : b.slt 0#64 = false) (m1 : m.slt 0#64 = false) (c1 : b.sle r = false) (c2 : r.sle (-b) = false) (c3 : b.sle m = false) (hm : m = r) (x1 : (a != 9223372036854775808#64) = true) (w : World) :
    Calls Try.prog 4 #[s a, s b] w fun e w' => e = .returned (.bool true) ∧ Below w.heap.size w w' := by
  have HM := Hd.mk hm
  clear hm
  have hb0 : (b == 0#64) = false := beq_eq_false_iff_ne.2 F.b0
  go_enter Try.func4, Try.ntmps4
  go_wp2_with fail
  refine (do_4 _ _ F.b0 _).mono ?_
  rintro e w1 ⟨rfl, hB1⟩
  rw [F.fq]
  go_wp2_with fail
  refine (do_5 _ _ F.b0 _).mono ?_
  rintro e w2 ⟨rfl, hB2⟩
  rw [F.fr]
  have hB := hB1.trans (hB2.mono hB1.size)
  clear hB1 hB2
  go_wp2_with fail
  refine (do_6 _ _ F.b0 _).mono ?_
  rintro e w3 ⟨rfl, hB3⟩
  rw [F.fm]
  have hB4 := hB.trans (hB3.mono hB.size)
  clear hB hB3
  go_wp2_with fail
  refine (do_3 _ _ _).mono ?_
  rintro e w5 ⟨rfl, hB5⟩
  have hB := hB4.trans (hB5.mono hB4.size)
  clear hB4 hB5
  go_wp2_with fail
  refine (do_1 _ _ _).mono ?_
  rintro e w6 ⟨rfl, hB6⟩
  rw [F.sum]
  have hB4 := hB.trans (hB6.mono hB.size)
  clear hB hB6
  go_wp2_with fail
  refine (exact_any 4 (by decide) (by decide) _ _ _).mono ?_
  rintro e w7 ⟨rfl, hB7⟩
  rw [F.ex, appE_4 b F.b0]
  have hB := hB4.trans (hB7.mono hB4.size)
  clear hB4 hB7
  try rw [← HM.out]
  go_wp2_with fail
  refine (do_2 0#64 b _).mono ?_
  rintro e w8 ⟨rfl, hB8⟩
  rw [F.fn]
  have hB4 := hB.trans (hB8.mono hB.size)
  clear hB hB8
  go_wp2_with fail
  refine (do_6 _ _ F.n0 _).mono ?_
  rintro e w9 ⟨rfl, hB9⟩
  rw [F.fmn]
  have hB := hB4.trans (hB9.mono hB4.size)
  clear hB4 hB9
  go_wp2_with fail
  refine (awake_any _).mono ?_
  rintro e w10 ⟨rfl, hB10⟩
  have hB4 := hB.trans (hB10.mono hB.size)
  clear hB hB10
  go_wp2_with fail
  go_ret
  exact ⟨rfl, hB4⟩

set_option maxRecDepth 100000 in
set_option maxHeartbeats 2000000 in
theorem div_zp1 (a b r m n q : BitVec 64) (F : DivF a b r m n q true)
    (r1 : (0#64).slt r = false) (r2 : r.slt 0#64 = false) (b1 : (0#64).slt b = true) (b2 : b.slt 0#64 = false) (m1 : m.slt 0#64 = false) (c1 : b.sle r = false) (c2 : r.sle (-b) = false) (c3 : b.sle m = false) (hm : m = r) (x1 : (a != 9223372036854775808#64) = false) (x2 : (b != 18446744073709551615#64) = true) (w : World) :
    Calls Try.prog 4 #[s a, s b] w fun e w' => e = .returned (.bool true) ∧ Below w.heap.size w w' := by
  have HM := Hd.mk hm
  clear hm
  have hb0 : (b == 0#64) = false := beq_eq_false_iff_ne.2 F.b0
  go_enter Try.func4, Try.ntmps4
  go_wp2_with fail
  refine (do_4 _ _ F.b0 _).mono ?_
  rintro e w1 ⟨rfl, hB1⟩
  rw [F.fq]
  go_wp2_with fail
  refine (do_5 _ _ F.b0 _).mono ?_
  rintro e w2 ⟨rfl, hB2⟩
  rw [F.fr]
  have hB := hB1.trans (hB2.mono hB1.size)
  clear hB1 hB2
  go_wp2_with fail
  refine (do_6 _ _ F.b0 _).mono ?_
  rintro e w3 ⟨rfl, hB3⟩
  rw [F.fm]
  have hB4 := hB.trans (hB3.mono hB.size)
  clear hB hB3
  go_wp2_with fail
  refine (do_3 _ _ _).mono ?_
  rintro e w5 ⟨rfl, hB5⟩
  have hB := hB4.trans (hB5.mono hB4.size)
  clear hB4 hB5
  go_wp2_with fail
  refine (do_1 _ _ _).mono ?_
  rintro e w6 ⟨rfl, hB6⟩
  rw [F.sum]
  have hB4 := hB.trans (hB6.mono hB.size)
  clear hB hB6
  go_wp2_with fail
  refine (exact_any 4 (by decide) (by decide) _ _ _).mono ?_
  rintro e w7 ⟨rfl, hB7⟩
  rw [F.ex, appE_4 b F.b0]
  have hB := hB4.trans (hB7.mono hB4.size)
  clear hB4 hB7
  try rw [← HM.out]
  go_wp2_with fail
  refine (do_2 0#64 b _).mono ?_
  rintro e w8 ⟨rfl, hB8⟩
  rw [F.fn]
  have hB4 := hB.trans (hB8.mono hB.size)
  clear hB hB8
  go_wp2_with fail
  refine (do_6 _ _ F.n0 _).mono ?_
  rintro e w9 ⟨rfl, hB9⟩
  rw [F.fmn]
  have hB := hB4.trans (hB9.mono hB4.size)
  clear hB4 hB9
  go_wp2_with fail
  refine (awake_any _).mono ?_
  rintro e w10 ⟨rfl, hB10⟩
  have hB4 := hB.trans (hB10.mono hB.size)
  clear hB hB10
  go_wp2_with fail
  go_ret
  exact ⟨rfl, hB4⟩

set_option maxRecDepth 100000 in
set_option maxHeartbeats 2000000 in
theorem div_zn0 (a b r m n q : BitVec 64) (F : DivF a b r m n q true)
    (r1 : (0#64).slt r = false) (r2 : r.slt 0#64 = false) (b1 : (0#64).slt b = false) (b2 : b.slt 0#64 = true) (m1 : m.slt 0#64 = false) (c1 : r.sle b = false) (c3 : (-m).sle b = false) (hm : m = r) (x1 : (a != 9223372036854775808#64) = true) (w : World) :
    Calls Try.prog 4 #[s a, s b] w fun e w' => e = .returned (.bool true) ∧ Below w.heap.size w w' := by
  have HM := Hd.mk hm
  clear hm
  have hb0 : (b == 0#64) = false := beq_eq_false_iff_ne.2 F.b0
  go_enter Try.func4, Try.ntmps4
  go_wp2_with fail
  refine (do_4 _ _ F.b0 _).mono ?_
  rintro e w1 ⟨rfl, hB1⟩
  rw [F.fq]
  go_wp2_with fail
  refine (do_5 _ _ F.b0 _).mono ?_
  rintro e w2 ⟨rfl, hB2⟩
  rw [F.fr]
  have hB := hB1.trans (hB2.mono hB1.size)
  clear hB1 hB2
  go_wp2_with fail
  refine (do_6 _ _ F.b0 _).mono ?_
  rintro e w3 ⟨rfl, hB3⟩
  rw [F.fm]
  have hB4 := hB.trans (hB3.mono hB.size)
  clear hB hB3
  go_wp2_with fail
  refine (do_3 _ _ _).mono ?_
  rintro e w5 ⟨rfl, hB5⟩
  have hB := hB4.trans (hB5.mono hB4.size)
  clear hB4 hB5
  go_wp2_with fail
  refine (do_1 _ _ _).mono ?_
  rintro e w6 ⟨rfl, hB6⟩
  rw [F.sum]
  have hB4 := hB.trans (hB6.mono hB.size)
  clear hB hB6
  go_wp2_with fail
  refine (exact_any 4 (by decide) (by decide) _ _ _).mono ?_
  rintro e w7 ⟨rfl, hB7⟩
  rw [F.ex, appE_4 b F.b0]
  have hB := hB4.trans (hB7.mono hB4.size)
  clear hB4 hB7
  try rw [← HM.out]
  go_wp2_with fail
  refine (do_2 0#64 b _).mono ?_
  rintro e w8 ⟨rfl, hB8⟩
  rw [F.fn]
  have hB4 := hB.trans (hB8.mono hB.size)
  clear hB hB8
  go_wp2_with fail
  refine (do_6 _ _ F.n0 _).mono ?_
  rintro e w9 ⟨rfl, hB9⟩
  rw [F.fmn]
  have hB := hB4.trans (hB9.mono hB4.size)
  clear hB4 hB9
  go_wp2_with fail
  refine (awake_any _).mono ?_
  rintro e w10 ⟨rfl, hB10⟩
  have hB4 := hB.trans (hB10.mono hB.size)
  clear hB hB10
  go_wp2_with fail
  go_ret
  exact ⟨rfl, hB4⟩

set_option maxRecDepth 100000 in
set_option maxHeartbeats 2000000 in
theorem div_zn1 (a b r m n q : BitVec 64) (F : DivF a b r m n q true)
    (r1 : (0#64).slt r = false) (r2 : r.slt 0#64 = false) (b1 : (0#64).slt b = false) (b2 : b.slt 0#64 = true) (m1 : m.slt 0#64 = false) (c1 : r.sle b = false) (c3 : (-m).sle b = false) (hm : m = r) (x1 : (a != 9223372036854775808#64) = false) (x2 : (b != 18446744073709551615#64) = true) (w : World) :
    Calls Try.prog 4 #[s a, s b] w fun e w' => e = .returned (.bool true) ∧ Below w.heap.size w w' := by
  have HM := Hd.mk hm
  clear hm
  have hb0 : (b == 0#64) = false := beq_eq_false_iff_ne.2 F.b0
  go_enter Try.func4, Try.ntmps4
  go_wp2_with fail
  refine (do_4 _ _ F.b0 _).mono ?_
  rintro e w1 ⟨rfl, hB1⟩
  rw [F.fq]
  go_wp2_with fail
  refine (do_5 _ _ F.b0 _).mono ?_
  rintro e w2 ⟨rfl, hB2⟩
  rw [F.fr]
  have hB := hB1.trans (hB2.mono hB1.size)
  clear hB1 hB2
  go_wp2_with fail
  refine (do_6 _ _ F.b0 _).mono ?_
  rintro e w3 ⟨rfl, hB3⟩
  rw [F.fm]
  have hB4 := hB.trans (hB3.mono hB.size)
  clear hB hB3
  go_wp2_with fail
  refine (do_3 _ _ _).mono ?_
  rintro e w5 ⟨rfl, hB5⟩
  have hB := hB4.trans (hB5.mono hB4.size)
  clear hB4 hB5
  go_wp2_with fail
  refine (do_1 _ _ _).mono ?_
  rintro e w6 ⟨rfl, hB6⟩
  rw [F.sum]
  have hB4 := hB.trans (hB6.mono hB.size)
  clear hB hB6
  go_wp2_with fail
  refine (exact_any 4 (by decide) (by decide) _ _ _).mono ?_
  rintro e w7 ⟨rfl, hB7⟩
  rw [F.ex, appE_4 b F.b0]
  have hB := hB4.trans (hB7.mono hB4.size)
  clear hB4 hB7
  try rw [← HM.out]
  go_wp2_with fail
  refine (do_2 0#64 b _).mono ?_
  rintro e w8 ⟨rfl, hB8⟩
  rw [F.fn]
  have hB4 := hB.trans (hB8.mono hB.size)
  clear hB hB8
  go_wp2_with fail
  refine (do_6 _ _ F.n0 _).mono ?_
  rintro e w9 ⟨rfl, hB9⟩
  rw [F.fmn]
  have hB := hB4.trans (hB9.mono hB4.size)
  clear hB4 hB9
  go_wp2_with fail
  refine (awake_any _).mono ?_
  rintro e w10 ⟨rfl, hB10⟩
  have hB4 := hB.trans (hB10.mono hB.size)
  clear hB hB10
  go_wp2_with fail
  go_ret
  exact ⟨rfl, hB4⟩

set_option maxRecDepth 100000 in
set_option maxHeartbeats 2000000 in
theorem div_zn2 (a b r m n q : BitVec 64) (F : DivF a b r m n q false)
    (r1 : (0#64).slt r = false) (r2 : r.slt 0#64 = false) (b1 : (0#64).slt b = false) (b2 : b.slt 0#64 = true) (m1 : m.slt 0#64 = false) (c1 : r.sle b = false) (c3 : (-m).sle b = false) (hm : m = r) (x1 : (a != 9223372036854775808#64) = false) (x2 : (b != 18446744073709551615#64) = false) (w : World) :
    Calls Try.prog 4 #[s a, s b] w fun e w' => e = .returned (.bool true) ∧ Below w.heap.size w w' := by
  have HM := Hd.mk hm
  clear hm
  have hb0 : (b == 0#64) = false := beq_eq_false_iff_ne.2 F.b0
  go_enter Try.func4, Try.ntmps4
  go_wp2_with fail
  refine (do_4 _ _ F.b0 _).mono ?_
  rintro e w1 ⟨rfl, hB1⟩
  rw [F.fq]
  go_wp2_with fail
  refine (do_5 _ _ F.b0 _).mono ?_
  rintro e w2 ⟨rfl, hB2⟩
  rw [F.fr]
  have hB := hB1.trans (hB2.mono hB1.size)
  clear hB1 hB2
  go_wp2_with fail
  refine (do_6 _ _ F.b0 _).mono ?_
  rintro e w3 ⟨rfl, hB3⟩
  rw [F.fm]
  have hB4 := hB.trans (hB3.mono hB.size)
  clear hB hB3
  go_wp2_with fail
  refine (do_3 _ _ _).mono ?_
  rintro e w5 ⟨rfl, hB5⟩
  have hB := hB4.trans (hB5.mono hB4.size)
  clear hB4 hB5
  go_wp2_with fail
  refine (do_1 _ _ _).mono ?_
  rintro e w6 ⟨rfl, hB6⟩
  rw [F.sum]
  have hB4 := hB.trans (hB6.mono hB.size)
  clear hB hB6
  go_wp2_with fail
  refine (exact_any 4 (by decide) (by decide) _ _ _).mono ?_
  rintro e w7 ⟨rfl, hB7⟩
  rw [F.ex, appE_4 b F.b0]
  have hB := hB4.trans (hB7.mono hB4.size)
  clear hB4 hB7
  try rw [← HM.out]
  go_wp2_with fail
  refine (do_2 0#64 b _).mono ?_
  rintro e w8 ⟨rfl, hB8⟩
  rw [F.fn]
  have hB4 := hB.trans (hB8.mono hB.size)
  clear hB hB8
  go_wp2_with fail
  refine (do_6 _ _ F.n0 _).mono ?_
  rintro e w9 ⟨rfl, hB9⟩
  rw [F.fmn]
  have hB := hB4.trans (hB9.mono hB4.size)
  clear hB4 hB9
  go_wp2_with fail
  refine (awake_any _).mono ?_
  rintro e w10 ⟨rfl, hB10⟩
  have hB4 := hB.trans (hB10.mono hB.size)
  clear hB hB10
  go_wp2_with fail
  go_ret
  exact ⟨rfl, hB4⟩

set_option maxRecDepth 100000 in
set_option maxHeartbeats 2000000 in
theorem div_00 (a n : BitVec 64) (F : DivF a 1#64 0#64 0#64 n a true) (x1 : (a != 9223372036854775808#64) = true) (w : World) :
    Calls Try.prog 4 #[s a, s 0#64] w fun e w' => e = .returned (.bool true) ∧ Below w.heap.size w w' := by
  go_enter Try.func4, Try.ntmps4
  go_wp2_with fail
  refine (do_4 a 1#64 F.b0 _).mono ?_
  rintro e w1 ⟨rfl, hB1⟩
  rw [F.fq]
  go_wp2_with fail
  refine (do_5 a 1#64 F.b0 _).mono ?_
  rintro e w2 ⟨rfl, hB2⟩
  rw [F.fr]
  have hB := hB1.trans (hB2.mono hB1.size)
  clear hB1 hB2
  go_wp2_with fail
  refine (do_6 a 1#64 F.b0 _).mono ?_
  rintro e w3 ⟨rfl, hB3⟩
  rw [F.fm]
  have hB4 := hB.trans (hB3.mono hB.size)
  clear hB hB3
  go_wp2_with fail
  refine (do_3 a 1#64 _).mono ?_
  rintro e w5 ⟨rfl, hB5⟩
  have hB := hB4.trans (hB5.mono hB4.size)
  clear hB4 hB5
  go_wp2_with fail
  refine (do_1 _ 0#64 _).mono ?_
  rintro e w6 ⟨rfl, hB6⟩
  rw [BitVec.add_zero]
  have hB4 := hB.trans (hB6.mono hB.size)
  clear hB hB6
  go_wp2_with fail
  refine (exact_any 4 (by decide) (by decide) a 1#64 _).mono ?_
  rintro e w7 ⟨rfl, hB7⟩
  rw [F.ex, appE_4 1#64 F.b0]
  have hB := hB4.trans (hB7.mono hB4.size)
  clear hB4 hB7
  go_wp2_with fail
  refine (do_2 0#64 1#64 _).mono ?_
  rintro e w8 ⟨rfl, hB8⟩
  rw [F.fn]
  have hB4 := hB.trans (hB8.mono hB.size)
  clear hB hB8
  go_wp2_with fail
  refine (do_6 _ _ F.n0 _).mono ?_
  rintro e w9 ⟨rfl, hB9⟩
  rw [F.fmn]
  have hB := hB4.trans (hB9.mono hB4.size)
  clear hB4 hB9
  go_wp2_with fail
  refine (awake_any _).mono ?_
  rintro e w10 ⟨rfl, hB10⟩
  have hB4 := hB.trans (hB10.mono hB.size)
  clear hB hB10
  go_wp2_with fail
  go_ret
  exact ⟨rfl, hB4⟩

set_option maxRecDepth 100000 in
set_option maxHeartbeats 2000000 in
theorem div_01 (a n : BitVec 64) (F : DivF a 1#64 0#64 0#64 n a true) (x1 : (a != 9223372036854775808#64) = false) (w : World) :
    Calls Try.prog 4 #[s a, s 0#64] w fun e w' => e = .returned (.bool true) ∧ Below w.heap.size w w' := by
  go_enter Try.func4, Try.ntmps4
  go_wp2_with fail
  refine (do_4 a 1#64 F.b0 _).mono ?_
  rintro e w1 ⟨rfl, hB1⟩
  rw [F.fq]
  go_wp2_with fail
  refine (do_5 a 1#64 F.b0 _).mono ?_
  rintro e w2 ⟨rfl, hB2⟩
  rw [F.fr]
  have hB := hB1.trans (hB2.mono hB1.size)
  clear hB1 hB2
  go_wp2_with fail
  refine (do_6 a 1#64 F.b0 _).mono ?_
  rintro e w3 ⟨rfl, hB3⟩
  rw [F.fm]
  have hB4 := hB.trans (hB3.mono hB.size)
  clear hB hB3
  go_wp2_with fail
  refine (do_3 a 1#64 _).mono ?_
  rintro e w5 ⟨rfl, hB5⟩
  have hB := hB4.trans (hB5.mono hB4.size)
  clear hB4 hB5
  go_wp2_with fail
  refine (do_1 _ 0#64 _).mono ?_
  rintro e w6 ⟨rfl, hB6⟩
  rw [BitVec.add_zero]
  have hB4 := hB.trans (hB6.mono hB.size)
  clear hB hB6
  go_wp2_with fail
  refine (exact_any 4 (by decide) (by decide) a 1#64 _).mono ?_
  rintro e w7 ⟨rfl, hB7⟩
  rw [F.ex, appE_4 1#64 F.b0]
  have hB := hB4.trans (hB7.mono hB4.size)
  clear hB4 hB7
  go_wp2_with fail
  refine (do_2 0#64 1#64 _).mono ?_
  rintro e w8 ⟨rfl, hB8⟩
  rw [F.fn]
  have hB4 := hB.trans (hB8.mono hB.size)
  clear hB hB8
  go_wp2_with fail
  refine (do_6 _ _ F.n0 _).mono ?_
  rintro e w9 ⟨rfl, hB9⟩
  rw [F.fmn]
  have hB := hB4.trans (hB9.mono hB4.size)
  clear hB4 hB9
  go_wp2_with fail
  refine (awake_any _).mono ?_
  rintro e w10 ⟨rfl, hB10⟩
  have hB4 := hB.trans (hB10.mono hB.size)
  clear hB hB10
  go_wp2_with fail
  go_ret
  exact ⟨rfl, hB4⟩

end Go.Proofs.Ytbmommomhepfpaa
