/- Walk of the reference's Exact. -/
import Derived.Test.YtbmommomhepfpaaR17
import Derived.Test.YtbmommomhepfpaaPE
namespace Go.Proofs.Ytbmommomhepfpaa
open Go.RowKit
set_option linter.unusedVariables false

set_option maxRecDepth 100000 in
set_option maxHeartbeats 2000000 in
theorem refExact_1 (a b x : BitVec 64) (hx : appV 1 a b = x) (he : appE 1 b = 0) (w : World) :
    Calls Try.prog 31 #[.int .u8 1, s a, s b] w fun e w' => e = .returned (.tuple #[.bool (if (0#64).slt b then a.slt x else x.sle a), .int .i64 0]) ∧ Below w.heap.size w w' := by
  cases h0 : (0#64).slt b
  all_goals
      go_enter Try.func31, Try.ntmps31
      go_wp2_with fail
      refine (refApply_any 1 (by decide) (by decide) _ _ _).mono ?_
      rintro e w1 ⟨rfl, hB⟩
      rw [hx, he]
      go_wp2_with fail
      go_ret2
      exact ⟨rfl, hB⟩

set_option maxRecDepth 100000 in
set_option maxHeartbeats 2000000 in
theorem refExact_2 (a b x : BitVec 64) (hx : appV 2 a b = x) (he : appE 2 b = 0) (w : World) :
    Calls Try.prog 31 #[.int .u8 2, s a, s b] w fun e w' => e = .returned (.tuple #[.bool (if (0#64).slt b then x.slt a else a.sle x), .int .i64 0]) ∧ Below w.heap.size w w' := by
  cases h0 : (0#64).slt b
  all_goals
      go_enter Try.func31, Try.ntmps31
      go_wp2_with fail
      refine (refApply_any 2 (by decide) (by decide) _ _ _).mono ?_
      rintro e w1 ⟨rfl, hB⟩
      rw [hx, he]
      go_wp2_with fail
      go_ret2
      exact ⟨rfl, hB⟩

set_option maxRecDepth 100000 in
set_option maxHeartbeats 4000000 in
theorem refExact_3 (a b x h l : BitVec 64) (hx : appV 3 a b = x) (he : appE 3 b = 0) (hh : wideHigh a b = h) (hl : wideLow a b = l) (w : World) :
    Calls Try.prog 31 #[.int .u8 3, s a, s b] w fun e w' => e = .returned (.tuple #[.bool ((h == 0#64 && l.ult 9223372036854775808#64) || (h == 18446744073709551615#64 && (9223372036854775808#64).ule l)), .int .i64 0]) ∧ Below w.heap.size w w' := by
  cases h0 : (h == 0#64)
  all_goals (cases h1 : (h == 18446744073709551615#64))
  all_goals (cases h2 : l.ult 9223372036854775808#64)
  all_goals (cases h3 : (9223372036854775808#64).ule l)
  all_goals
      go_enter Try.func31, Try.ntmps31
      go_wp2_with fail
      refine (refApply_any 3 (by decide) (by decide) _ _ _).mono ?_
      rintro e w1 ⟨rfl, hB⟩
      rw [hx, he]
      go_wp2_with fail
      refine (refWide_any a b _).mono ?_
      rintro e w2 ⟨rfl, hB2⟩
      rw [hh, hl]
      have hB3 := ch4 hB hB2
      clear hB hB2
      go_wp2_with fail
      go_ret2
      exact ⟨rfl, hB3⟩

set_option maxRecDepth 100000 in
set_option maxHeartbeats 2000000 in
theorem refExact_4 (a b : BitVec 64) (he : appE 4 b = 0) (w : World) :
    Calls Try.prog 31 #[.int .u8 4, s a, s b] w fun e w' => e = .returned (.tuple #[.bool (a != 9223372036854775808#64 || b != 18446744073709551615#64), .int .i64 0]) ∧ Below w.heap.size w w' := by
  cases h0 : (a != 9223372036854775808#64)
  all_goals (cases h1 : (b != 18446744073709551615#64))
  all_goals
      go_enter Try.func31, Try.ntmps31
      go_wp2_with fail
      refine (refApply_any 4 (by decide) (by decide) _ _ _).mono ?_
      rintro e w1 ⟨rfl, hB⟩
      rw [he]
      go_wp2_with fail
      go_ret2
      exact ⟨rfl, hB⟩

set_option maxRecDepth 100000 in
set_option maxHeartbeats 2000000 in
theorem refExact_10 (a b x y : BitVec 64) (hx : appV 10 a b = x) (he : appE 10 b = 0) (hy : appV 12 x b = y) (w : World) :
    Calls Try.prog 31 #[.int .u8 10, s a, s b] w fun e w' => e = .returned (.tuple #[.bool (y == a), .int .i64 0]) ∧ Below w.heap.size w w' := by
  go_enter Try.func31, Try.ntmps31
  go_wp2_with fail
  refine (refApply_any 10 (by decide) (by decide) _ _ _).mono ?_
  rintro e w1 ⟨rfl, hB⟩
  rw [hx, he]
  go_wp2_with fail
  refine (refApply_any 12 (by decide) (by decide) x b _).mono ?_
  rintro e w2 ⟨rfl, hB2⟩
  rw [hy, appE_12]
  have hB3 := ch4 hB hB2
  clear hB hB2
  go_wp2_with fail
  go_ret2
  exact ⟨rfl, hB3⟩

set_option maxRecDepth 100000 in
set_option maxHeartbeats 2000000 in
theorem refExact_else (op : Int) (h0 : 0 ≤ op) (h1 : op ≤ 255) (n1 : ¬ op = 1) (n2 : ¬ op = 2) (n3 : ¬ op = 3) (n4 : ¬ op = 4) (n10 : ¬ op = 10) (a b : BitVec 64) (he : appE op b = 0) (w : World) :
    Calls Try.prog 31 #[.int .u8 op, s a, s b] w fun e w' => e = .returned (.tuple #[.bool true, .int .i64 0]) ∧ Below w.heap.size w w' := by
  have HE := Hd.mk he
  clear he
  go_enter Try.func31, Try.ntmps31
  go_wp2_with fail
  refine (refApply_any op h0 h1 _ _ _).mono ?_
  rintro e w1 ⟨rfl, hB⟩
  rw [HE.out]
  go_wp2_with fail
  go_ret2
  exact ⟨rfl, hB⟩

set_option maxRecDepth 100000 in
set_option maxHeartbeats 2000000 in
theorem refExact_bad (op : Int) (h0 : 0 ≤ op) (h1 : op ≤ 255) (a b : BitVec 64) (he : ¬ appE op b = 0) (w : World) :
    Calls Try.prog 31 #[.int .u8 op, s a, s b] w fun e w' => e = .returned (.tuple #[.bool false, .int .i64 (appE op b)]) ∧ Below w.heap.size w w' := by
  obtain ⟨n, hn⟩ : ∃ n, appE op b = n := ⟨_, rfl⟩
  rw [hn] at he ⊢
  have HN := Hd.mk hn
  clear hn
  go_enter Try.func31, Try.ntmps31
  go_wp2_with fail
  refine (refApply_any op h0 h1 _ _ _).mono ?_
  rintro e w1 ⟨rfl, hB⟩
  rw [HN.out]
  go_wp2_with fail
  go_ret2
  exact ⟨rfl, hB⟩

theorem refExact_any (op : Int) (h0 : 0 ≤ op) (h1 : op ≤ 255) (a b : BitVec 64) (w : World) :
    Calls Try.prog 31 #[.int .u8 op, s a, s b] w fun e w' => e = .returned (.tuple #[.bool (exactV op a b), .int .i64 (appE op b)]) ∧ Below w.heap.size w w' := by
  by_cases he : appE op b = 0
  · rw [show exactV op a b = exaV op a b (appV op a b) from if_pos he, he]
    by_cases e1 : op = 1
    · subst e1
      have := refExact_1 a b _ rfl he w
      have hv : appV 1 a b = a + b := by rw [appV, if_pos he]; rfl
      rw [hv, ex_add] at this
      rw [hv]; exact this
    by_cases e2 : op = 2
    · subst e2
      have := refExact_2 a b _ rfl he w
      have hv : appV 2 a b = a - b := by rw [appV, if_pos he]; rfl
      rw [hv, ex_sub] at this
      rw [hv]; exact this
    by_cases e3 : op = 3
    · subst e3
      have := refExact_3 a b _ _ _ rfl he rfl rfl w
      have hv : appV 3 a b = a * b := by rw [appV, if_pos he]; rfl
      rw [ex_mul, wideLow_mul] at this
      rw [hv]; exact this
    by_cases e4 : op = 4
    · subst e4
      have := refExact_4 a b he w
      have hv : appV 4 a b = a.sdiv b := by rw [appV, if_pos he]; rfl
      rw [ex_div] at this
      rw [hv]; exact this
    by_cases e10 : op = 10
    · subst e10
      have := refExact_10 a b _ _ rfl he rfl w
      have hv : ∀ x, appV 12 x b = x.sshiftRight (b &&& 63#64).toNat := fun x => by rw [appV, if_pos (appE_12 b)]; rfl
      rw [hv] at this
      exact this
    have hv : ∀ x, exaV op a b x = true := fun x => by unfold exaV; rw [if_neg e1, if_neg e2, if_neg e3, if_neg e4, if_neg e10]
    rw [hv]
    exact refExact_else op h0 h1 e1 e2 e3 e4 e10 a b he w
  · rw [show exactV op a b = false from if_neg he]
    exact refExact_bad op h0 h1 a b he w
end Go.Proofs.Ytbmommomhepfpaa
