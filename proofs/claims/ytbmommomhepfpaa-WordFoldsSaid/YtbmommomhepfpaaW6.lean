/- Walk of word.Exact. -/
import Derived.Test.YtbmommomhepfpaaW4
import Derived.Test.YtbmommomhepfpaaW5
namespace Go.Proofs.Ytbmommomhepfpaa
open Go.RowKit

def exaV (op : Int) (a b x : BitVec 64) : Bool :=
  if op = 1 then ((a.slt 0#64 != b.slt 0#64) || (x.slt 0#64 == a.slt 0#64)) else if op = 2 then ((a.slt 0#64 == b.slt 0#64) || (x.slt 0#64 == a.slt 0#64)) else if op = 3 then (wideHigh a b == x.sshiftRight 63)
  else if op = 4 then (((0#64).sle a || (0#64).sle b) || (0#64).sle x) else if op = 10 then (x.sshiftRight (b &&& 63#64).toNat == a) else true
def exactV (op : Int) (a b : BitVec 64) : Bool := if appE op b = 0 then exaV op a b (appV op a b) else false

set_option maxHeartbeats 1000000 in
theorem exact_1 (a b x : BitVec 64) (hx : appV 1 a b = x) (he : appE 1 b = 0) (w : World) :
    Calls Try.prog 17 #[.int .u8 1, s a, s b] w fun e w' => e = .returned (.tuple #[.bool ((a.slt 0#64 != b.slt 0#64) || (x.slt 0#64 == a.slt 0#64)), .int .i64 0]) ∧ Below w.heap.size w w' := by
  cases h0 : a.slt 0#64
  all_goals (cases h1 : b.slt 0#64)
  all_goals (cases h2 : x.slt 0#64)
  all_goals
      go_enter Try.func17, Try.ntmps17
      go_wp2_with fail
      refine (apply_any 1 (by decide) (by decide) _ _ _).mono ?_
      rintro e w1 ⟨rfl, hB⟩
      rw [hx, he]
      go_wp2_with fail
      go_ret2
      exact ⟨rfl, hB⟩

set_option maxHeartbeats 1000000 in
theorem exact_2 (a b x : BitVec 64) (hx : appV 2 a b = x) (he : appE 2 b = 0) (w : World) :
    Calls Try.prog 17 #[.int .u8 2, s a, s b] w fun e w' => e = .returned (.tuple #[.bool ((a.slt 0#64 == b.slt 0#64) || (x.slt 0#64 == a.slt 0#64)), .int .i64 0]) ∧ Below w.heap.size w w' := by
  cases h0 : a.slt 0#64
  all_goals (cases h1 : b.slt 0#64)
  all_goals (cases h2 : x.slt 0#64)
  all_goals
      go_enter Try.func17, Try.ntmps17
      go_wp2_with fail
      refine (apply_any 2 (by decide) (by decide) _ _ _).mono ?_
      rintro e w1 ⟨rfl, hB⟩
      rw [hx, he]
      go_wp2_with fail
      go_ret2
      exact ⟨rfl, hB⟩

set_option maxHeartbeats 1000000 in
theorem exact_3 (a b x : BitVec 64) (hx : appV 3 a b = x) (he : appE 3 b = 0) (w : World) :
    Calls Try.prog 17 #[.int .u8 3, s a, s b] w fun e w' => e = .returned (.tuple #[.bool (wideHigh a b == x.sshiftRight 63), .int .i64 0]) ∧ Below w.heap.size w w' := by
  all_goals
      go_enter Try.func17, Try.ntmps17
      go_wp2_with fail
      refine (apply_any 3 (by decide) (by decide) _ _ _).mono ?_
      rintro e w1 ⟨rfl, hB⟩
      rw [hx, he]
      go_wp2_with fail
      refine (wide_any _ _ _).mono ?_
      rintro e w2 ⟨rfl, rfl⟩
      go_wp2_with fail
      go_ret2
      exact ⟨rfl, hB⟩

set_option maxHeartbeats 1000000 in
theorem exact_4 (a b x : BitVec 64) (hx : appV 4 a b = x) (he : appE 4 b = 0) (w : World) :
    Calls Try.prog 17 #[.int .u8 4, s a, s b] w fun e w' => e = .returned (.tuple #[.bool (((0#64).sle a || (0#64).sle b) || (0#64).sle x), .int .i64 0]) ∧ Below w.heap.size w w' := by
  cases h0 : (0#64).sle a
  all_goals (cases h1 : (0#64).sle b)
  all_goals (cases h2 : (0#64).sle x)
  all_goals
      go_enter Try.func17, Try.ntmps17
      go_wp2_with fail
      refine (apply_any 4 (by decide) (by decide) _ _ _).mono ?_
      rintro e w1 ⟨rfl, hB⟩
      rw [hx, he]
      go_wp2_with fail
      go_ret2
      exact ⟨rfl, hB⟩

set_option maxHeartbeats 1000000 in
theorem exact_10 (a b x : BitVec 64) (hx : appV 10 a b = x) (he : appE 10 b = 0) (w : World) :
    Calls Try.prog 17 #[.int .u8 10, s a, s b] w fun e w' => e = .returned (.tuple #[.bool (x.sshiftRight (b &&& 63#64).toNat == a), .int .i64 0]) ∧ Below w.heap.size w w' := by
  all_goals
      go_enter Try.func17, Try.ntmps17
      go_wp2_with fail
      refine (apply_any 10 (by decide) (by decide) _ _ _).mono ?_
      rintro e w1 ⟨rfl, hB⟩
      rw [hx, he]
      go_wp2_with fail
      go_ret2
      exact ⟨rfl, hB⟩

set_option maxHeartbeats 1000000 in
theorem exact_any (op : Int) (h0 : 0 ≤ op) (h1 : op ≤ 255) (a b : BitVec 64) (w : World) :
    Calls Try.prog 17 #[.int .u8 op, s a, s b] w fun e w' => e = .returned (.tuple #[.bool (exactV op a b), .int .i64 (appE op b)]) ∧ Below w.heap.size w w' := by
  by_cases he : appE op b = 0
  · rw [show exactV op a b = exaV op a b (appV op a b) from if_pos he, he]
    by_cases e1 : op = 1
    · subst e1; exact exact_1 a b _ rfl he w
    by_cases e2 : op = 2
    · subst e2; exact exact_2 a b _ rfl he w
    by_cases e3 : op = 3
    · subst e3; exact exact_3 a b _ rfl he w
    by_cases e4 : op = 4
    · subst e4; exact exact_4 a b _ rfl he w
    by_cases e10 : op = 10
    · subst e10; exact exact_10 a b _ rfl he w
    rw [show exaV op a b (appV op a b) = true from by unfold exaV; rw [if_neg e1, if_neg e2, if_neg e3, if_neg e4, if_neg e10]]
    go_enter Try.func17, Try.ntmps17
    go_wp2_with fail
    refine (apply_any op h0 h1 _ _ _).mono ?_
    rintro e w1 ⟨rfl, hB⟩
    rw [he]
    go_wp2_with fail
    go_ret2
    exact ⟨rfl, hB⟩
  · rw [show exactV op a b = false from if_neg he]
    have he' : (appE op b != 0) = true := by simpa using he
    go_enter Try.func17, Try.ntmps17
    go_wp2_with fail
    refine (apply_any op h0 h1 _ _ _).mono ?_
    rintro e w1 ⟨rfl, hB⟩
    go_wp2_with fail
    go_ret2
    exact ⟨rfl, hB⟩
end Go.Proofs.Ytbmommomhepfpaa
