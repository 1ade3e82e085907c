/- Walks of word.Fold, Wide, Inverse. -/
import Derived.Test.YtbmommomhepfpaaW3
import Derived.Test.YtbmommomhepfpaaOwn
namespace Go.Proofs.Ytbmommomhepfpaa
open Go.RowKit

def lowV (x : BitVec 64) : BitVec 64 := x &&& 4294967295#64
def wideP (a b : BitVec 64) : BitVec 64 := (a &&& 4294967295#64) * (b &&& 4294967295#64)
def wideQ (a b : BitVec 64) : BitVec 64 := (a >>> 32) * (b &&& 4294967295#64) + wideP a b >>> 32
def wideR (a b : BitVec 64) : BitVec 64 := (a &&& 4294967295#64) * (b >>> 32) + (wideQ a b &&& 4294967295#64)
def wideH (a b : BitVec 64) : BitVec 64 := (a >>> 32) * (b >>> 32) + wideQ a b >>> 32 + wideR a b >>> 32
def wideHigh (a b : BitVec 64) : BitVec 64 :=
  if a.slt 0#64 then (if b.slt 0#64 then wideH a b - b - a else wideH a b - b) else if b.slt 0#64 then wideH a b - a else wideH a b
def wideLow (a b : BitVec 64) : BitVec 64 := (((a &&& 4294967295#64) * (b >>> 32)) <<< 32 + (wideQ a b &&& 4294967295#64) <<< 32) ||| (wideP a b &&& 4294967295#64)

theorem wideLow_eq (a b : BitVec 64) : wideLow a b = wideR a b <<< 32 ||| (wideP a b &&& 4294967295#64) := by
  rw [wideLow, wideR, BitVec.shiftLeft_add_distrib]

set_option maxHeartbeats 1000000 in
theorem wide_any (a b : BitVec 64) (w : World) :
    Calls Try.prog 19 #[s a, s b] w fun e w' => e = .returned (.tuple #[s (wideHigh a b), u (wideLow a b)]) ∧ w = w' := by
  unfold wideHigh
  by_cases ha : a.slt 0#64 = true
  · by_cases hb : b.slt 0#64 = true
    · rw [if_pos ha, if_pos hb]
      go_enter Try.func19, Try.ntmps19
      go_wp2_with fail
      go_ret2
      exact ⟨rfl, rfl⟩
    · rw [if_pos ha, if_neg hb]
      rw [Bool.not_eq_true] at hb
      go_enter Try.func19, Try.ntmps19
      go_wp2_with fail
      go_ret2
      exact ⟨rfl, rfl⟩
  · by_cases hb : b.slt 0#64 = true
    · rw [if_neg ha, if_pos hb]
      rw [Bool.not_eq_true] at ha
      go_enter Try.func19, Try.ntmps19
      go_wp2_with fail
      go_ret2
      exact ⟨rfl, rfl⟩
    · rw [if_neg ha, if_neg hb]
      rw [Bool.not_eq_true] at ha hb
      go_enter Try.func19, Try.ntmps19
      go_wp2_with fail
      go_ret2
      exact ⟨rfl, rfl⟩

def newt (a : BitVec 64) : Nat → BitVec 64
  | 0 => a
  | n + 1 => newt a n * (2#64 - a * newt a n)
def invOk (a : BitVec 64) : Bool := !(a.srem 2#64 == 0#64)
def invV (a : BitVec 64) : BitVec 64 := if invOk a then newt a 5 else 0#64

set_option maxHeartbeats 1000000 in
theorem inverse_any (a : BitVec 64) (w : World) :
    Calls Try.prog 20 #[s a] w fun e w' => e = .returned (.tuple #[s (invV a), .bool (invOk a)]) ∧ w = w' := by
  by_cases h : (a.srem 2#64 == 0#64) = true
  · have h1 : invOk a = false := by rw [invOk, h]; rfl
    have h2 : invV a = 0#64 := by rw [invV, h1]; rfl
    rw [h1, h2]
    go_enter Try.func20, Try.ntmps20
    go_wp2_with fail
    go_ret2
    exact ⟨rfl, rfl⟩
  · rw [Bool.not_eq_true] at h
    have h1 : invOk a = true := by rw [invOk, h]; rfl
    have h2 : invV a = newt a 5 := by rw [invV, h1]; rfl
    rw [h1, h2]
    clear h1 h2
    go_enter Try.func20, Try.ntmps20
    go_wp2_with fail
    go_loop [4, 9] (fun x i => ∃ k : Nat, k ≤ 5 ∧ x = s (newt a k) ∧ i = .int .i64 k) (fun _ i => 5 - (intOf i).toNat)
    case atStart => exact ⟨0, by omega, rfl, rfl⟩
    case round =>
      obtain ⟨k, hk, rfl, rfl⟩ := hrel
      by_cases hlt : k < 5
      · have hlt' : (k : Int) < 5 := by omega
        go_wp2_with fail
        go_round
        case rel => exact ⟨k + 1, by omega, rfl, by go_num⟩
        case measure => simp [intOf]; omega
      · obtain rfl : k = 5 := by omega
        go_wp2_with fail
        go_ret2
        exact ⟨rfl, rfl⟩

end Go.Proofs.Ytbmommomhepfpaa
