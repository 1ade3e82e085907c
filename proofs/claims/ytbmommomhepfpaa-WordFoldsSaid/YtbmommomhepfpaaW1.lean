/- Walks of word.wrong, truth, mod, Apply. -/
import Derived.Test.YtbmommomhepfpaaRows
import Derived.Test.YtbmommomhepfpaaS
import Derived.LoopTactic
import Derived.Outline
import Derived.Handy
import Derived.Laws.Rows
import Derived.Laws.EntriesVeiled
namespace Go.Proofs.Ytbmommomhepfpaa
open Go.RowKit

def truthV (b : Bool) : BitVec 64 := if b then 1#64 else 0#64
def modV (a b : BitVec 64) : BitVec 64 := if (0#64).sle (a.srem b) then a.srem b else if b.slt 0#64 then a.srem b - b else a.srem b + b
def appE (op : Int) (b : BitVec 64) : Int := if op < 1 ∨ 17 < op then 130 else if b = 0#64 ∧ 4 ≤ op ∧ op ≤ 6 then 131 else 0
def binV (op : Int) (a b : BitVec 64) : BitVec 64 :=
  if op = 1 then a + b else if op = 2 then a - b else if op = 3 then a * b else if op = 4 then a.sdiv b else if op = 5 then a.srem b
  else if op = 6 then modV a b else if op = 7 then a &&& b else if op = 8 then a ||| b else if op = 9 then a ^^^ b
  else if op = 10 then a <<< (b &&& 63#64).toNat else if op = 11 then a >>> (b &&& 63#64).toNat else if op = 12 then a.sshiftRight (b &&& 63#64).toNat
  else if op = 13 then truthV (a.slt b) else if op = 14 then truthV (a.ult b) else if op = 15 then truthV (a == b)
  else if op = 16 then (sminV a b) else (smaxV a b)
def appV (op : Int) (a b : BitVec 64) : BitVec 64 := if appE op b = 0 then binV op a b else 0#64

theorem s_lit (p : Int) (h0 : -9223372036854775808 ≤ p) (h1 : p ≤ 9223372036854775807) : Value.int .i64 p = s (BitVec.ofInt 64 p) := s_ofInt_int p h0 h1

set_option maxHeartbeats 400000 in
theorem truth_any (b : Bool) (w : World) :
    Calls Try.prog 34 #[.bool b] w fun e w' => e = .returned (s (truthV b)) ∧ w = w' := by
  cases b with
  | true =>
    go_enter Try.func34, Try.ntmps34
    go_wp2
    go_ret
    exact ⟨rfl, rfl⟩
  | false =>
    go_enter Try.func34, Try.ntmps34
    go_wp2
    go_ret
    exact ⟨rfl, rfl⟩

set_option maxHeartbeats 400000 in
theorem mod_any (a b : BitVec 64) (hb : ¬ b = 0#64) (w : World) :
    Calls Try.prog 33 #[s a, s b] w fun e w' => e = .returned (s (modV a b)) ∧ w = w' := by
  by_cases h1 : (0#64).sle (a.srem b) = true
  · have hr : modV a b = a.srem b := by rw [modV, if_pos h1]
    go_enter Try.func33, Try.ntmps33
    go_wp2
    go_ret
    exact ⟨ret_s hr.symm, rfl⟩
  · have h1' : (0#64).sle (a.srem b) = false := by simpa using h1
    by_cases h2 : b.slt 0#64 = true
    · have hr : modV a b = a.srem b - b := by rw [modV, if_neg h1, if_pos h2]
      go_enter Try.func33, Try.ntmps33
      go_wp2
      go_ret
      exact ⟨ret_s hr.symm, rfl⟩
    · have h2' : b.slt 0#64 = false := by simpa using h2
      have hr : modV a b = a.srem b + b := by rw [modV, if_neg h1, if_neg h2]
      go_enter Try.func33, Try.ntmps33
      go_wp2
      go_ret
      exact ⟨ret_s hr.symm, rfl⟩

def allC : Array Value := #[.string ⟨#[]⟩, .bool false,
  .string ⟨#[97, 100, 100]⟩, .bool false,
  .string ⟨#[115, 117, 98]⟩, .bool false,
  .string ⟨#[109, 117, 108]⟩, .bool false,
  .string ⟨#[100, 105, 118]⟩, .bool true,
  .string ⟨#[114, 101, 109]⟩, .bool true,
  .string ⟨#[109, 111, 100]⟩, .bool true,
  .string ⟨#[97, 110, 100]⟩, .bool false,
  .string ⟨#[111, 114]⟩, .bool false,
  .string ⟨#[120, 111, 114]⟩, .bool false,
  .string ⟨#[115, 104, 108]⟩, .bool false,
  .string ⟨#[115, 104, 114]⟩, .bool false,
  .string ⟨#[115, 97, 114]⟩, .bool false,
  .string ⟨#[108, 101, 115, 115]⟩, .bool false,
  .string ⟨#[98, 101, 108, 111, 119]⟩, .bool false,
  .string ⟨#[101, 113, 117, 97, 108]⟩, .bool false,
  .string ⟨#[109, 105, 110]⟩, .bool false,
  .string ⟨#[109, 97, 120]⟩, .bool false]

theorem Below.setRow' {k : Nat} {w w1 : World} {g : Nat} {cs : Array Value} (h : Below k w w1) (hg : k ≤ g) : Below k w (w1.setRow g cs) :=
  h.trans ⟨rfl, rfl, rfl, by rw [size_setRow]; exact Nat.le_refl _, fun j hj => setRow_other _ _ _ _ (by omega)⟩

set_option maxHeartbeats 4000000 in
set_option maxRecDepth 10000 in
theorem all_run (w : World) : Calls Try.prog 35 #[] w fun e w' => e = .returned (.agg allC) ∧ Below w.heap.size w w' := by
  go_enter Try.func35, Try.ntmps35
  go_wp2_with (refine wpList_store_row rfl 62 _ _ rfl _ _ rfl rfl _ _ (heap_alloc_new _ _) (by kernel_rfl) (by kernel_rfl) (by kernel_rfl) ?_)
  refine bodyPost_ret (results_cell_row Try.results35 _ _ _ 62 allC _ (.array 18 61) rfl (setRow_heap _ _ _ _ _ _ (heap_alloc_new _ _)) Try.underlying62 rfl (by kernel_rfl)) rfl ?_
  exact ⟨rfl, Below.setRow' (by go_grown) (Nat.le_refl _)⟩
end Go.Proofs.Ytbmommomhepfpaa
