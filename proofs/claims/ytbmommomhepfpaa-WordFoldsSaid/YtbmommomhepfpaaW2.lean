/- Walks of word.wrong, Apply. -/
import Derived.Test.YtbmommomhepfpaaW1
namespace Go.Proofs.Ytbmommomhepfpaa
open Go.RowKit

def namesV : List ByteArray := [⟨#[]⟩,
  ⟨#[97, 100, 100]⟩,
  ⟨#[115, 117, 98]⟩,
  ⟨#[109, 117, 108]⟩,
  ⟨#[100, 105, 118]⟩,
  ⟨#[114, 101, 109]⟩,
  ⟨#[109, 111, 100]⟩,
  ⟨#[97, 110, 100]⟩,
  ⟨#[111, 114]⟩,
  ⟨#[120, 111, 114]⟩,
  ⟨#[115, 104, 108]⟩,
  ⟨#[115, 104, 114]⟩,
  ⟨#[115, 97, 114]⟩,
  ⟨#[108, 101, 115, 115]⟩,
  ⟨#[98, 101, 108, 111, 119]⟩,
  ⟨#[101, 113, 117, 97, 108]⟩,
  ⟨#[109, 105, 110]⟩,
  ⟨#[109, 97, 120]⟩]
def nameV (op : Int) : ByteArray := namesV.getD op.toNat ⟨#[]⟩
def divides (op : Int) : Bool := decide (4 ≤ op ∧ op ≤ 6)

theorem all_at (op : Int) (h1 : 0 ≤ op) (h2 : op ≤ 17) (w : World) :
    (Instr.index 62 (.agg allC) (.int .u8 op)).run Try.prog w = .ok (.agg #[.string (nameV op), .bool (divides op)]) w := by
  have hk : op = 0 ∨ op = 1 ∨ op = 2 ∨ op = 3 ∨ op = 4 ∨ op = 5 ∨ op = 6 ∨ op = 7 ∨ op = 8 ∨ op = 9 ∨ op = 10 ∨ op = 11 ∨ op = 12 ∨ op = 13 ∨ op = 14 ∨ op = 15 ∨ op = 16 ∨ op = 17 := by omega
  clear h1 h2
  rcases hk with rfl | rfl | rfl | rfl | rfl | rfl | rfl | rfl | rfl | rfl | rfl | rfl | rfl | rfl | rfl | rfl | rfl | rfl
  all_goals (show _ = _; kernel_rfl)

@[go_sem] theorem one_divides (n : ByteArray) (d : Bool) (w : World) : (Instr.field 61 (.agg #[.string n, .bool d]) 1).run Try.prog w = .ok (.bool d) w := by kernel_rfl
@[go_sem] theorem one_name (n : ByteArray) (d : Bool) (w : World) : (Instr.field 61 (.agg #[.string n, .bool d]) 0).run Try.prog w = .ok (.string n) w := by kernel_rfl

set_option maxHeartbeats 4000000 in
theorem wrong_any (op : Int) (h0 : 0 ≤ op) (h1 : op ≤ 255) (b : BitVec 64) (w : World) :
    Calls Try.prog 32 #[.int .u8 op, s b] w fun e w' => e = .returned (.int .i64 (appE op b)) ∧ Below w.heap.size w w' := by
  by_cases hl : op < 1
  · have hr : appE op b = 130 := by rw [appE, if_pos (.inl hl)]
    rw [hr]; clear hr
    go_enter Try.func32, Try.ntmps32
    go_wp2_with fail
    go_ret
    exact ⟨rfl, Below.refl _ _⟩
  by_cases hg : 17 < op
  · have hr : appE op b = 130 := by rw [appE, if_pos (.inr hg)]
    rw [hr]; clear hr
    go_enter Try.func32, Try.ntmps32
    go_wp2_with fail
    go_ret
    exact ⟨rfl, Below.refl _ _⟩
  by_cases hb : b = 0#64
  · subst hb
    have hi := all_at op h0 (by omega)
    by_cases hd : divides op = true
    · have hr : appE op 0#64 = 131 := by simp [divides] at hd; rw [appE, if_neg (by omega), if_pos ⟨rfl, by omega⟩]
      rw [hr]; clear hr
      go_enter Try.func32, Try.ntmps32
      go_wp2_with fail
      refine (all_run _).mono ?_
      rintro e w1 ⟨rfl, hB⟩
      go_wp2_with fail
      go_ret
      exact ⟨rfl, hB⟩
    · have hd' : divides op = false := by simpa using hd
      have hr : appE op 0#64 = 0 := by simp [divides] at hd; rw [appE, if_neg (by omega), if_neg (fun h => by omega)]
      rw [hr]; clear hr
      go_enter Try.func32, Try.ntmps32
      go_wp2_with fail
      refine (all_run _).mono ?_
      rintro e w1 ⟨rfl, hB⟩
      go_wp2_with fail
      go_ret
      exact ⟨rfl, hB⟩
  · have hr : appE op b = 0 := by rw [appE, if_neg (by omega), if_neg (fun h => hb h.1)]
    rw [hr]; clear hr
    have hbb : (b == 0#64) = false := by simpa using hb
    go_enter Try.func32, Try.ntmps32
    go_wp2_with fail
    go_ret
    exact ⟨rfl, Below.refl _ _⟩
end Go.Proofs.Ytbmommomhepfpaa
