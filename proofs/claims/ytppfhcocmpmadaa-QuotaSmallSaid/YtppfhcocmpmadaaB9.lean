/- What the laws know of books and charges that Made makes; charges one by one. -/
import Derived.Test.YtppfhcocmpmadaaB7
namespace Go.Proofs.Ytppfhcocmpmadaa
open Go.RowKit
set_option linter.unusedVariables false

/-- Books that Made makes. -/
structure MB (L U : Nat → Int) : Prop where
  lim : ∀ j, j < 4 → 0 ≤ L j ∧ L j ≤ 29
  use : ∀ j, j < 4 → 0 ≤ U j ∧ U j ≤ L j
/-- Charges that Made makes. -/
structure MC (cs : List (Int × Int)) : Prop where
  len : cs.length ≤ 60
  kind : ∀ x ∈ cs, 0 ≤ x.1 ∧ x.1 < 4
  amount : ∀ x ∈ cs, -6 ≤ x.2 ∧ x.2 ≤ 6
theorem mb (a b : Nat → Int) (ha : ∀ j, j < 4 → 0 ≤ a j ∧ a j ≤ 255) (hb : ∀ j, j < 4 → 0 ≤ b j ∧ b j ≤ 255) : MB (mL a) (mU a b) := by
  refine ⟨fun j hj => ?_, fun j hj => ?_⟩
  · have := ha j hj
    simp only [mL]; omega
  · have h1 := ha j hj
    have h2 := hb j hj
    simp only [mL, mU]
    have hp : 0 < a j % 30 + 1 := by omega
    have := Int.emod_lt_of_pos (b j) hp
    have := Int.emod_nonneg (b j) (by omega : a j % 30 + 1 ≠ 0)
    omega
theorem mc (xs : List Int) (hx : ∀ x ∈ xs, 0 ≤ x ∧ x ≤ 65535) : MC (mC xs) := by
  refine ⟨by simp [mC]; omega, fun x h => ?_, fun x h => ?_⟩
  · simp only [mC, List.mem_map] at h
    obtain ⟨y, hy, rfl⟩ := h
    have := hx y (List.mem_of_mem_take hy)
    simp only; omega
  · simp only [mC, List.mem_map] at h
    obtain ⟨y, hy, rfl⟩ := h
    have := hx y (List.mem_of_mem_take hy)
    simp only; omega
theorem MB.right {L U : Nat → Int} (h : MB L U) : rightB L U = true := right_iff.2 fun j hj => by
  have := h.lim j hj; have := h.use j hj; omega
theorem chk_of {cs : List (Int × Int)} (hl : cs.length ≤ 4096) (hc : ∀ x ∈ cs, okC x = true) : chkV cs = 0 := by
  unfold chkV
  rw [if_neg (by omega), if_pos (by simpa using hc)]
theorem okC_of {x : Int × Int} (h : 0 ≤ x.1 ∧ x.1 < 4) (h' : -1099511627776 ≤ x.2 ∧ x.2 ≤ 1099511627776) : okC x = true := by
  simp [okC, isB, h.1, h.2, h'.1, h'.2]
theorem MC.chk {cs : List (Int × Int)} (h : MC cs) : chkV cs = 0 := chk_of (by have := h.len; omega) fun x hx => okC_of (h.kind x hx) (by have := h.amount x hx; omega)
theorem MC.take {cs : List (Int × Int)} (h : MC cs) (n : Nat) : MC (cs.take n) :=
  ⟨by have := h.len; simp; omega, fun x hx => h.kind x (List.mem_of_mem_take hx), fun x hx => h.amount x (List.mem_of_mem_take hx)⟩
theorem both_of {L U : Nat → Int} {cs : List (Int × Int)} (h : rightB L U = true) (h' : chkV cs = 0) : bothV L U cs = 0 := by rw [bothV, if_pos h, h']

theorem use_one (U : Nat → Int) (j : Nat) (n : Int) : useK U [((j : Int), n)] 1 = upd U j (U j + n) := by
  funext i
  rw [useK_succ U _ 0 (by simp) i, useK_zero]
  simp only [List.getElem_cons_zero, upd]
  by_cases e : i = j
  · rw [if_pos (by omega), if_pos e, e]
  · rw [if_neg (by omega), if_neg e]; omega
theorem failAt_ok {l u : Int} (h : 0 ≤ u) (h' : u ≤ l) : failAt l u = 0 := by rw [failAt, if_neg (by omega), if_neg (by omega)]
theorem fails_one {L U : Nat → Int} (hr : rightB L U = true) (j : Nat) (hj : j < 4) (n : Int) (h : ¬ failAt (L j) n = 0) : failsV L (upd U j n) = ((j : Int), failAt (L j) n) := by
  have hR := right_iff.1 hr
  have e : ∀ i, i < 4 → i ≠ j → failAt (L i) (upd U j n i) = 0 := fun i hi hne => by
    rw [upd, if_neg hne]; have := hR i hi; exact failAt_ok (by omega) (by omega)
  have ej : upd U j n j = n := by simp [upd]
  have hy : failsF L (upd U j n) (4 - j) = ((j : Int), failAt (L j) n) := by
    have := failsF_yes (L := L) (U := upd U j n) hj (by rw [ej]; exact h)
    rw [ej] at this; exact this
  have : j = 0 ∨ j = 1 ∨ j = 2 ∨ j = 3 := by omega
  rcases this with rfl | rfl | rfl | rfl
  · exact hy
  · exact (failsF_no (k := 0) (by decide) (e 0 (by decide) (by decide))).trans hy
  · exact (failsF_no (k := 0) (by decide) (e 0 (by decide) (by decide))).trans ((failsF_no (k := 1) (by decide) (e 1 (by decide) (by decide))).trans hy)
  · exact (failsF_no (k := 0) (by decide) (e 0 (by decide) (by decide))).trans ((failsF_no (k := 1) (by decide) (e 1 (by decide) (by decide))).trans ((failsF_no (k := 2) (by decide) (e 2 (by decide) (by decide))).trans hy))

/-- One charge that can be done. -/
theorem step_ok (L U : Nat → Int) (hr : rightB L U = true) (j : Nat) (hj : j < 4) (n : Int) (hn : -1099511627776 ≤ n ∧ n ≤ 1099511627776) (h : 0 ≤ U j + n ∧ U j + n ≤ L j) (v : Value) (w : World) (hs : SrcC w v [((j : Int), n)]) :
    Calls Try.prog 13 #[.agg (bk L U), v] w fun e w' => e = .returned (.tuple #[.agg (bk L (upd U j (U j + n))), .int .i64 (-1), .int .i64 0]) ∧ Below w.heap.size w w' := by
  have hb : bothV L U [((j : Int), n)] = 0 := both_of hr (chk_of (by simp) (by
    intro x hx; simp at hx; subst hx; exact okC_of ⟨by simp only; omega, by simp only; omega⟩ hn))
  have hK : StepAt L (useK U [((j : Int), n)]) 1 1 := ⟨by omega, fun i hi => by
    obtain rfl : i = 0 := by omega
    rw [use_one, fails_ok]
    intro i hi
    have hR := right_iff.1 hr i hi
    by_cases e : i = j
    · subst e; rw [upd, if_pos rfl]; exact failAt_ok h.1 h.2
    · rw [upd, if_neg e]; exact failAt_ok (by omega) (by omega), fun h => by omega⟩
  refine (steps_yes L U v [((j : Int), n)] 1 hK w hs hb).mono fun e w' ⟨he, hB⟩ => ⟨he.trans ?_, hB⟩
  rw [stepR, if_neg (by simp)]
  rw [show [((j : Int), n)].length = 1 from rfl, use_one]
/-- One charge that cannot be done. -/
theorem step_bad (L U : Nat → Int) (hr : rightB L U = true) (j : Nat) (hj : j < 4) (n : Int) (hn : -1099511627776 ≤ n ∧ n ≤ 1099511627776) (f : Int) (hf : failAt (L j) (U j + n) = f) (h0 : ¬ f = 0) (v : Value) (w : World) (hs : SrcC w v [((j : Int), n)]) :
    Calls Try.prog 13 #[.agg (bk L U), v] w fun e w' => e = .returned (.tuple #[.agg (bk zf zf), .int .i64 0, .int .i64 f]) ∧ Below w.heap.size w w' := by
  have hb : bothV L U [((j : Int), n)] = 0 := both_of hr (chk_of (by simp) (by
    intro x hx; simp at hx; subst hx; exact okC_of ⟨by simp only; omega, by simp only; omega⟩ hn))
  have hv := fails_one hr j hj (U j + n) (by rw [hf]; exact h0)
  have hK : StepAt L (useK U [((j : Int), n)]) 1 0 := ⟨by omega, fun i hi => by omega, fun _ => by rw [use_one, hv, hf]; exact h0⟩
  refine (steps_yes L U v [((j : Int), n)] 0 hK w hs hb).mono fun e w' ⟨he, hB⟩ => ⟨he.trans ?_, hB⟩
  rw [stepR, if_pos (by simp), use_one, hv, hf]
  rfl
end Go.Proofs.Ytppfhcocmpmadaa
