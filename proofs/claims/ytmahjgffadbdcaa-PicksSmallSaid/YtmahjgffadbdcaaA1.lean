/- Walks of cmp.Less, slices.IsSorted, picks.of and Right; slices of ints. -/
import Derived.Test.YtmahjgffadbdcaaRows
import Derived.Test.YtmahjgffadbdcaaPL6
import Derived.Test.YtmahjgffadbdcaaCells
import Derived.Test.YtmahjgffadbdcaaOwn
import Derived.LoopTactic
import Derived.Outline
import Derived.Handy
import Derived.Laws.Rows
import Derived.Laws.EntriesVeiled
import Derived.Deep.QuietTactic
import Derived.BigQuiet
import Derived.Deep.DeepCutAuto
import Derived.Deep.DrawnRows
import Derived.Deep.WholeRow
import Derived.Laws.CopyOwn
namespace Go.Proofs.Ytmahjgffadbdcaa
open Go.RowKit
set_option linter.unusedVariables false

theorem below_drewN {B : Nat} {a w : World} (h : Below B a w) (n : Nat) : Below B a (w.drewN n) := ⟨h.os, h.tape, h.output, h.size, h.block⟩
theorem ch4 {w w1 w2 : World} (h : Below w.heap.size w w1) (k : Below w1.heap.size w1 w2) : Below w.heap.size w w2 := h.trans (k.mono h.size)

/-- A slice of ints that reads as l. -/
def SrcI (w : World) (v : Value) (l : List Int) : Prop := SrcE (fun n : Int => Value.int .i64 n) w v l
section
variable {w : World} {v : Value} {l : List Int}
theorem SrcI.below {w' : World} (h : SrcI w v l) (hb : Below w.heap.size w w') : SrcI w' v l := SrcE.below h hb
theorem SrcI.shape (h : SrcI w v l) : ∃ a c, v = .slice a l.length c := SrcE.shape h
theorem SrcI.small (h : SrcI w v l) : l.length ≤ 9223372036854775807 := SrcE.small h
theorem SrcI.at {a : Option Addr} {n c : Nat} (h : SrcI w (.slice a n c) l) (k : Nat) (hk : k < l.length) :
    ∃ b off, a = some ⟨b, off, none⟩ ∧ b < w.heap.size ∧ w.cell? ⟨b, off + k, none⟩ = some (.int .i64 l[k]) := SrcE.at h k hk
theorem SrcI.nil (w : World) : SrcI w (.slice none 0 0) [] := .inl ⟨rfl, rfl⟩

/-- A slice of ints of the call's own, whose cells can be written. -/
def OwnI (w : World) (base : Nat) (v : Value) (l : List Int) : Prop :=
  (v = .slice none 0 0 ∧ l = []) ∨ ∃ g cap, v = .slice (some ⟨g, 0, none⟩) l.length cap ∧ base ≤ g ∧ g < w.heap.size ∧ l.length ≤ cap ∧ cap ≤ maxLen ∧
      (∀ j (hj : j < l.length), w.cell? ⟨g, j, none⟩ = some (.int .i64 l[j])) ∧ (∀ j, w.frozen? ⟨g, j, none⟩ = false)
theorem OwnI.src {base : Nat} (h : OwnI w base v l) : SrcI w v l := by
  rcases h with h | ⟨g, cap, hv, _, _, hc, hm, hcell, _⟩
  · exact .inl h
  · exact .inr ⟨⟨g, 0, none⟩, cap, hv, hc, hm, fun j hj => by rw [plain_add, Nat.zero_add]; exact hcell j hj⟩
theorem OwnI.of {base e : Nat} (h : OwnE (fun n : Int => Value.int .i64 n) w base e v l) : OwnI w base v l := h.cases
theorem OwnI.nil (w : World) (base : Nat) : OwnI w base (.slice none 0 0) [] := .inl ⟨rfl, rfl⟩
theorem OwnI.below {base : Nat} {w' : World} (h : OwnI w base v l) (hb : Below w.heap.size w w') : OwnI w' base v l := by
  rcases h with h | ⟨g, cap, hv, hg, hs, hc, hm, hcell, hf⟩
  · exact .inl h
  · exact .inr ⟨g, cap, hv, hg, Nat.lt_of_lt_of_le hs hb.size, hc, hm, fun j hj => (hb.cell hs).trans (hcell j hj), fun j => (hb.frozen hs).trans (hf j)⟩
end

def lf (S : List Int) : Array Value := #[.bool (hasB S 0), .bool (hasB S 1), .bool (hasB S 2), .bool (hasB S 3), .bool (hasB S 4), .bool (hasB S 5), .bool (hasB S 6), .bool (hasB S 7), .bool (hasB S 8), .bool (hasB S 9), .bool (hasB S 10), .bool (hasB S 11), .bool (hasB S 12), .bool (hasB S 13), .bool (hasB S 14), .bool (hasB S 15), .bool (hasB S 16)]
theorem k17 {k : Nat} (h : k < 17) : k = 0 ∨ k = 1 ∨ k = 2 ∨ k = 3 ∨ k = 4 ∨ k = 5 ∨ k = 6 ∨ k = 7 ∨ k = 8 ∨ k = 9 ∨ k = 10 ∨ k = 11 ∨ k = 12 ∨ k = 13 ∨ k = 14 ∨ k = 15 ∨ k = 16 := by omega
theorem lf_get (S : List Int) (k : Nat) (h : k < 17) : (lf S)[k]? = some (.bool (hasB S k)) := by
  rcases k17 h with rfl | rfl | rfl | rfl | rfl | rfl | rfl | rfl | rfl | rfl | rfl | rfl | rfl | rfl | rfl | rfl | rfl <;> rfl
theorem lf_congr {S T : List Int} (h : ∀ p, p ∈ S ↔ p ∈ T) : lf S = lf T := by
  have h' := fun k => has_congr h k
  simp only [lf, h']
theorem lf_size (S : List Int) : (lf S).size = 17 := rfl
theorem lf_one (S : List Int) : (lf S).all (·.oneCell') = true := by simp [lf, Value.oneCell']
theorem lf_set {S T : List Int} (k : Nat) (h : k < 17) (b : Bool) (hT : ∀ j, hasB T j = if j = k then b else hasB S j) : (lf S).setIfInBounds k (.bool b) = lf T := by
  refine Array.ext (by simp [lf_size]) fun i h1 h2 => ?_
  have hi : i < 17 := by rw [lf_size] at h2; exact h2
  have e1 := lf_get S i hi
  have e2 := lf_get T i hi
  rw [Array.getElem?_eq_getElem (by rw [lf_size]; exact hi)] at e1 e2
  have e1 := Option.some.inj e1
  have e2 := Option.some.inj e2
  rw [Array.getElem_setIfInBounds, e2, hT i]
  by_cases e : k = i
  · rw [if_pos e, if_pos e.symm]
  · rw [if_neg e, if_neg (Ne.symm e)]; exact e1

theorem qsame {f : FuncId} {args : Array Value} {w : World} {n : Nat} {v : Value} (h : Calls Try.prog f args (w.drewN n) fun e w' => e = .returned v ∧ w.drewN n = w') : Calls Try.prog f args (w.drewN n) fun e w'' => e = .returned v ∧ ∃ m, w'' = w.drewN m :=
  h.mono fun _ _ ⟨he, hm⟩ => ⟨he, n, hm.symm⟩
theorem nan_any (x : Int) (w : World) : Calls Try.prog 63 #[.int .i64 x] w fun e w' => e = .returned (.bool false) ∧ w = w' := by
  go_enter Try.func63, Try.ntmps63
  go_wp2_with fail
  go_ret
  exact ⟨by simp, rfl⟩
theorem less_any (x y : Int) (w : World) : Calls Try.prog 54 #[.int .i64 x, .int .i64 y] w fun e w' => e = .returned (.bool (decide (x < y))) ∧ w = w' := by
  go_enter Try.func54, Try.ntmps54
  go_wp2_with fail
  refine (nan_any _ _).mono ?_
  rintro e w1 ⟨rfl, rfl⟩
  go_wp2_with fail
  go_ret
  exact ⟨rfl, rfl⟩

set_option maxRecDepth 100000 in
set_option maxHeartbeats 400000 in
theorem sorted_any (v : Value) (l : List Int) (w : World) (h : SrcI w v l) (ho : OkO l) : Calls Try.prog 45 #[v] w fun e w' => e = .returned (.bool (decide (asc l))) ∧ Below w.heap.size w w' := by
  have hlen := ho.len
  obtain ⟨a, c, rfl⟩ := h.shape
  have H := Hd.mk h
  have HO := Hd.mk ho
  clear h ho
  go_enter Try.func45, Try.ntmps45
  go_wp2_with fail
  go_loopw [3] (fun i W => ∃ k : Nat, k ≤ l.length ∧ i = .int .i64 ((k : Int) - 1) ∧ Hd (asc (l.drop (k - 1))) ∧ Below w.heap.size w W) (fun i _ => (intOf i).toNat)
  case atStart => exact ⟨l.length, by omega, rfl, ⟨by
    rcases Nat.lt_or_ge (l.length - 1) l.length with h | h
    · rw [List.drop_eq_getElem_cons h, List.drop_eq_nil_of_le (by omega)]; exact List.pairwise_singleton _ _
    · rw [List.drop_eq_nil_of_le h]; exact List.Pairwise.nil⟩, Below.refl _ _⟩
  case round =>
    obtain ⟨k, hk, rfl, HA, hB⟩ := hrel
    by_cases hlt : 1 < k
    · obtain ⟨m, rfl⟩ : ∃ m, k = m + 2 := ⟨k - 2, by omega⟩
      rw [show ((m + 2 : Nat) : Int) - 1 = ((m + 1 : Nat) : Int) from by omega]
      obtain ⟨b, off, rfl, hb, hx⟩ := (H.out.below hB).at (m + 1) (by omega)
      obtain ⟨b', off', hbb, _, hy⟩ := (H.out.below hB).at m (by omega)
      obtain ⟨rfl, rfl⟩ : b = b' ∧ off = off' := by simpa using hbb
      clear hbb
      obtain ⟨x, hX⟩ : ∃ x, l[m + 1] = x := ⟨_, rfl⟩
      obtain ⟨y, hY⟩ : ∃ y, l[m] = y := ⟨_, rfl⟩
      rw [hX] at hx
      rw [hY] at hy
      have i0 : (0 : Int) < (m : Int) + 1 := by omega
      have i1 : (m : Int) < (l.length : Int) := by omega
      have i2 : (m : Int) + 1 < (l.length : Int) := by omega
      have HX := Hd.mk hX
      have HY := Hd.mk hY
      clear hX hY
      obtain ⟨j, hj⟩ : ∃ j, m + 1 = j := ⟨_, rfl⟩
      have hw : IntKind.i64.wrap ((j : Int) - 1) = (m : Int) := by rw [IntWalk.i64_in _ ⟨by omega, by omega⟩]; omega
      have j0 : (0 : Int) ≤ (j : Int) := by omega
      have j1 : (j : Int) < (l.length : Int) := by omega
      have j2 : (0 : Int) < (j : Int) := by omega
      rw [hj] at hx ⊢
      have HJ := Hd.mk hj
      clear hj
      by_cases hxy : x < y
      · have hd : decide (x < y) = true := decide_eq_true hxy
        have HN : Hd (decide (asc l) = false) := ⟨decide_eq_false fun ha => by
          have := List.pairwise_iff_getElem.1 ha m (m + 1) (by omega) (by omega) (by omega)
          rw [HX.out, HY.out] at this; omega⟩
        go_wp2_with fail
        go_quiet (first | (go_at_call_of 54 (Value.int IntKind.i64 x); refine qsame (less_any x y _)))
        go_wp2_with fail
        go_ret
        exact ⟨by rw [HN.out]; rfl, below_drewN hB _⟩
      · have hd : decide (x < y) = false := decide_eq_false hxy
        have HN : Hd (asc (l.drop (m + 1 - 1))) := ⟨by
          have ha : asc (l.drop (m + 1)) := HA.out
          rw [Nat.add_sub_cancel, List.drop_eq_getElem_cons (show m < l.length by omega), HY.out]
          rw [List.drop_eq_getElem_cons (show m + 1 < l.length by omega), HX.out] at ha ⊢
          have hne : x ≠ y := by
            rintro rfl
            have := List.pairwise_iff_getElem.1 HO.out.nd m (m + 1) (by omega) (by omega) (by omega)
            rw [HX.out, HY.out] at this; exact this rfl
          refine List.pairwise_cons.2 ⟨fun q hq => ?_, ha⟩
          rcases List.mem_cons.1 hq with rfl | hq
          · omega
          · have := ha.head q hq; omega⟩
        go_wp2_with fail
        go_quiet (first | (go_at_call_of 54 (Value.int IntKind.i64 x); refine qsame (less_any x y _)))
        go_wp2_with fail
        go_roundw
        case rel => exact ⟨m + 1, by omega, by have := HJ.out; go_num, HN, below_drewN hB _⟩
        case measure => have := HJ.out; simp [intOf]; omega
    · have i0 : (k : Int) - 1 ≤ 0 := by omega
      have HN : Hd (decide (asc l) = true) := ⟨decide_eq_true (by have := HA.out; rwa [show k - 1 = 0 from by omega] at this)⟩
      go_wp2_with fail
      go_ret
      exact ⟨by rw [HN.out]; rfl, hB⟩
end Go.Proofs.Ytmahjgffadbdcaa
