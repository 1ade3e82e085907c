/- Walk of the reference's Fold. -/
import Derived.Test.YtbmommomhepfpaaR11
namespace Go.Proofs.Ytbmommomhepfpaa
open Go.RowKit
set_option linter.unusedVariables false

set_option maxRecDepth 100000 in
set_option maxHeartbeats 1000000 in
theorem refFold_bad (op : Int) (h0 : 0 ≤ op) (h1 : op ≤ 255) (h : op < 1 ∨ 17 < op) (a : Option Addr) (n c : Nat) (w : World) :
    Calls Try.prog 24 #[.int .u8 op, .slice a n c] w fun e w' => e = .returned (.tuple #[s 0#64, .int .i64 130]) ∧ Below w.heap.size w w' := by
  rcases h with h | h
  · go_enter Try.func24, Try.ntmps24
    go_wp2_with fail
    go_ret2
    exact ⟨rfl, Below.refl _ _⟩
  · have h' : ¬ op < 1 := by omega
    go_enter Try.func24, Try.ntmps24
    go_wp2_with fail
    go_ret2
    exact ⟨rfl, Below.refl _ _⟩

set_option maxRecDepth 100000 in
set_option maxHeartbeats 1000000 in
theorem refFold_nil (op : Int) (h1 : 1 ≤ op) (h17 : op ≤ 17) (a : Option Addr) (c : Nat) (w : World) :
    Calls Try.prog 24 #[.int .u8 op, .slice a 0 c] w fun e w' => e = .returned (.tuple #[s 0#64, .int .i64 2]) ∧ Below w.heap.size w w' := by
  have g1 : ¬ op < 1 := by omega
  have g2 : ¬ 17 < op := by omega
  go_enter Try.func24, Try.ntmps24
  go_wp2_with fail
  go_ret2
  exact ⟨rfl, Below.refl _ _⟩

set_option maxRecDepth 100000 in
set_option maxHeartbeats 2000000 in
theorem refFold_some (op : Int) (h1 : 1 ≤ op) (h17 : op ≤ 17) (b off c : Nat) (x0 : BitVec 64) (ys : List (BitVec 64)) (m : Nat) (w : World) (HM : Hd (ys.length + 1 = m)) (hm : 0 < m) (hmx : m ≤ 4611686018427387904)
    (hs : SrcE s w (.slice (some ⟨b, off, none⟩) m c) (x0 :: ys)) :
    Calls Try.prog 24 #[.int .u8 op, .slice (some ⟨b, off, none⟩) m c] w fun e w' => e = .returned (.tuple #[s (foldW op ys x0).1, .int .i64 (foldW op ys x0).2]) ∧ Below w.heap.size w w' := by
  have g1 : ¬ op < 1 := by omega
  have g2 : ¬ 17 < op := by omega
  have hne : ((m : Int) == 0) = false := beq_eq_false_iff_ne.2 (by omega)
  have HS := Hd.mk hs
  obtain ⟨b', off', hbo, hbw, hc0⟩ := hs.at 0 (by simp)
  simp only [Option.some.injEq, Addr.mk.injEq] at hbo
  obtain ⟨rfl, rfl, -⟩ := hbo
  rw [Nat.add_zero] at hc0
  simp only [List.getElem_cons_zero] at hc0
  clear hs
  go_enter Try.func24, Try.ntmps24
  go_wp2_with fail
  go_loopw [6, 7] (fun a i W => ∃ (k : Nat) (z : BitVec 64), k + 1 ≤ m ∧ a = s z ∧ i = .int .i64 ((k + 1 : Nat) : Int) ∧ Hd (foldW op (ys.drop k) z = foldW op ys x0) ∧ Below w.heap.size w W) (fun _ i _ => m - (intOf i).toNat)
  case atStart => exact ⟨0, x0, by omega, rfl, rfl, ⟨rfl⟩, Below.refl _ _⟩
  case round =>
    obtain ⟨k, z, hk, rfl, rfl, HF, hB⟩ := hrel
    by_cases hlt : k + 1 < m
    · have hkm : k < ys.length := by have := HM.out; omega
      obtain ⟨b', off', hbo, _, hck⟩ := (HS.out.below hB).at (k + 1) (by simp; omega)
      simp only [Option.some.injEq, Addr.mk.injEq] at hbo
      obtain ⟨rfl, rfl, -⟩ := hbo
      rw [List.getElem_cons_succ] at hck
      obtain ⟨y, hy⟩ : ∃ y, y = ys[k] := ⟨_, rfl⟩
      rw [← hy] at hck
      have HR2 : Hd (foldW op (ys.drop k) z = if appE op y = 0 then foldW op (ys.drop (k + 1)) (appV op z y) else (0#64, appE op y)) := ⟨by
        rw [List.drop_eq_getElem_cons hkm, foldW, hy]⟩
      clear hy
      go_wp2_with fail
      refine (refApply_any op (by omega) (by omega) _ _ _).mono ?_
      rintro e w1 ⟨rfl, hB1⟩
      have hB2 := hB.trans (hB1.mono hB.size)
      clear hB hB1
      by_cases he : appE op y = 0
      · rw [he]
        go_wp2_with fail
        go_roundw
        case rel => exact ⟨k + 1, appV op z y, by omega, rfl, by go_num, ⟨by rw [← HF.out, HR2.out, if_pos he]⟩, hB2⟩
        case measure => simp [intOf]; omega
      · have he' : (appE op y != 0) = true := by simpa using he
        go_wp2_with fail
        go_ret2
        exact ⟨by rw [← HF.out, HR2.out, if_neg he]; rfl, hB2⟩
    · go_wp2_with fail
      go_ret2
      exact ⟨by rw [← HF.out, List.drop_of_length_le (by have := HM.out; omega)]; rfl, hB⟩

theorem refFold_any (op : Int) (h0 : 0 ≤ op) (h1 : op ≤ 255) (v : Value) (xs : List (BitVec 64)) (w : World) (hs : SrcE s w v xs) (hl : xs.length ≤ 4611686018427387900) :
    Calls Try.prog 24 #[.int .u8 op, v] w fun e w' => e = .returned (.tuple #[s (foldV op xs).1, .int .i64 (foldV op xs).2]) ∧ Below w.heap.size w w' := by
  by_cases hbad : op < 1 ∨ 17 < op
  · obtain ⟨a, c, rfl⟩ := hs.shape
    have e : foldV op xs = (0#64, 130) := by rw [foldV.eq_def, if_pos hbad]
    rw [e]; exact refFold_bad op h0 h1 hbad a _ c w
  rcases hs.cases with ⟨rfl, a, c, rfl⟩ | ⟨b, off, c, rfl, hp, _, _, _, _⟩
  · rw [foldV_nil op (by omega) (by omega)]
    exact refFold_nil op (by omega) (by omega) a c w
  · cases xs with
    | nil => simp at hp
    | cons x ys =>
      have e : foldV op (x :: ys) = foldW op ys x := if_neg hbad
      rw [e]
      rw [List.length_cons] at hl hs ⊢
      exact refFold_some op (by omega) (by omega) b off c x ys _ w ⟨rfl⟩ (by omega) (by omega) hs
end Go.Proofs.Ytbmommomhepfpaa
