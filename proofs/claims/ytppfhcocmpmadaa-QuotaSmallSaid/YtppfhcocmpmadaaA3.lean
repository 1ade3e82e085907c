/- Walk of quota.fails. -/
import Derived.Test.YtppfhcocmpmadaaA2
namespace Go.Proofs.Ytppfhcocmpmadaa
open Go.RowKit
set_option linter.unusedVariables false

/-- What is wrong with a number that is used. -/
def failAt (l u : Int) : Int := if l < u then 252 else if u < 0 then 253 else 0
def failsF (L U : Nat → Int) : Nat → Int × Int
  | 0 => (-1, 0)
  | n + 1 => let k := 4 - (n + 1); if failAt (L k) (U k) = 0 then failsF L U n else (k, failAt (L k) (U k))
/-- The least account that is wrong, and how. -/
def failsV (L U : Nat → Int) : Int × Int := failsF L U 4
theorem failsF_no {L U : Nat → Int} {k : Nat} (h4 : k < 4) (h : failAt (L k) (U k) = 0) : failsF L U (4 - k) = failsF L U (4 - (k + 1)) := by
  have e : 4 - k = (4 - (k + 1)) + 1 := by omega
  rw [e, failsF, show 4 - (4 - (k + 1) + 1) = k from by omega, if_pos h]
theorem failsF_yes {L U : Nat → Int} {k : Nat} (h4 : k < 4) (h : ¬ failAt (L k) (U k) = 0) : failsF L U (4 - k) = ((k : Int), failAt (L k) (U k)) := by
  have e : 4 - k = (4 - (k + 1)) + 1 := by omega
  rw [e, failsF, show 4 - (4 - (k + 1) + 1) = k from by omega, if_neg h]

set_option maxRecDepth 100000 in
set_option maxHeartbeats 4000000 in
theorem fails_any (L U : Nat → Int) (w : World) : Calls Try.prog 29 #[.agg (bk L U)] w fun e w' => e = .returned (.tuple #[.int .i64 (failsV L U).1, .int .i64 (failsV L U).2]) ∧ Below w.heap.size w w' := by
  have HB0 : Hd (Below w.heap.size w (w.alloc (.cells (bk L U) 27))) := ⟨(Below.refl _ _).alloc (Nat.le_refl _) _⟩
  have HA : Hd ((w.alloc (.cells (bk L U) 27)).heap[w.heap.size]? = some (.cells (bk L U) 27 (0, 0))) := ⟨World.alloc_heap_new w _⟩
  have HL : Hd (w.heap.size < (w.alloc (.cells (bk L U) 27)).heap.size) := ⟨by simp⟩
  go_enter Try.func29, Try.ntmps29
  go_wp2_with fail
  obtain ⟨w1, hw1⟩ : ∃ w1, w.alloc (.cells (bk L U) 27) = w1 := ⟨_, rfl⟩
  rw [hw1] at HB0 HA HL ⊢
  clear hw1
  go_loopw [5] (fun i W => ∃ k : Nat, k ≤ 4 ∧ i = .int .i64 k ∧ Hd (failsV L U = failsF L U (4 - k)) ∧ Below w1.heap.size w1 W) (fun i _ => 4 - (intOf i).toNat)
  case atStart => exact ⟨0, by omega, rfl, ⟨rfl⟩, Below.refl _ _⟩
  case round =>
    obtain ⟨k, hk, rfl, HO, hB⟩ := hrel
    by_cases hlt : k < 4
    · have hb : wr.heap[w.heap.size]? = some (.cells (bk L U) 27 (0, 0)) := (hB.block _ HL.out).trans HA.out
      have hl := (cells_cell hb k).trans (bk_lim L U k hlt)
      have hu := (cells_cell hb (4 + k)).trans (bk_use L U k hlt)
      have HN : Hd (failAt (L k) (U k) = 0 → failsV L U = failsF L U (4 - (k + 1))) := ⟨fun h => HO.out.trans (failsF_no hlt h)⟩
      have HY : Hd (¬ failAt (L k) (U k) = 0 → failsV L U = ((k : Int), failAt (L k) (U k))) := ⟨fun h => HO.out.trans (failsF_yes hlt h)⟩
      have i0 : (0 : Int) ≤ (k : Int) := by omega
      have i1 : (k : Int) < 4 := by omega
      obtain ⟨l, hl'⟩ : ∃ l, L k = l := ⟨_, rfl⟩
      obtain ⟨v, hv'⟩ : ∃ v, U k = v := ⟨_, rfl⟩
      rw [hl'] at hl HN HY
      rw [hv'] at hu HN HY
      clear hb hl' hv' HO
      have hB2 := ch4 HB0.out hB
      by_cases c1 : l < v
      · have d1 : decide (l < v) = true := by simp; omega
        have HE : Hd (failsV L U = ((k : Int), 252)) := ⟨by have e : failAt l v = 252 := if_pos c1; rw [HY.out (by rw [e]; decide), e]⟩
        clear HN HY
        go_wp2_with fail
        go_quiet (fail)
        go_wp2_with fail
        go_ret2
        exact ⟨by rw [HE.out]; rfl, below_drewN hB2 _⟩
      by_cases c2 : v < 0
      · have d1 : decide (l < v) = false := by simp; omega
        have HE : Hd (failsV L U = ((k : Int), 253)) := ⟨by
          have e : failAt l v = 253 := by rw [failAt, if_neg c1, if_pos c2]
          rw [HY.out (by rw [e]; decide), e]⟩
        clear HN HY
        go_wp2_with fail
        go_quiet (fail)
        go_wp2_with fail
        go_ret2
        exact ⟨by rw [HE.out]; rfl, below_drewN hB2 _⟩
      · have d1 : decide (l < v) = false := by simp; omega
        have HE := Hd.mk (HN.out (by rw [failAt, if_neg c1, if_neg c2]))
        clear HN HY
        go_wp2_with fail
        go_quiet (fail)
        go_wp2_with fail
        go_roundw
        case rel => exact ⟨k + 1, by omega, by go_num, HE, below_drewN hB _⟩
        case measure => simp [intOf]; omega
    · obtain rfl : k = 4 := by omega
      have HE : Hd (failsV L U = (-1, 0)) := ⟨HO.out⟩
      clear HO
      go_wp2_with fail
      go_ret2
      exact ⟨by rw [HE.out]; rfl, ch4 HB0.out hB⟩

theorem failsF_ok {L U : Nat → Int} : ∀ n, n ≤ 4 → ((failsF L U n).2 = 0 ↔ ∀ j, 4 - n ≤ j → j < 4 → failAt (L j) (U j) = 0)
  | 0, _ => ⟨fun _ j h1 h2 => by omega, fun _ => rfl⟩
  | n + 1, h => by
    rw [failsF]
    have ih := failsF_ok (L := L) (U := U) n (by omega)
    by_cases hc : failAt (L (4 - (n + 1))) (U (4 - (n + 1))) = 0
    · rw [if_pos hc, ih]
      constructor
      · intro h2 j h3 h4
        by_cases e : j = 4 - (n + 1)
        · rw [e]; exact hc
        · exact h2 j (by omega) h4
      · intro h2 j h3 h4; exact h2 j (by omega) h4
    · rw [if_neg hc]
      exact ⟨fun h2 => absurd h2 hc, fun h2 => h2 _ (by omega) (by omega)⟩
theorem fails_ok {L U : Nat → Int} : (failsV L U).2 = 0 ↔ ∀ j, j < 4 → failAt (L j) (U j) = 0 :=
  (failsF_ok 4 (by omega)).trans ⟨fun h j hj => h j (by omega) hj, fun h j _ hj => h j hj⟩
end Go.Proofs.Ytppfhcocmpmadaa
