/- Walk of the law WordWhole. -/
import Derived.Test.YtbmommomhepfpaaW8
namespace Go.Proofs.Ytbmommomhepfpaa
open Go.RowKit

theorem exact3 (a b : BitVec 64) : exactV 3 a b = (wideHigh a b == (a * b).sshiftRight 63) := by
  rw [exactV, if_pos (appE_3 b), appV_3]; rfl
theorem sle_not (x : BitVec 64) : (0#64).sle x = !(x.slt 0#64) := by
  rw [BitVec.sle, BitVec.slt, show (0#64).toInt = 0 from by decide]
  generalize x.toInt = n
  by_cases h : n < 0
  · rw [decide_eq_true h, decide_eq_false (by omega)]; rfl
  · rw [decide_eq_false h, decide_eq_true (by omega)]; rfl
theorem invV_no {a : BitVec 64} (h : invOk a = false) : invV a = 0#64 := by rw [invV, if_neg (by simp [h])]

set_option maxHeartbeats 2000000 in
theorem wordWhole_walk (a b c : BitVec 64) (w : World) :
    Calls Try.prog 9 #[s a, s b, s c] w fun e w' => e = .returned (.bool true) ∧ Below w.heap.size w w' := by
  obtain ⟨H, hH⟩ : ∃ H, H = wideHigh a b := ⟨_, rfl⟩
  have hX : exactV 3 a b = (H == (a * b).sshiftRight 63) := by rw [exact3, hH]
  rw [sar63] at hX
  have hne : (a.srem 2#64 != 0#64) = invOk a := rfl
  have hle : (0#64).sle (a * b) = !((a * b).slt 0#64) := sle_not _
  obtain ⟨p, hp⟩ : ∃ p, p = a * b := ⟨_, rfl⟩
  rw [← hp] at hX hle
  have hP := Hd.mk hp
  have hHH := Hd.mk hH
  clear hp hH
  cases hi : invOk a
  · have hv := invV_no hi
    rw [hi] at hne
    cases hs : p.slt 0#64 <;> cases h0 : (H == 0#64) <;> cases h1 : (H == 18446744073709551615#64)
    all_goals
      first
      | (exfalso; have e0 := eq_of_beq h0; have e1 := eq_of_beq h1; rw [e0] at e1; exact absurd e1 (by decide))
      | (rw [hs] at hX hle
         simp only [h0, h1, Bool.false_eq_true, if_false, if_true, Bool.not_true, Bool.not_false] at hX hle
         go_enter Try.func9, Try.ntmps9
         go_wp2_with fail
         refine (wide_any _ _ _).mono ?_
         rintro e w1 ⟨rfl, rfl⟩
         rw [wideLow_mul, ← hP.out, ← hHH.out]
         go_wp2_with fail
         refine (wide_any _ _ _).mono ?_
         rintro e w1 ⟨rfl, rfl⟩
         rw [wideLow_mul, wideHigh_comm, ← hHH.out, BitVec.mul_comm, ← hP.out]
         go_wp2_with fail
         refine (do_3 _ _ _).mono ?_
         rintro e w1 ⟨rfl, hB1⟩
         rw [← hP.out]
         go_wp2_with fail
         refine (exact_any 3 (by decide) (by decide) _ _ _).mono ?_
         rintro e w2 ⟨rfl, hB2⟩
         rw [hX, appE_3]
         have hB3 := hB1.trans (hB2.mono hB1.size)
         clear hB1 hB2
         go_wp2_with fail
         refine (inverse_any _ _).mono ?_
         rintro e w3 ⟨rfl, rfl⟩
         rw [hi, hv]
         go_wp2_with fail
         refine (awake_any _).mono ?_
         rintro e w6 ⟨rfl, hB6⟩
         have hB7 := hB3.trans (hB6.mono hB3.size)
         clear hB3 hB6
         go_wp2_with fail
         go_ret
         exact ⟨rfl, hB7⟩)

  · have hv : ∀ c : BitVec 64, c * a * invV a = c := fun c => by rw [BitVec.mul_assoc, inv_mul a hi, BitVec.mul_one]
    rw [hi] at hne
    cases hs : p.slt 0#64 <;> cases h0 : (H == 0#64) <;> cases h1 : (H == 18446744073709551615#64)
    all_goals
      first
      | (exfalso; have e0 := eq_of_beq h0; have e1 := eq_of_beq h1; rw [e0] at e1; exact absurd e1 (by decide))
      | (rw [hs] at hX hle
         simp only [h0, h1, Bool.false_eq_true, if_false, if_true, Bool.not_true, Bool.not_false] at hX hle
         go_enter Try.func9, Try.ntmps9
         go_wp2_with fail
         refine (wide_any _ _ _).mono ?_
         rintro e w1 ⟨rfl, rfl⟩
         rw [wideLow_mul, ← hP.out, ← hHH.out]
         go_wp2_with fail
         refine (wide_any _ _ _).mono ?_
         rintro e w1 ⟨rfl, rfl⟩
         rw [wideLow_mul, wideHigh_comm, ← hHH.out, BitVec.mul_comm, ← hP.out]
         go_wp2_with fail
         refine (do_3 _ _ _).mono ?_
         rintro e w1 ⟨rfl, hB1⟩
         rw [← hP.out]
         go_wp2_with fail
         refine (exact_any 3 (by decide) (by decide) _ _ _).mono ?_
         rintro e w2 ⟨rfl, hB2⟩
         rw [hX, appE_3]
         have hB3 := hB1.trans (hB2.mono hB1.size)
         clear hB1 hB2
         go_wp2_with fail
         refine (inverse_any _ _).mono ?_
         rintro e w3 ⟨rfl, rfl⟩
         rw [hi]
         go_wp2_with fail
         refine (do_3 _ _ _).mono ?_
         rintro e w4 ⟨rfl, hB4⟩
         have hB4' := hB3.trans (hB4.mono hB3.size)
         clear hB3 hB4
         go_wp2_with fail
         refine (do_3 _ _ _).mono ?_
         rintro e w5 ⟨rfl, hB5⟩
         rw [hv]
         have hB3 := hB4'.trans (hB5.mono hB4'.size)
         clear hB4' hB5
         go_wp2_with fail
         refine (awake_any _).mono ?_
         rintro e w6 ⟨rfl, hB6⟩
         have hB7 := hB3.trans (hB6.mono hB3.size)
         clear hB3 hB6
         go_wp2_with fail
         go_ret
         exact ⟨rfl, hB7⟩)

end Go.Proofs.Ytbmommomhepfpaa
