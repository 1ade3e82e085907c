/- Walk of the law MixTexts. -/
import Derived.Test.YtdgmbghbjpmiiaaM2
import Derived.Test.YtdgmbghbjpmiiaaL1
namespace Go.Proofs.Ytdgmbghbjpmiiaa
open Go.RowKit

theorem read_cases (t : ByteArray) : (readX t = 0#64 ∧ readE t = 50) ∨ (∃ z, readX t = z ∧ readE t = 0 ∧ textV z = t) := by
  cases h : readV t with
  | none => exact .inl (readE_none h)
  | some z => exact .inr ⟨z, (readE_some h).1, (readE_some h).2, unread t z h⟩

set_option maxHeartbeats 2000000 in
theorem mixTexts_walk (x y : BitVec 64) (s : ByteArray) (_hs : s.size ≤ 9223372036854775807) (w : World) :
    Calls Try.prog 10 #[u x, u y, .string s] w fun e w' => e = .returned (.bool true) ∧ Below w.heap.size w w' := by
  have hl := less_text x y
  have he := eq_text x y
  have hz := size_text x
  have hr := readE_some (read_text x)
  obtain ⟨hr1, hr2⟩ := hr
  by_cases h100 : s.size ≤ 100
  · have hts : s.size ≤ 4611686018427387904 := by omega
    go_enter Try.func10, Try.ntmps10
    go_wp2_with fail
    refine (text_any _ _).mono ?_
    rintro e w1 ⟨rfl, hb1⟩
    go_wp2_with fail
    refine (text_any _ _).mono ?_
    rintro e w2 ⟨rfl, hb2⟩
    have hB2 := hb1.trans (hb2.mono hb1.size)
    clear hb1 hb2
    go_wp2_with fail
    refine (read_any _ (by omega) _).mono ?_
    rintro e w3 ⟨rfl, rfl⟩
    rw [hr1, hr2]
    go_wp2_with fail
    refine (read_any s hts _).mono ?_
    rintro e w3 ⟨rfl, rfl⟩
    rcases read_cases s with ⟨c1, c2⟩ | ⟨z, c1, c2, c3⟩
    · rw [c1, c2]
      go_wp2_with fail
      refine (awake_any _).mono ?_
      rintro e w4 ⟨rfl, hb4⟩
      go_wp2_with fail
      go_ret
      exact ⟨rfl, hB2.trans (hb4.mono hB2.size)⟩
    · rw [c1, c2]
      go_wp2_with fail
      refine (text_any _ _).mono ?_
      rintro e w4 ⟨rfl, hb4⟩
      have hB4 := hB2.trans (hb4.mono hB2.size)
      clear hb4 hB2
      rw [c3]
      go_wp2_with fail
      refine (awake_any _).mono ?_
      rintro e w5 ⟨rfl, hb5⟩
      go_wp2_with fail
      go_ret
      exact ⟨rfl, hB4.trans (hb5.mono hB4.size)⟩
  · have hts : (s.extract 0 100).size ≤ 4611686018427387904 := by simp [ByteArray.size_extract]; omega
    go_enter Try.func10, Try.ntmps10
    go_wp2_with fail
    refine (text_any _ _).mono ?_
    rintro e w1 ⟨rfl, hb1⟩
    go_wp2_with fail
    refine (text_any _ _).mono ?_
    rintro e w2 ⟨rfl, hb2⟩
    have hB2 := hb1.trans (hb2.mono hb1.size)
    clear hb1 hb2
    go_wp2_with fail
    refine (read_any _ (by omega) _).mono ?_
    rintro e w3 ⟨rfl, rfl⟩
    rw [hr1, hr2]
    go_wp2_with fail
    refine (read_any (s.extract 0 100) hts _).mono ?_
    rintro e w3 ⟨rfl, rfl⟩
    rcases read_cases (s.extract 0 100) with ⟨c1, c2⟩ | ⟨z, c1, c2, c3⟩
    · rw [c1, c2]
      go_wp2_with fail
      refine (awake_any _).mono ?_
      rintro e w4 ⟨rfl, hb4⟩
      go_wp2_with fail
      go_ret
      exact ⟨rfl, hB2.trans (hb4.mono hB2.size)⟩
    · rw [c1, c2]
      go_wp2_with fail
      refine (text_any _ _).mono ?_
      rintro e w4 ⟨rfl, hb4⟩
      have hB4 := hB2.trans (hb4.mono hB2.size)
      clear hb4 hB2
      rw [c3]
      go_wp2_with fail
      refine (awake_any _).mono ?_
      rintro e w5 ⟨rfl, hb5⟩
      go_wp2_with fail
      go_ret
      exact ⟨rfl, hB4.trans (hb5.mono hB4.size)⟩
end Go.Proofs.Ytdgmbghbjpmiiaa
