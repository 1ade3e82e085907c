/- The law WordShifts, its cases joined. -/
import Derived.Test.YtbmommomhepfpaaL6
namespace Go.Proofs.Ytbmommomhepfpaa
open Go.RowKit

theorem exact10 (a b : BitVec 64) : exactV 10 a b = ((a <<< (b &&& 63#64).toNat).sshiftRight (b &&& 63#64).toNat == a) := by
  rw [exactV, if_pos (appE_10 b), appV_10]; rfl

theorem wordShifts_walk (a b : BitVec 64) (w : World) :
    Calls Try.prog 6 #[s a, s b] w fun e w' => e = .returned (.bool true) ∧ Below w.heap.size w w' := by
  obtain ⟨n, hn⟩ : ∃ n, b &&& 63#64 = n := ⟨_, rfl⟩
  have hnn : n &&& 63#64 = n := by rw [← hn, and63]
  have hlt : n.toNat < 64 := by rw [← hn, and63_nat]; omega
  have hX := exact10 a b
  rw [hn] at hX
  have F : ShF a b n (1#64 <<< n.toNat) (1#64 <<< ((64#64 - n) &&& 63#64).toNat) (a <<< n.toNat) (a.sshiftRight n.toNat) (a >>> n.toNat) ((a <<< n.toNat).sshiftRight n.toNat)
      ((a.sshiftRight n.toNat) <<< n.toNat) (a - (a.sshiftRight n.toNat) <<< n.toNat) :=
    ⟨hn, by rw [hnn], by rw [hn], by rw [hn], by rw [hn], shl_mul a n.toNat, by rw [hnn], by rw [hnn], by rw [hnn], by rw [hn], by rw [hn], rfl, rfl⟩
  have hnt : n.toInt = n.toNat := by rw [BitVec.toInt_eq_toNat_cond]; split <;> omega
  have h63 : (63#64).toInt = 63 := by decide
  by_cases h0 : n.toNat = 0
  · have hz : n = 0#64 := BitVec.eq_of_toNat_eq (by rw [h0]; rfl)
    have hn0 : (n == 0#64) = true := by rw [hz]; rfl
    have hn1 : (0#64).slt n = false := by rw [hz]; rfl
    have hR0 : (a - (a.sshiftRight n.toNat) <<< n.toNat != 0#64) = false := by
      rw [h0]; simp
    have hl : a >>> n.toNat = a := by rw [h0]; simp
    have hl2 : a >>> n.toNat = a.sshiftRight n.toNat := by rw [h0]; simp
    cases hs : a.slt 0#64
    · exact sh_zp a b n _ _ _ _ _ _ _ _ _ F hX rfl (by rw [sar_neg, hs]) hs (by rw [sle_not', hs]; rfl) hn0 hn1 hR0 hl2 w
    · exact sh_zn a b n _ _ _ _ _ _ _ _ _ F hX rfl (by rw [sar_neg, hs]) hs (by rw [sle_not', hs]; rfl) hn0 hn1 hR0 hl w
  · have hn0 : (n == 0#64) = false := by rw [beq_eq_false_iff_ne]; intro e; rw [e] at h0; exact h0 rfl
    have hn1 : (0#64).slt n = true := by rw [BitVec.slt, toInt_zero', hnt]; exact decide_eq_true (by omega)
    have hq : ((64#64 - n) &&& 63#64).toNat = 64 - n.toNat := by
      rw [and63_nat, BitVec.toNat_sub]
      have : (64#64).toNat = 64 := by decide
      rw [this]; omega
    have hl : a.slt 0#64 = true → a >>> n.toNat = a.sshiftRight n.toNat + 1#64 <<< ((64#64 - n) &&& 63#64).toNat := fun h => by rw [hq]; exact shr_neg a _ h (by omega)
    by_cases h3 : n.toNat < 63
    · have hn2 : n.slt 63#64 = true := by rw [BitVec.slt, h63, hnt]; exact decide_eq_true (by omega)
      obtain ⟨r1, r2⟩ := rest_ti a n.toNat h3
      have r1' : (a - (a.sshiftRight n.toNat) <<< n.toNat).slt 0#64 = false := by rw [BitVec.slt, toInt_zero']; exact decide_eq_false (by omega)
      have r2' : (1#64 <<< n.toNat).sle (a - (a.sshiftRight n.toNat) <<< n.toNat) = false := by rw [BitVec.sle]; exact decide_eq_false (by omega)
      cases hs : a.slt 0#64
      · exact sh_mp a b n _ _ _ _ _ _ _ _ _ F hX rfl (by rw [sar_neg, hs]) hs (by rw [sle_not', hs]; rfl) hn0 hn1 hn2 r1' r2' (shr_pos a _ hs) w
      · exact sh_mn a b n _ _ _ _ _ _ _ _ _ F hX rfl (by rw [sar_neg, hs]) hs (by rw [sle_not', hs]; rfl) hn0 hn1 hn2 r1' r2' (hl hs) w
    · have hn2 : n.slt 63#64 = false := by rw [BitVec.slt, h63, hnt]; exact decide_eq_false (by omega)
      cases hs : a.slt 0#64
      · exact sh_lp a b n _ _ _ _ _ _ _ _ _ F hX rfl (by rw [sar_neg, hs]) hs (by rw [sle_not', hs]; rfl) hn0 hn1 hn2 (shr_pos a _ hs) w
      · exact sh_ln a b n _ _ _ _ _ _ _ _ _ F hX rfl (by rw [sar_neg, hs]) hs (by rw [sle_not', hs]; rfl) hn0 hn1 hn2 (hl hs) w
end Go.Proofs.Ytbmommomhepfpaa
