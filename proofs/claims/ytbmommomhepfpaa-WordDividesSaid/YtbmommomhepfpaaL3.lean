/- The law WordDivides, its cases joined. -/
import Derived.Test.YtbmommomhepfpaaL2
namespace Go.Proofs.Ytbmommomhepfpaa
open Go.RowKit

theorem neg_ne {b : BitVec 64} (h : ¬ b = 0#64) : ¬ 0#64 - b = 0#64 := by intro e; apply h; grind
theorem divF (a b : BitVec 64) (hb : ¬ b = 0#64) (X : Bool) (hX : (((0#64).sle a || (0#64).sle b) || (0#64).sle (a.sdiv b)) = X) :
    DivF a b (a.srem b) (modV a b) (0#64 - b) (a.sdiv b) X :=
  ⟨rfl, rfl, rfl, mod_neg a b (ne_zero' hb), rfl, hb, neg_ne hb, sdiv_srem a b, by rw [exact4 a b hb, hX]⟩
theorem srem_one (a : BitVec 64) : a.srem 1#64 = 0#64 := by
  apply BitVec.eq_of_toInt_eq
  rw [BitVec.toInt_srem, show (1#64).toInt = 1 from by decide, Int.tmod_one]; decide
theorem divF0 (a : BitVec 64) : DivF a 1#64 0#64 0#64 (0#64 - 1#64) a true := by
  have h1 : a.srem 1#64 = 0#64 := srem_one a
  have hm : modV a 1#64 = 0#64 := by
    unfold modV; rw [h1]; decide
  have hq : a.sdiv 1#64 = a := by
    have := sdiv_srem a 1#64
    rw [h1, BitVec.mul_one, BitVec.add_zero] at this; exact this
  refine ⟨hq, h1, hm, ?_, rfl, by decide, by decide, by rw [BitVec.mul_one, BitVec.add_zero], ?_⟩
  · rw [mod_neg a 1#64 (by decide), hm]
  · rw [exact4 a 1#64 (by decide)]; exact div_exact a 1#64 (.inr (by decide))

theorem wordDivides_walk (a b : BitVec 64) (w : World) :
    Calls Try.prog 4 #[s a, s b] w fun e w' => e = .returned (.bool true) ∧ Below w.heap.size w w' := by
  by_cases hb : b = 0#64
  · subst hb
    cases hx : (a != 9223372036854775808#64)
    · exact div_01 a _ (divF0 a) hx w
    · exact div_00 a _ (divF0 a) hx w
  have hb' := ne_zero' hb
  obtain ⟨f1, f2, f3, f4⟩ := rem_facts a b hb'
  obtain ⟨g1, g2, g3⟩ := mod_facts a b hb'
  have hA := ti a
  have hBt := ti b
  have hz := toInt_zero'
  have hm0 : (modV a b).slt 0#64 = false := not_slt (by rw [hz]; exact g1)
  have hneg : ∀ x : BitVec 64, x.toInt ≠ -9223372036854775808 → (-x).toInt = -x.toInt := neg_ti
  have mk : ∀ X : Bool, (((0#64).sle a || (0#64).sle b) || (0#64).sle (a.sdiv b)) = X → DivF a b (a.srem b) (modV a b) (0#64 - b) (a.sdiv b) X := divF a b hb
  have hmodn : (a.srem b).slt 0#64 = true → (0#64).slt b = true → modV a b = a.srem b + b := fun h1 h2 => by
    rw [BitVec.slt, decide_eq_true_eq, hz] at h1 h2
    unfold modV
    rw [not_sle (by rw [hz]; exact h1), not_slt (by rw [hz]; omega)]; rfl
  have hmodn2 : (a.srem b).slt 0#64 = true → b.slt 0#64 = true → modV a b = a.srem b - b := fun h1 h2 => by
    rw [BitVec.slt, decide_eq_true_eq, hz] at h1
    unfold modV
    rw [not_sle (by rw [hz]; exact h1), h2]; rfl
  have hmodp : (a.srem b).slt 0#64 = false → modV a b = a.srem b := fun h1 => by
    rw [BitVec.slt, decide_eq_false_iff_not, hz] at h1
    unfold modV
    rw [sle_of (by rw [hz]; omega)]; rfl
  have hm1 : (modV a b).toInt ≠ -9223372036854775808 := by omega
  by_cases hbp : 0 < b.toInt
  · have b1 : (0#64).slt b = true := slt_of (by rw [hz]; exact hbp)
    have b2 : b.slt 0#64 = false := not_slt (by rw [hz]; omega)
    have hnb := hneg b (by omega)
    obtain ⟨k1, k2⟩ := f3 hbp
    have c1 : b.sle (a.srem b) = false := not_sle k1
    have c2 : (a.srem b).sle (-b) = false := not_sle (by rw [hnb]; exact k2)
    have c3 : b.sle (modV a b) = false := not_sle (g2 hbp)
    have bx : (b != 18446744073709551615#64) = true := by
      rw [bne_iff_ne]; intro e; rw [e] at hbp; exact absurd hbp (by decide)
    have F := mk true (div_exact a b (.inr (by simpa using bx)))
    cases hx : (a != 9223372036854775808#64)
    · have ha : a = 9223372036854775808#64 := by simpa using hx
      have ha0 : a.toInt ≤ 0 := by rw [ha]; decide
      by_cases hr : (a.srem b).toInt < 0
      · have r2 : (a.srem b).slt 0#64 = true := slt_of (by rw [hz]; exact hr)
        exact div_np1 a b _ _ _ _ F (not_slt (by rw [hz]; omega)) r2 (not_slt (by rw [hz]; omega)) b1 b2 hm0 c1 c2 c3 (hmodn r2 b1) hx bx w
      · have r2 : (a.srem b).slt 0#64 = false := not_slt (by rw [hz]; omega)
        exact div_zp1 a b _ _ _ _ F (not_slt (by rw [hz]; exact f2 ha0)) r2 b1 b2 hm0 c1 c2 c3 (hmodp r2) hx bx w
    · by_cases hr : (a.srem b).toInt < 0
      · have r2 : (a.srem b).slt 0#64 = true := slt_of (by rw [hz]; exact hr)
        exact div_np0 a b _ _ _ _ F (not_slt (by rw [hz]; omega)) r2 (not_slt (by rw [hz]; omega)) b1 b2 hm0 c1 c2 c3 (hmodn r2 b1) hx w
      · have r2 : (a.srem b).slt 0#64 = false := not_slt (by rw [hz]; omega)
        by_cases hr0 : (a.srem b).toInt = 0
        · exact div_zp0 a b _ _ _ _ F (not_slt (by rw [hz]; omega)) r2 b1 b2 hm0 c1 c2 c3 (hmodp r2) hx w
        · exact div_pp0 a b _ _ _ _ F (slt_of (by rw [hz]; omega)) r2 (not_slt (by rw [hz]; omega)) b1 b2 hm0 c1 c2 c3 (hmodp r2) hx w
  · have hbn : b.toInt < 0 := by omega
    have b1 : (0#64).slt b = false := not_slt (by rw [hz]; omega)
    have b2 : b.slt 0#64 = true := slt_of (by rw [hz]; exact hbn)
    obtain ⟨k1, k2⟩ := f4 hbn
    have c1 : (a.srem b).sle b = false := not_sle k2
    have c3 : (-(modV a b)).sle b = false := not_sle (by rw [hneg _ hm1]; have := g3 hbn; omega)
    cases hx : (a != 9223372036854775808#64)
    · have ha : a = 9223372036854775808#64 := by simpa using hx
      have ha0 : a.toInt ≤ 0 := by rw [ha]; decide
      have r1 : (0#64).slt (a.srem b) = false := not_slt (by rw [hz]; exact f2 ha0)
      cases bx : (b != 18446744073709551615#64)
      · have hbe : b = 18446744073709551615#64 := by simpa using bx
        have F := mk false (by rw [ha, hbe]; decide +kernel)
        have hr : (a.srem b).toInt = 0 := by have : b.toInt = -1 := by rw [hbe]; decide
                                             omega
        have r2 : (a.srem b).slt 0#64 = false := not_slt (by rw [hz]; omega)
        exact div_zn2 a b _ _ _ _ F r1 r2 b1 b2 hm0 c1 c3 (hmodp r2) hx bx w
      · have F := mk true (div_exact a b (.inr (by simpa using bx)))
        by_cases hr : (a.srem b).toInt < 0
        · have r2 : (a.srem b).slt 0#64 = true := slt_of (by rw [hz]; exact hr)
          exact div_nn1 a b _ _ _ _ F r1 r2 (not_slt (by rw [hz]; omega)) b1 b2 hm0 c1 c3 (hmodn2 r2 b2) hx bx w
        · have r2 : (a.srem b).slt 0#64 = false := not_slt (by rw [hz]; omega)
          exact div_zn1 a b _ _ _ _ F r1 r2 b1 b2 hm0 c1 c3 (hmodp r2) hx bx w
    · have F := mk true (div_exact a b (.inl (by simpa using hx)))
      by_cases hr : (a.srem b).toInt < 0
      · have r2 : (a.srem b).slt 0#64 = true := slt_of (by rw [hz]; exact hr)
        exact div_nn0 a b _ _ _ _ F (not_slt (by rw [hz]; omega)) r2 (not_slt (by rw [hz]; omega)) b1 b2 hm0 c1 c3 (hmodn2 r2 b2) hx w
      · have r2 : (a.srem b).slt 0#64 = false := not_slt (by rw [hz]; omega)
        by_cases hr0 : (a.srem b).toInt = 0
        · exact div_zn0 a b _ _ _ _ F (not_slt (by rw [hz]; omega)) r2 b1 b2 hm0 c1 c3 (hmodp r2) hx w
        · have c2 : (-(a.srem b)).sle b = false := not_sle (by rw [hneg _ (by omega)]; omega)
          exact div_pn0 a b _ _ _ _ F (slt_of (by rw [hz]; omega)) r2 (not_slt (by rw [hz]; omega)) b1 b2 hm0 c1 c3 c2 (hmodp r2) hx w
end Go.Proofs.Ytbmommomhepfpaa
