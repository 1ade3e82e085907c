/- Walk of the reference's Wide. -/
import Derived.Test.YtbmommomhepfpaaR16
import Derived.Test.YtbmommomhepfpaaPW
import Derived.Test.YtbmommomhepfpaaPX
import Derived.Deep.DeepCutAuto
import Derived.Deep.DrawnRows
namespace Go.Proofs.Ytbmommomhepfpaa
open Go.RowKit
set_option linter.unusedVariables false
attribute [local go_sem ↓] Go.wp_at_zero Go.wp_at_succ

/-- What stands at a round's head: high and low, and what they make. -/
structure WI (w4 : World) (A B k : Nat) (vl vh : Value) (lo hi : BitVec 64) (W : World) : Prop where
  low : Bs W vl lo
  high : Bs W vh hi
  num : hi.toNat * 18446744073709551616 + lo.toNat = A * (B / 2 ^ k)
  bel : Below w4.heap.size w4 W

theorem wi_bound {A B k hi lo : Nat} (h : hi * 18446744073709551616 + lo = A * (B / 2 ^ k)) (hA : A ≤ 9223372036854775808) (hB : B ≤ 9223372036854775808) (hk : 0 < k) : hi < 4611686018427387904 := by
  have h1 : B / 2 ^ k < 4611686018427387905 := by
    have : 2 ≤ 2 ^ k := by
      calc 2 = 2 ^ 1 := rfl
        _ ≤ 2 ^ k := Nat.pow_le_pow_right (by decide) hk
    have h2 : B / 2 ^ k ≤ B / 2 := Nat.div_le_div_left this (by decide)
    omega
  have h3 : A * (B / 2 ^ k) ≤ 9223372036854775808 * 4611686018427387904 := Nat.mul_le_mul hA (by omega)
  have h4 : (9223372036854775808 * 4611686018427387904 : Nat) = 2305843009213693952 * 18446744073709551616 := by decide
  rw [h4, ← h] at h3
  have h5 : hi * 18446744073709551616 ≤ 2305843009213693952 * 18446744073709551616 := Nat.le_trans (Nat.le_add_right _ _) h3
  clear h3 h4 h
  have := Nat.le_of_mul_le_mul_right h5 (by decide)
  omega
theorem wi_dbl (hi lo : BitVec 64) (P : Nat) (h : hi.toNat * 18446744073709551616 + lo.toNat = P) (hb : hi.toNat < 9223372036854775808) :
    (nxt lo hi 63).toNat * 18446744073709551616 + (lo <<< 1).toNat = 2 * P ∧ (nxt lo hi 63).toNat ≤ 2 * hi.toNat + 1 := by
  have hn := nxt_nat lo hi 63
  have hd := dbl_lo lo
  rw [Nat.mod_eq_of_lt (by omega)] at hn
  rw [hn]
  exact ⟨lin_dbl _ _ _ _ _ _ hd h, by omega⟩
theorem wi_step (A B m : Nat) : (B / 2 ^ m % 2 = 0 → 2 * (A * (B / 2 ^ (m + 1))) = A * (B / 2 ^ m)) ∧ (B / 2 ^ m % 2 = 1 → 2 * (A * (B / 2 ^ (m + 1))) + A = A * (B / 2 ^ m)) := by
  have e : B / 2 ^ m = 2 * (B / 2 ^ (m + 1)) + B / 2 ^ m % 2 := by rw [Nat.pow_succ, ← Nat.div_div_eq_div_mul]; omega
  generalize B / 2 ^ (m + 1) = q at *
  constructor
  · intro h
    rw [e, h, Nat.add_zero, ← Nat.mul_assoc, Nat.mul_comm 2 A, Nat.mul_assoc]
  · intro h
    rw [e, h, Nat.mul_add, Nat.mul_one, ← Nat.mul_assoc, ← Nat.mul_assoc, Nat.mul_comm 2 A]

theorem wi_round (A B lo hi : BitVec 64) (hA : A.toNat ≤ 9223372036854775808) (hB : B.toNat ≤ 9223372036854775808) (m : Nat)
    (h : hi.toNat * 18446744073709551616 + lo.toNat = A.toNat * (B.toNat / 2 ^ (m + 1))) :
    (bi B m = 0 → (nxt lo hi 63).toNat * 18446744073709551616 + (lo <<< 1).toNat = A.toNat * (B.toNat / 2 ^ m)) ∧
    (bi B m = 1 → (lo <<< 1 + A).ult (lo <<< 1) = true → (nxt lo hi 63 + 1#64).toNat * 18446744073709551616 + (lo <<< 1 + A).toNat = A.toNat * (B.toNat / 2 ^ m)) ∧
    (bi B m = 1 → (lo <<< 1 + A).ult (lo <<< 1) = false → (nxt lo hi 63).toNat * 18446744073709551616 + (lo <<< 1 + A).toNat = A.toNat * (B.toNat / 2 ^ m)) := by
  have hb := wi_bound h hA hB (by omega)
  obtain ⟨hd, hn⟩ := wi_dbl hi lo _ h (by omega)
  obtain ⟨s0, s1⟩ := wi_step A.toNat B.toNat m
  have hbn := bi_nat B m
  have ha := wide_add (nxt lo hi 63) (lo <<< 1) A _ hd (by omega)
  refine ⟨fun e => ?_, fun e c => ?_, fun e c => ?_⟩
  · rw [hd, s0 (by omega)]
  · rw [ha.1 c, s1 (by omega)]
  · rw [ha.2 c, s1 (by omega)]

theorem all_zero (x : BitVec 64) : (∀ j, j < 64 → bi x j = 0) ↔ x = 0#64 := by
  constructor
  · intro h
    apply BitVec.eq_of_getLsbD_eq
    intro i hi
    have := h i hi
    unfold bi at this
    cases hx : x.getLsbD i
    · simp
    · rw [hx] at this; exact absurd this (by decide)
  · rintro rfl j _
    simp [bi]
theorem pow_u (k : Nat) (hk : k < 64) : BitVec.ofInt 64 ((2 : Int) ^ k) = 1#64 <<< k := by
  have e : ((2 : Int) ^ k) = ((2 ^ k : Nat) : Int) := by simp
  have h1 : (2 : Nat) ^ k < 2 ^ 64 := Nat.pow_lt_pow_right (by decide) hk
  rw [e]
  apply BitVec.eq_of_toNat_eq
  rw [BitVec.toNat_ofInt, BitVec.toNat_shiftLeft, Nat.shiftLeft_eq, show (1#64).toNat = 1 from rfl, Nat.one_mul]
  omega
theorem not_zero (x : BitVec 64) : ~~~x + 0#64 = ~~~x := by simp

set_option maxRecDepth 100000 in
set_option maxHeartbeats 8000000 in
theorem refWide_any (a b : BitVec 64) (w : World) : Calls Try.prog 28 #[s a, s b] w fun e w' => e = .returned (.tuple #[s (wideHigh a b), u (wideLow a b)]) ∧ Below w.heap.size w w' := by
  have hmk := mk64
  have HB0 : Hd (Below w.heap.size w ((w.alloc (.cells z64 3)).alloc (.cells z64 3)).drew) := ⟨(((Below.refl _ _).alloc (Nat.le_refl _) _).alloc (by simp) _).drew⟩
  have HM0 : Hd (Bs ((w.alloc (.cells z64 3)).alloc (.cells z64 3)).drew (.slice (some ⟨w.heap.size, 0, none⟩) 64 64) 0#64) := ⟨bs_zero ((Mk.made w).below (((Below.refl _ _).alloc (Nat.le_refl _) _).drew) (by simp))⟩
  have HM1 : Hd (Bs ((w.alloc (.cells z64 3)).alloc (.cells z64 3)).drew (.slice (some ⟨w.heap.size + 1, 0, none⟩) 64 64) 0#64) := ⟨bs_zero (by
    have := (Mk.made (w.alloc (.cells z64 3))).below (Below.refl ((w.alloc (.cells z64 3)).heap.size + 1) _).drew (by omega)
    simpa using this)⟩
  go_enter Try.func28, Try.ntmps28
  go_upto_region 1 with fail
  go_cut [6, 7] (fun v6 v7 wx => Bs wx v6 0#64 ∧ Bs wx v7 0#64 ∧ Below w.heap.size w wx)
  case first =>
    go_region_with (fail)
    · go_wp2_with fail
      go_meet
      exact ⟨HM0.out, HM1.out, HB0.out⟩
    · go_wp2_with fail
      go_meet
      exact ⟨HM1.out, HM0.out, HB0.out⟩
  case rest =>
    obtain ⟨hv6, hv7, hB⟩ := hcut
    have HV6 := Hd.mk hv6
    have HV7 := Hd.mk hv7
    have HB := Hd.mk hB
    clear hv6 hv7 hB HB0 HM0 HM1
    go_wp2_with fail
    refine (amount_any a _).mono ?_
    rintro e w3 ⟨v3, rfl, hb3, hB3⟩
    have HV3 := Hd.mk hb3
    have HX3 := Hd.mk hB3
    clear hb3 hB3
    go_wp2_with fail
    refine (amount_any b _).mono ?_
    rintro e w4 ⟨v4, rfl, hb4, hB4⟩
    have HV4 := Hd.mk hb4
    have HV34 := Hd.mk (HV3.out.below hB4)
    have HL0 := Hd.mk ((HV6.out.below HX3.out).below hB4)
    have HH0 := Hd.mk ((HV7.out.below HX3.out).below hB4)
    have HB4 := Hd.mk (ch4 (ch4 HB.out HX3.out) hB4)
    clear hb4 hB4 HV6 HV7 HB HX3 HV3
    go_wp2_with fail
    go_loopw [6, 7, 10] (fun vl vh i W => ∃ (k : Nat) (lo hi : BitVec 64), k ≤ 64 ∧ i = .int .i64 ((k : Int) - 1) ∧ WI w4 (absV a).toNat (absV b).toNat k vl vh lo hi W) (fun _ _ i _ => (intOf i + 1).toNat)
    case atStart => exact ⟨64, 0#64, 0#64, by omega, rfl, ⟨HL0.out, HH0.out, by rw [Nat.div_eq_of_lt (absV b).isLt]; simp, Below.refl _ _⟩⟩
    case round =>
      obtain ⟨k, lo, hi, hk, rfl, hI⟩ := hrel
      have HI := Hd.mk hI
      clear hI HL0 HH0
      by_cases hlt : 0 < k
      · obtain ⟨m, rfl⟩ : ∃ m, k = m + 1 := ⟨k - 1, by omega⟩
        have hm0 : ((m + 1 : Nat) : Int) - 1 = (m : Int) := by omega
        rw [hm0]
        have hm64 : m < 64 := by omega
        have HR := Hd.mk (wi_round (absV a) (absV b) lo hi (abs_le a).1 (abs_le b).1 m HI.out.num)
        have HVL := Hd.mk HI.out.low
        obtain ⟨b3, off3, c3, rfl, _, _, _, hcell3⟩ := HI.out.low
        have hc63 := hcell3 63 (by omega)
        clear hm0 hcell3
        obtain ⟨t63, ht63⟩ : ∃ n, bi lo 63 = n := ⟨_, rfl⟩
        rw [ht63] at hc63
        have HT := Hd.mk ht63
        clear ht63
        go_wp2_with fail
        refine (up1 _ lo _ HVL.out).mono ?_
        rintro e w5 ⟨g5, rfl, hg5, hM5, hB5⟩
        have HL5 := Hd.mk (hM5.bs (x := lo <<< 1) (fun _ _ => rfl))
        have hg5l := hM5.lt
        have HX5 := Hd.mk hB5
        have HH5 := Hd.mk (HI.out.high.below hB5)
        clear hg5 hM5 hB5 hc63
        go_wp2_with fail
        refine (up1 _ hi _ HH5.out).mono ?_
        rintro e w6 ⟨g6, rfl, hg6, hM6, hB6⟩
        have hg0 := hM6.cell 0 (by omega)
        have hgf := hM6.free 0
        have HB6 := Hd.mk (ch4 (ch4 HI.out.bel HX5.out) hB6)
        obtain ⟨W7, hW7⟩ : ∃ W7, W7 = w6.setCell ⟨g6, 0, none⟩ (.int .i64 t63) := ⟨_, rfl⟩
        have HH7 : Hd (Bs W7 (.slice (some ⟨g6, 0, none⟩) 64 64) (nxt lo hi 63)) := ⟨by rw [hW7, ← HT.out]; exact (hM6.set 0 (by omega) (bi lo 63)).bs (fun j _ => nxt_bit lo hi 63 j)⟩
        have HL7 : Hd (Bs W7 (.slice (some ⟨g5, 0, none⟩) 64 64) (lo <<< 1)) := ⟨by rw [hW7]; exact (HL5.out.below hB6).apt ⟨g5, 0, 64, rfl, by omega⟩⟩
        have hBW7 : Below w4.heap.size w4 W7 := by rw [hW7]; exact HB6.out.setCell (by have := HI.out.bel.size; have := HX5.out.size; show w4.heap.size ≤ g6; omega) _
        have HB7 := Hd.mk hBW7
        have HX7 := Hd.mk (HV34.out.below hBW7)
        obtain ⟨b4, off4, c4, rfl, _, _, _, hcell4⟩ := HV4.out.below hBW7
        have hcy := hcell4 m hm64
        have HW7 := Hd.mk hW7
        clear hg5l hg6 hM6 hB6 hW7 hBW7 hcell4 HH5 HL5 HX5 HB6
        obtain ⟨ym, hym⟩ : ∃ n, bi (absV b) m = n := ⟨_, rfl⟩
        rw [hym] at hcy
        have hy01 : ym = 0 ∨ ym = 1 := by rw [← hym]; exact bi_01 _ _
        have HY := Hd.mk hym
        clear hym
        go_upto_region 9 with fail
        rw [← HW7.out]
        clear HW7 hg0 hgf
        rcases hy01 with rfl | rfl
        · go_wp2_with fail
          go_roundw
          case rel => exact ⟨m, _, _, by omega, rfl, ⟨HL7.out, HH7.out, HR.out.1 HY.out, HB7.out⟩⟩
          case measure => simp [intOf] <;> omega
        · go_wp2_with fail
          refine (sum0 _ _ (lo <<< 1) (absV a) _ HL7.out HX7.out).mono ?_
          rintro e w8 ⟨v8, rfl, hb8, hB8⟩
          have HV8 := Hd.mk hb8
          have HL8 := Hd.mk (HL7.out.below hB8)
          have HH8 := Hd.mk (HH7.out.below hB8)
          have HB8 := Hd.mk (ch4 HB7.out hB8)
          clear hb8 hB8
          go_wp2_with fail
          refine (less_any _ _ (lo <<< 1 + absV a) (lo <<< 1) _ HV8.out HL8.out).mono ?_
          rintro e w9 ⟨rfl, hB9⟩
          have HV9 := Hd.mk (HV8.out.below hB9)
          have HH9 := Hd.mk (HH8.out.below hB9)
          have HB9 := Hd.mk (ch4 HB8.out hB9)
          clear hB9
          obtain ⟨cc, hcc⟩ : ∃ c, (lo <<< 1 + absV a).ult (lo <<< 1) = c := ⟨_, rfl⟩
          rw [hcc]
          have HCC := Hd.mk hcc
          clear hcc
          cases cc
          · go_wp2_with fail
            refine (sum0 _ _ (nxt lo hi 63) 0#64 _ (HH9.out.al _) (bs_zero (Mk.made _))).mono ?_
            rintro e w10 ⟨v10, rfl, hb10, hB10⟩
            rw [BitVec.add_zero] at hb10
            have HF := Hd.mk (WI.mk ((HV9.out.al _).below hB10) hb10 (HR.out.2.2 HY.out HCC.out) (ch4 HB9.out (ch3 hB10)))
            clear hb10 hB10
            go_wp2_with fail
            go_roundw
            case rel => exact ⟨m, _, _, by omega, rfl, HF.out⟩
            case measure => simp [intOf] <;> omega
          · go_wp2_with fail
            refine (sum1 _ _ (nxt lo hi 63) 0#64 _ (HH9.out.al _) (bs_zero (Mk.made _))).mono ?_
            rintro e w10 ⟨v10, rfl, hb10, hB10⟩
            rw [BitVec.add_zero] at hb10
            have HF := Hd.mk (WI.mk ((HV9.out.al _).below hB10) hb10 (HR.out.2.1 HY.out HCC.out) (ch4 HB9.out (ch3 hB10)))
            clear hb10 hB10
            go_wp2_with fail
            go_roundw
            case rel => exact ⟨m, _, _, by omega, rfl, HF.out⟩
            case measure => simp [intOf] <;> omega
      · obtain rfl : k = 0 := by omega
        have hnum := HI.out.num
        rw [Nat.pow_zero, Nat.div_one] at hnum
        have HSG := Hd.mk (wide_signs a b hi lo hnum)
        clear hnum
        go_upto_if 59 with fail
        go_cut [6, 7] (fun v6 v7 wx => Bs wx v6 (wideLow a b) ∧ Bs wx v7 (wideHigh a b) ∧ Below w4.heap.size w4 wx)
        case first =>
          have hs : (!(a.slt 0#64 == b.slt 0#64)) = (a.slt 0#64 != b.slt 0#64) := rfl
          rw [hs]
          clear hs
          obtain ⟨sg, hsg⟩ : ∃ q, (a.slt 0#64 != b.slt 0#64) = q := ⟨_, rfl⟩
          rw [hsg] at HSG ⊢
          clear hsg
          cases sg
          · have HE := Hd.mk (HSG.out.1 rfl)
            clear HSG
            go_wp2_with fail
            go_meet
            exact ⟨by rw [← HE.out.2]; exact HI.out.low, by rw [← HE.out.1]; exact HI.out.high, HI.out.bel⟩
          · have HE := Hd.mk (HSG.out.2 rfl)
            clear HSG
            obtain ⟨b3, off3, c3, rfl, _, _, _, hcell3⟩ := HI.out.low
            have HC3 := Hd.mk hcell3
            clear hcell3
            go_wp2_with fail
            go_loop [14, 15] (fun z i => ∃ (k : Nat) (q : Bool), k ≤ 64 ∧ i = .int .i64 k ∧ z = .bool q ∧ Hd (q = true ↔ ∀ j, j < k → bi lo j = 0)) (fun _ i => 64 - (intOf i).toNat)
            case atStart => exact ⟨0, true, by omega, rfl, rfl, ⟨fun _ j hj => by omega, fun _ => rfl⟩⟩
            case round =>
              obtain ⟨k, q, hk, rfl, rfl, HQ⟩ := hrel
              by_cases hlt2 : k < 64
              · have hck := HC3.out k hlt2
                obtain ⟨n0, hn0⟩ : ∃ n, bi lo k = n := ⟨_, rfl⟩
                rw [hn0] at hck
                have hn01 : n0 = 0 ∨ n0 = 1 := by rw [← hn0]; exact bi_01 _ _
                have HN := Hd.mk hn0
                clear hn0
                cases q
                · have HS : Hd (false = true ↔ ∀ j, j < k + 1 → bi lo j = 0) := ⟨⟨fun h => (by cases h), fun h => HQ.out.2 fun j hj => h j (by omega)⟩⟩
                  go_wp2_with fail
                  go_round
                  case rel => exact ⟨k + 1, false, by omega, by go_num, rfl, HS⟩
                  case measure => simp [intOf] <;> omega
                · rcases hn01 with rfl | rfl
                  · have HS : Hd (true = true ↔ ∀ j, j < k + 1 → bi lo j = 0) := ⟨fun _ j hj => by
                      by_cases e : j = k
                      · rw [e]; exact HN.out
                      · exact HQ.out.1 rfl j (by omega), fun _ => rfl⟩
                    go_wp2_with fail
                    go_round
                    case rel => exact ⟨k + 1, true, by omega, by go_num, rfl, HS⟩
                    case measure => simp [intOf] <;> omega
                  · have HS : Hd (false = true ↔ ∀ j, j < k + 1 → bi lo j = 0) := ⟨⟨fun h => (by cases h), fun h => (by have := h k (by omega); rw [HN.out] at this; exact absurd this (by decide))⟩⟩
                    go_wp2_with fail
                    go_round
                    case rel => exact ⟨k + 1, false, by omega, by go_num, rfl, HS⟩
                    case measure => simp [intOf] <;> omega
              · obtain rfl : k = 64 := by omega
                have HZ : Hd (q = true ↔ lo = 0#64) := ⟨HQ.out.trans (all_zero lo)⟩
                clear HQ
                have HV := Hd.mk HI.out.low
                go_upto_region 21 with fail
                go_cut [6] (fun v6 wx => Bs wx v6 (-lo) ∧ Below wr.heap.size wr wx)
                case first =>
                  go_region_with (first
                    | (go_at_call 41; refine (not_any _ lo _ ?_).mono ?_; (first | exact HV.out | exact HV.out.al _ | exact HV.out.dr | exact HV.out.dr.al _ | exact (HV.out.al _).dr); rintro e w2 ⟨v2, rfl, hb2, hB2⟩; have HB2 := Hd.mk hb2; have HX2 := Hd.mk hB2; clear hb2 hB2)
                    | (go_at_call 39; refine (sum1 _ _ (~~~lo) 0#64 _ ?_ ?_).mono ?_; (first | exact HB2.out | exact HB2.out.al _ | exact HB2.out.dr | exact HB2.out.dr.al _ | exact (HB2.out.al _).dr); (first | exact bs_zero (Mk.made _) | exact (bs_zero (Mk.made _)).dr | exact (bs_zero (Mk.made _)).below HX2.out | exact ((bs_zero (Mk.made _)).dr).below HX2.out); rintro e w3 ⟨v3, rfl, hb3, hB3⟩; rw [not_neg] at hb3; have HB3 := Hd.mk hb3; have HX3 := Hd.mk hB3; clear hb3 hB3))
                  all_goals
                    go_wp2_with fail
                    go_meet
                    have b2 : Below wr.heap.size wr w2 := by first | exact HX2.out | exact ch1 HX2.out | exact ch2 HX2.out
                    have b3 : Below w2.heap.size w2 w3 := by first | exact HX3.out | exact ch3 HX3.out
                    exact ⟨HB3.out, ch4 b2 b3⟩
                case rest =>
                  obtain ⟨hv6, hBx⟩ := hcut
                  have HV6 := Hd.mk hv6
                  have HW := Hd.mk (ch4 HI.out.bel hBx)
                  have HV := Hd.mk (HI.out.high.below hBx)
                  clear hv6 hBx
                  cases q
                  · have HL : Hd (~~~hi = wideHigh a b) := ⟨HE.out.2.2 fun e => absurd (HZ.out.2 e) (by decide)⟩
                    go_wp2_with fail
                    go_region_with (first
                      | (go_at_call 41; refine (not_any _ hi _ ?_).mono ?_; (first | exact HV.out | exact HV.out.al _ | exact HV.out.dr | exact HV.out.dr.al _ | exact (HV.out.al _).dr); rintro e w2 ⟨v2, rfl, hb2, hB2⟩; have HB2 := Hd.mk hb2; have HX2 := Hd.mk hB2; clear hb2 hB2)
                      | (go_at_call 39; refine (sum0 _ _ (~~~hi) 0#64 _ ?_ ?_).mono ?_; (first | exact HB2.out | exact HB2.out.al _ | exact HB2.out.dr | exact HB2.out.dr.al _ | exact (HB2.out.al _).dr); (first | exact bs_zero (Mk.made _) | exact (bs_zero (Mk.made _)).dr | exact (bs_zero (Mk.made _)).below HX2.out | exact ((bs_zero (Mk.made _)).dr).below HX2.out); rintro e w3 ⟨v3, rfl, hb3, hB3⟩; rw [not_zero, HL.out] at hb3; have HB3 := Hd.mk hb3; have HX3 := Hd.mk hB3; clear hb3 hB3))
                    all_goals
                      go_wp2_with fail
                      go_meet
                      have b2 : Below wc.heap.size wc w2 := by first | exact HX2.out | exact ch1 HX2.out | exact ch2 HX2.out
                      have b3 : Below w2.heap.size w2 w3 := by first | exact HX3.out | exact ch3 HX3.out
                      exact ⟨by rw [← HE.out.1]; exact (HV6.out.below b2).below b3, HB3.out, ch4 HW.out (ch4 b2 b3)⟩
                  · have HL : Hd (-hi = wideHigh a b) := ⟨HE.out.2.1 (HZ.out.1 rfl)⟩
                    go_wp2_with fail
                    go_region_with (first
                      | (go_at_call 41; refine (not_any _ hi _ ?_).mono ?_; (first | exact HV.out | exact HV.out.al _ | exact HV.out.dr | exact HV.out.dr.al _ | exact (HV.out.al _).dr); rintro e w2 ⟨v2, rfl, hb2, hB2⟩; have HB2 := Hd.mk hb2; have HX2 := Hd.mk hB2; clear hb2 hB2)
                      | (go_at_call 39; refine (sum1 _ _ (~~~hi) 0#64 _ ?_ ?_).mono ?_; (first | exact HB2.out | exact HB2.out.al _ | exact HB2.out.dr | exact HB2.out.dr.al _ | exact (HB2.out.al _).dr); (first | exact bs_zero (Mk.made _) | exact (bs_zero (Mk.made _)).dr | exact (bs_zero (Mk.made _)).below HX2.out | exact ((bs_zero (Mk.made _)).dr).below HX2.out); rintro e w3 ⟨v3, rfl, hb3, hB3⟩; rw [not_neg, HL.out] at hb3; have HB3 := Hd.mk hb3; have HX3 := Hd.mk hB3; clear hb3 hB3))
                    all_goals
                      go_wp2_with fail
                      go_meet
                      have b2 : Below wc.heap.size wc w2 := by first | exact HX2.out | exact ch1 HX2.out | exact ch2 HX2.out
                      have b3 : Below w2.heap.size w2 w3 := by first | exact HX3.out | exact ch3 HX3.out
                      exact ⟨by rw [← HE.out.1]; exact (HV6.out.below b2).below b3, HB3.out, ch4 HW.out (ch4 b2 b3)⟩
        case rest =>
          obtain ⟨hv6, hv7, hBx⟩ := hcut
          have HV7 := Hd.mk hv7
          have HW := Hd.mk (ch4 HB4.out hBx)
          obtain ⟨b3, off3, c3, rfl, _, _, _, hcell3⟩ := hv6
          have HC3 := Hd.mk hcell3
          clear hcell3 hv7 hBx HSG HI
          go_wp2_with fail
          go_loop [17, 18] (fun z i => ∃ (k : Nat) (y : BitVec 64), k ≤ 64 ∧ i = .int .i64 k ∧ z = u y ∧ Hd (y.toNat = (wideLow a b).toNat % 2 ^ k)) (fun _ i => 64 - (intOf i).toNat)
          case atStart => exact ⟨0, 0#64, by omega, rfl, rfl, ⟨by simp [Nat.mod_one]⟩⟩
          case round =>
            obtain ⟨k, y, hk, rfl, rfl, HY⟩ := hrel
            by_cases hlt2 : k < 64
            · have hck := HC3.out k hlt2
              have hst := add_bit (wideLow a b) y k hlt2 HY.out
              rcases bi_01 (wideLow a b) k with hb | hb
              · rw [hb] at hck
                have HS := Hd.mk (hst.2 hb)
                clear hst hb
                go_wp2_with fail
                go_round
                case rel => exact ⟨k + 1, y, by omega, by go_num, rfl, HS⟩
                case measure => simp [intOf] <;> omega
              · rw [hb] at hck
                have HS : Hd ((y + BitVec.ofInt 64 (2 ^ k)).toNat = (wideLow a b).toNat % 2 ^ (k + 1)) := ⟨by rw [pow_u k hlt2]; exact hst.1 hb⟩
                clear hst hb
                go_wp2_with fail
                go_round
                case rel => exact ⟨k + 1, _, by omega, by go_num, rfl, HS⟩
                case measure => simp [intOf] <;> omega
            · obtain rfl : k = 64 := by omega
              have HE : Hd (y = wideLow a b) := ⟨BitVec.eq_of_toNat_eq (by rw [HY.out]; exact Nat.mod_eq_of_lt (wideLow a b).isLt)⟩
              clear HY
              go_wp2_with fail
              refine (word_any _ (wideHigh a b) _ HV7.out).mono ?_
              rintro e w9 ⟨rfl, rfl⟩
              go_wp2_with fail
              go_ret2
              exact ⟨by rw [HE.out]; rfl, HW.out⟩
end Go.Proofs.Ytbmommomhepfpaa
