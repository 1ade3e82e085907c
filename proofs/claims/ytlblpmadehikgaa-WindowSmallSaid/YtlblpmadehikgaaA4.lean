/- What is wrong with times, an ahead and a horizon. -/
import Derived.Test.YtlblpmadehikgaaA3
import Derived.WalkMore
namespace Go.Proofs.Ytlblpmadehikgaa
open Go.RowKit
set_option linter.unusedVariables false

def wrE (l : List Int) (ah h : Int) : Int := if 4096 < l.length then 5 else if (aheadB ah && horB h && l.all timeB) = true then 0 else 2
theorem all_part {l : List Int} {k : Nat} (h : k < l.length) (h1 : timeB l[k] = false) : l.all timeB = false := by
  rw [← Bool.not_eq_true, List.all_eq_true]
  intro hh
  have := hh _ (List.getElem_mem h)
  rw [h1] at this; cases this
theorem take_all {l : List Int} {k : Nat} (h : k < l.length) (h0 : (l.take k).all timeB = true) (h1 : timeB l[k] = true) : (l.take (k + 1)).all timeB = true := by
  rw [List.take_succ_eq_append_getElem h, List.all_append, h0]
  simp [h1]

set_option maxRecDepth 100000 in
set_option maxHeartbeats 8000000 in
theorem wrong_any (v : Value) (l : List Int) (ah h : Int) (w : World) (hs : SrcI w v l) : Calls Try.prog 31 #[v, .int .i64 ah, .int .i64 h] w fun e w' => e = .returned (.int .i64 (wrE l ah h)) ∧ Below w.heap.size w w' := by
  have hsm := hs.small
  obtain ⟨ee, hee⟩ : ∃ x, wrE l ah h = x := ⟨_, rfl⟩
  rw [hee]
  rw [wrE] at hee
  have HS := Hd.mk hs
  obtain ⟨a, c, rfl⟩ := hs.shape
  clear hs
  by_cases h1 : 4096 < l.length
  · rw [if_pos h1] at hee
    subst hee
    have i1 : (4096 : Int) < (l.length : Int) := by omega
    go_enter Try.func31, Try.ntmps31
    go_wp2_with fail
    go_step3
    go_wp2_with fail
    rw [Exit.noGoto_ret]
    go_ret
    exact ⟨rfl, Below.refl _ _⟩
  rw [if_neg h1] at hee
  have i1 : (l.length : Int) ≤ 4096 := by omega
  clear h1
  rcases ha : aheadB ah with _ | _
  · have hq : (false && horB h) = false := rfl
    have HA := Hd.mk ha
    have HQ : Hd ((if (false && l.all timeB) = true then (0 : Int) else 2) = ee) := ⟨by rw [← hee, ha, hq]⟩
    clear hee ha hq
    go_enter Try.func31, Try.ntmps31
    go_wp2_with fail
    go_step3
    go_wp2_with fail
    refine (aheads_any _ _).mono ?_
    rintro e w1 ⟨rfl, rfl⟩
    rw [HA.out]
    go_wp2_with fail
    go_step3
    go_wp2_with fail
    go_loopw [7, 25] (fun q i W => ∃ k : Nat, k ≤ l.length ∧ q = .bool false ∧ i = .int .i64 k ∧ Hd ((l.take k).all timeB = true) ∧ Below w.heap.size w W) (fun _ i _ => l.length - (intOf i).toNat)
    case atStart => exact ⟨0, by omega, rfl, rfl, ⟨by simp⟩, Below.refl _ _⟩
    case round =>
      obtain ⟨k, hk, rfl, rfl, HT, hB⟩ := hrel
      by_cases hlt : k < l.length
      · obtain ⟨b, off, rfl, hb, hx⟩ := (HS.out.below hB).at k hlt
        obtain ⟨x, hX⟩ : ∃ x, l[k] = x := ⟨_, rfl⟩
        rw [hX] at hx
        have HX := Hd.mk hX
        have k0 : (0 : Int) ≤ (k : Int) := by omega
        have k1 : (k : Int) < (l.length : Int) := by omega
        have HK := Hd.mk hlt
        clear hX hb
        rcases ht : timeB x with _ | _
        · have HTX := Hd.mk ht
          clear ht
          go_wp2_with fail
          refine (time_any _ _).mono ?_
          rintro e w2 ⟨rfl, rfl⟩
          rw [HTX.out]
          obtain rfl : ee = 2 := by rw [← HQ.out, all_part HK.out (by rw [HX.out]; exact HTX.out), Bool.and_false]; rfl
          go_wp2_with fail
          rw [Exit.noGoto_ret]
          go_ret
          exact ⟨rfl, hB⟩
        · have HTX := Hd.mk ht
          clear ht
          go_wp2_with fail
          refine (time_any _ _).mono ?_
          rintro e w2 ⟨rfl, rfl⟩
          rw [HTX.out]
          go_wp2_with fail
          go_roundw
          case rel => exact ⟨k + 1, HK.out, rfl, by go_num, ⟨take_all HK.out HT.out (by rw [HX.out]; exact HTX.out)⟩, hB⟩
          case measure => have := HK.out; simp [intOf] <;> omega
      · obtain rfl : k = l.length := by omega
        obtain rfl : ee = 2 := by have h2 := HT.out; rw [List.take_length] at h2; rw [← HQ.out, h2]; rfl
        go_wp2_with fail
        rw [Exit.noGoto_ret]
        go_ret
        exact ⟨rfl, hB⟩
  by_cases h2 : 0 ≤ h
  · by_cases h3 : h ≤ 281474976710657
    · have hq : (true && horB h) = true := by rw [horB, decide_eq_true h2, decide_eq_true h3]; rfl
      have HA := Hd.mk ha
      have HQ : Hd ((if (true && l.all timeB) = true then (0 : Int) else 2) = ee) := ⟨by rw [← hee, ha, hq]⟩
      clear hee ha hq
      go_enter Try.func31, Try.ntmps31
      go_wp2_with fail
      go_step3
      go_wp2_with fail
      refine (aheads_any _ _).mono ?_
      rintro e w1 ⟨rfl, rfl⟩
      rw [HA.out]
      go_wp2_with fail
      go_step3
      go_wp2_with fail
      go_loopw [7, 25] (fun q i W => ∃ k : Nat, k ≤ l.length ∧ q = .bool true ∧ i = .int .i64 k ∧ Hd ((l.take k).all timeB = true) ∧ Below w.heap.size w W) (fun _ i _ => l.length - (intOf i).toNat)
      case atStart => exact ⟨0, by omega, rfl, rfl, ⟨by simp⟩, Below.refl _ _⟩
      case round =>
        obtain ⟨k, hk, rfl, rfl, HT, hB⟩ := hrel
        by_cases hlt : k < l.length
        · obtain ⟨b, off, rfl, hb, hx⟩ := (HS.out.below hB).at k hlt
          obtain ⟨x, hX⟩ : ∃ x, l[k] = x := ⟨_, rfl⟩
          rw [hX] at hx
          have HX := Hd.mk hX
          have k0 : (0 : Int) ≤ (k : Int) := by omega
          have k1 : (k : Int) < (l.length : Int) := by omega
          have HK := Hd.mk hlt
          clear hX hb
          rcases ht : timeB x with _ | _
          · have HTX := Hd.mk ht
            clear ht
            go_wp2_with fail
            refine (time_any _ _).mono ?_
            rintro e w2 ⟨rfl, rfl⟩
            rw [HTX.out]
            obtain rfl : ee = 2 := by rw [← HQ.out, all_part HK.out (by rw [HX.out]; exact HTX.out), Bool.and_false]; rfl
            go_wp2_with fail
            rw [Exit.noGoto_ret]
            go_ret
            exact ⟨rfl, hB⟩
          · have HTX := Hd.mk ht
            clear ht
            go_wp2_with fail
            refine (time_any _ _).mono ?_
            rintro e w2 ⟨rfl, rfl⟩
            rw [HTX.out]
            go_wp2_with fail
            go_roundw
            case rel => exact ⟨k + 1, HK.out, rfl, by go_num, ⟨take_all HK.out HT.out (by rw [HX.out]; exact HTX.out)⟩, hB⟩
            case measure => have := HK.out; simp [intOf] <;> omega
        · obtain rfl : k = l.length := by omega
          obtain rfl : ee = 0 := by have h2 := HT.out; rw [List.take_length] at h2; rw [← HQ.out, h2]; rfl
          go_wp2_with fail
          rw [Exit.noGoto_ret]
          go_ret
          exact ⟨rfl, hB⟩
    · have hq : (true && horB h) = false := by rw [horB, decide_eq_false h3, Bool.and_false]; rfl
      have h4 : decide (h ≤ 281474976710657) = false := decide_eq_false h3
      have HA := Hd.mk ha
      have HQ : Hd ((if (false && l.all timeB) = true then (0 : Int) else 2) = ee) := ⟨by rw [← hee, ha, hq]⟩
      clear hee ha hq
      go_enter Try.func31, Try.ntmps31
      go_wp2_with fail
      go_step3
      go_wp2_with fail
      refine (aheads_any _ _).mono ?_
      rintro e w1 ⟨rfl, rfl⟩
      rw [HA.out]
      go_wp2_with fail
      go_step3
      go_wp2_with fail
      go_loopw [7, 25] (fun q i W => ∃ k : Nat, k ≤ l.length ∧ q = .bool false ∧ i = .int .i64 k ∧ Hd ((l.take k).all timeB = true) ∧ Below w.heap.size w W) (fun _ i _ => l.length - (intOf i).toNat)
      case atStart => exact ⟨0, by omega, rfl, rfl, ⟨by simp⟩, Below.refl _ _⟩
      case round =>
        obtain ⟨k, hk, rfl, rfl, HT, hB⟩ := hrel
        by_cases hlt : k < l.length
        · obtain ⟨b, off, rfl, hb, hx⟩ := (HS.out.below hB).at k hlt
          obtain ⟨x, hX⟩ : ∃ x, l[k] = x := ⟨_, rfl⟩
          rw [hX] at hx
          have HX := Hd.mk hX
          have k0 : (0 : Int) ≤ (k : Int) := by omega
          have k1 : (k : Int) < (l.length : Int) := by omega
          have HK := Hd.mk hlt
          clear hX hb
          rcases ht : timeB x with _ | _
          · have HTX := Hd.mk ht
            clear ht
            go_wp2_with fail
            refine (time_any _ _).mono ?_
            rintro e w2 ⟨rfl, rfl⟩
            rw [HTX.out]
            obtain rfl : ee = 2 := by rw [← HQ.out, all_part HK.out (by rw [HX.out]; exact HTX.out), Bool.and_false]; rfl
            go_wp2_with fail
            rw [Exit.noGoto_ret]
            go_ret
            exact ⟨rfl, hB⟩
          · have HTX := Hd.mk ht
            clear ht
            go_wp2_with fail
            refine (time_any _ _).mono ?_
            rintro e w2 ⟨rfl, rfl⟩
            rw [HTX.out]
            go_wp2_with fail
            go_roundw
            case rel => exact ⟨k + 1, HK.out, rfl, by go_num, ⟨take_all HK.out HT.out (by rw [HX.out]; exact HTX.out)⟩, hB⟩
            case measure => have := HK.out; simp [intOf] <;> omega
        · obtain rfl : k = l.length := by omega
          obtain rfl : ee = 2 := by have h2 := HT.out; rw [List.take_length] at h2; rw [← HQ.out, h2]; rfl
          go_wp2_with fail
          rw [Exit.noGoto_ret]
          go_ret
          exact ⟨rfl, hB⟩
  have hq : (true && horB h) = false := by rw [horB, decide_eq_false h2, Bool.false_and]; rfl
  have h4 : h < 0 := by omega
  have HA := Hd.mk ha
  have HQ : Hd ((if (false && l.all timeB) = true then (0 : Int) else 2) = ee) := ⟨by rw [← hee, ha, hq]⟩
  clear hee ha hq
  go_enter Try.func31, Try.ntmps31
  go_wp2_with fail
  go_step3
  go_wp2_with fail
  refine (aheads_any _ _).mono ?_
  rintro e w1 ⟨rfl, rfl⟩
  rw [HA.out]
  go_wp2_with fail
  go_step3
  go_wp2_with fail
  go_loopw [7, 25] (fun q i W => ∃ k : Nat, k ≤ l.length ∧ q = .bool false ∧ i = .int .i64 k ∧ Hd ((l.take k).all timeB = true) ∧ Below w.heap.size w W) (fun _ i _ => l.length - (intOf i).toNat)
  case atStart => exact ⟨0, by omega, rfl, rfl, ⟨by simp⟩, Below.refl _ _⟩
  case round =>
    obtain ⟨k, hk, rfl, rfl, HT, hB⟩ := hrel
    by_cases hlt : k < l.length
    · obtain ⟨b, off, rfl, hb, hx⟩ := (HS.out.below hB).at k hlt
      obtain ⟨x, hX⟩ : ∃ x, l[k] = x := ⟨_, rfl⟩
      rw [hX] at hx
      have HX := Hd.mk hX
      have k0 : (0 : Int) ≤ (k : Int) := by omega
      have k1 : (k : Int) < (l.length : Int) := by omega
      have HK := Hd.mk hlt
      clear hX hb
      rcases ht : timeB x with _ | _
      · have HTX := Hd.mk ht
        clear ht
        go_wp2_with fail
        refine (time_any _ _).mono ?_
        rintro e w2 ⟨rfl, rfl⟩
        rw [HTX.out]
        obtain rfl : ee = 2 := by rw [← HQ.out, all_part HK.out (by rw [HX.out]; exact HTX.out), Bool.and_false]; rfl
        go_wp2_with fail
        rw [Exit.noGoto_ret]
        go_ret
        exact ⟨rfl, hB⟩
      · have HTX := Hd.mk ht
        clear ht
        go_wp2_with fail
        refine (time_any _ _).mono ?_
        rintro e w2 ⟨rfl, rfl⟩
        rw [HTX.out]
        go_wp2_with fail
        go_roundw
        case rel => exact ⟨k + 1, HK.out, rfl, by go_num, ⟨take_all HK.out HT.out (by rw [HX.out]; exact HTX.out)⟩, hB⟩
        case measure => have := HK.out; simp [intOf] <;> omega
    · obtain rfl : k = l.length := by omega
      obtain rfl : ee = 2 := by have h2 := HT.out; rw [List.take_length] at h2; rw [← HQ.out, h2]; rfl
      go_wp2_with fail
      rw [Exit.noGoto_ret]
      go_ret
      exact ⟨rfl, hB⟩
end Go.Proofs.Ytlblpmadehikgaa
