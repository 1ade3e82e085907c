/- The reference's index, same, Proper, Right, factorial. -/
import Derived.Test.YtmahjgffadbdcaaE4
namespace Go.Proofs.Ytmahjgffadbdcaa
open Go.RowKit
set_option linter.unusedVariables false

set_option maxRecDepth 100000 in
set_option maxHeartbeats 400000 in
theorem rindex_any (v : Value) (l : List Int) (x : Int) (w : World) (h : SrcI w v l) : Calls Try.prog 59 #[v, .int .i64 x] w fun e w' => e = .returned (.int .i64 (idxV l x)) ∧ w = w' := by
  have b1 := h.small
  obtain ⟨a, c, rfl⟩ := h.shape
  have H := Hd.mk h
  clear h
  obtain ⟨z, hz⟩ : ∃ z, idxV l x = z := ⟨_, rfl⟩
  rw [hz]
  have HZ := Hd.mk hz
  clear hz
  go_enter Try.func59, Try.ntmps59
  go_wp2_with fail
  go_loop [5] (fun i => ∃ k : Nat, k ≤ l.length ∧ i = .int .i64 k ∧ Hd (x ∉ l.take k)) (fun i => l.length - (intOf i).toNat)
  case atStart => exact ⟨0, by omega, rfl, ⟨by simp⟩⟩
  case round =>
    obtain ⟨k, hk, rfl, HK⟩ := hrel
    by_cases hlt : k < l.length
    · obtain ⟨b, off, rfl, hb, hx⟩ := H.out.at k hlt
      have HT := Hd.mk (take_succ_mem hlt x)
      have HI : Hd (x = l[k] → idxV l x = k) := ⟨fun e => by
        have hm : x ∈ l := e ▸ List.getElem_mem hlt
        rw [idxV, if_pos hm]
        have : l.idxOf x = k := by
          have h0 := List.take_append_drop k l
          rw [← h0, List.idxOf_append, if_neg HK.out, List.drop_eq_getElem_cons hlt, ← e, List.idxOf_cons_self, List.length_take]
          omega
        rw [this]⟩
      obtain ⟨p, hp⟩ : ∃ p, l[k] = p := ⟨_, rfl⟩
      rw [hp] at hx HT HI
      clear hp
      have i0 : (0 : Int) ≤ (k : Int) := by omega
      have i1 : (k : Int) < (l.length : Int) := by omega
      by_cases he : x = p
      · have HN : Hd (z = k) := ⟨HZ.out.symm.trans (HI.out he)⟩
        subst he
        clear HI HT HK HZ
        go_wp2_with fail
        go_ret
        exact ⟨by rw [HN.out]; rfl, rfl⟩
      · have hd : decide (p = x) = false := decide_eq_false (fun h => he h.symm)
        have HN : Hd (x ∉ l.take (k + 1)) := ⟨by rw [HT.out]; rintro (h | h); exact he h; exact HK.out h⟩
        clear HI HT HK
        go_wp2_with fail
        go_round
        case rel => exact ⟨k + 1, by omega, by go_num, HN⟩
        case measure => simp [intOf]; omega
    · obtain rfl : k = l.length := by omega
      have HN : Hd (z = -1) := ⟨by rw [← HZ.out, idxV, if_neg (by have := HK.out; rwa [List.take_length] at this)]⟩
      go_wp2_with fail
      go_ret
      exact ⟨by rw [HN.out]; rfl, rfl⟩

set_option maxRecDepth 100000 in
set_option maxHeartbeats 400000 in
theorem rsame_any (v1 v2 : Value) (l m : List Int) (w : World) (h1 : SrcI w v1 l) (h2 : SrcI w v2 m) : Calls Try.prog 61 #[v1, v2] w fun e w' => e = .returned (.bool (decide (l = m))) ∧ Below w.heap.size w w' := by
  have b1 := h1.small
  have b2 := h2.small
  obtain ⟨a1, c1, rfl⟩ := h1.shape
  obtain ⟨a2, c2, rfl⟩ := h2.shape
  have H1 := Hd.mk h1
  have H2 := Hd.mk h2
  clear h1 h2
  by_cases hl : l.length = m.length
  · have HL := Hd.mk hl
    rw [← hl]
    rw [← hl] at H2 b2
    clear hl b2
    go_enter Try.func61, Try.ntmps61
    go_wp2_with fail
    go_loopw [5] (fun i W => ∃ k : Nat, k ≤ l.length ∧ i = .int .i64 k ∧ Hd (l.take k = m.take k) ∧ Below w.heap.size w W) (fun i _ => l.length - (intOf i).toNat)
    case atStart => exact ⟨0, by omega, rfl, ⟨by simp⟩, Below.refl _ _⟩
    case round =>
      obtain ⟨k, hk, rfl, HK, hB⟩ := hrel
      by_cases hlt : k < l.length
      · have hlt2 : k < m.length := by have := HL.out; omega
        obtain ⟨x, offx, rfl, hx, hx1⟩ := (H1.out.below hB).at k hlt
        obtain ⟨y, offy, rfl, hy, hy1⟩ := (H2.out.below hB).at k hlt2
        have HN0 : Hd (l[k] = m[k] → l.take (k + 1) = m.take (k + 1)) := ⟨fun he => by rw [List.take_succ_eq_append_getElem hlt, List.take_succ_eq_append_getElem hlt2, HK.out, he]⟩
        have HN1 : Hd (l[k] ≠ m[k] → decide (l = m) = false) := ⟨fun he => decide_eq_false fun h => he (by subst h; rfl)⟩
        obtain ⟨p, hp⟩ : ∃ p, l[k] = p := ⟨_, rfl⟩
        obtain ⟨q, hq⟩ : ∃ p, m[k] = p := ⟨_, rfl⟩
        rw [hp, hq] at HN0 HN1
        rw [hp] at hx1
        rw [hq] at hy1
        clear hp hq
        have i0 : (0 : Int) ≤ (k : Int) := by omega
        have i1 : (k : Int) < (l.length : Int) := by omega
        by_cases he : p = q
        · have HN := Hd.mk (HN0.out he)
          subst he
          clear HK HN0 HN1
          go_wp2_with fail
          go_quiet (fail)
          go_wp2_with fail
          go_roundw
          case rel => exact ⟨k + 1, by omega, by go_num, HN, below_drewN hB _⟩
          case measure => simp [intOf]; omega
        · have HN := Hd.mk (HN1.out he)
          have hd : decide (p = q) = false := decide_eq_false he
          clear HK HN0 HN1
          go_wp2_with fail
          go_quiet (fail)
          go_wp2_with fail
          go_ret
          exact ⟨by rw [HN.out]; rfl, below_drewN hB _⟩
      · obtain rfl : k = l.length := by omega
        have HN : Hd (decide (l = m) = true) := ⟨decide_eq_true (by have := HK.out; rw [List.take_length, HL.out, List.take_length] at this; exact this)⟩
        clear HK
        go_wp2_with fail
        go_ret
        exact ⟨by rw [HN.out]; rfl, hB⟩
  · have hne : ¬ (l.length : Int) = (m.length : Int) := by omega
    have HN : Hd (decide (l = m) = false) := ⟨decide_eq_false fun h => hl (by rw [h])⟩
    have hd : decide ((l.length : Int) = (m.length : Int)) = false := decide_eq_false hne
    clear hl
    go_enter Try.func61, Try.ntmps61
    go_wp2_with fail
    go_ret
    exact ⟨by rw [HN.out]; rfl, Below.refl _ _⟩


set_option maxRecDepth 100000 in
set_option maxHeartbeats 400000 in
theorem rfac_any (n : Nat) (w : World) (hn : n ≤ 20) : Calls Try.prog 62 #[.int .i64 (n : Int)] w fun e w' => e = .returned (.int .i64 ((fac n : Nat) : Int)) ∧ w = w' := by
  have f20 : fac 20 = 2432902008176640000 := by decide
  go_enter Try.func62, Try.ntmps62
  go_wp2_with fail
  go_loop [3, 4] (fun o i => ∃ k : Nat, 1 ≤ k ∧ (k ≤ n ∨ k = 1) ∧ i = .int .i64 ((k : Int) + 1) ∧ o = .int .i64 ((fac k : Nat) : Int)) (fun _ i => n + 2 - (intOf i).toNat)
  case atStart => exact ⟨1, by omega, .inr rfl, rfl, rfl⟩
  case round =>
    obtain ⟨k, hk0, hk, rfl, rfl⟩ := hrel
    by_cases hlt : k + 1 ≤ n
    · have hmul : ((fac k : Nat) : Int) * ((k : Int) + 1) = ((fac (k + 1) : Nat) : Int) := by
        rw [show fac (k + 1) = (k + 1) * fac k from rfl, Nat.mul_comm]; rfl
      have hb : fac (k + 1) ≤ 2432902008176640000 := by rw [← f20]; exact fac_mono (by omega)
      have hb2 : fac k ≤ 2432902008176640000 := by rw [← f20]; exact fac_mono (by omega)
      obtain ⟨f2, hf2⟩ : ∃ f2, fac (k + 1) = f2 := ⟨_, rfl⟩
      obtain ⟨f1, hf1⟩ : ∃ f1, fac k = f1 := ⟨_, rfl⟩
      rw [hf2] at hmul hb
      rw [hf1] at hmul hb2 ⊢
      have HF2 := Hd.mk hf2
      have k1 : (k : Int) + 1 ≤ (n : Int) := by omega
      have hn2 : (n : Int) ≤ 20 := by omega
      clear hf2 hf1 f20 hk
      go_wp2_with fail
      go_round
      case rel => exact ⟨k + 1, by omega, .inl (by omega), by go_num, by rw [HF2.out]⟩
      case measure => simp [intOf]; omega
    · have k1 : (n : Int) < (k : Int) + 1 := by omega
      have HE : Hd (fac n = fac k) := ⟨by
        rcases hk with h | h
        · have : n = k := by omega
          rw [this]
        · subst h
          have : n = 0 ∨ n = 1 := by omega
          rcases this with rfl | rfl <;> rfl⟩
      clear f20 hk
      go_wp2_with fail
      go_ret
      exact ⟨by rw [HE.out]; rfl, rfl⟩

theorem nodup_take_succ {l : List Int} {k : Nat} (h : k < l.length) (hn : (l.take k).Nodup) (h3 : l[k] ∉ l.take k) : (l.take (k + 1)).Nodup := by
  rw [List.take_succ_eq_append_getElem h, List.nodup_append]
  refine ⟨hn, by simp, ?_⟩
  rintro a ha b hb rfl
  rw [List.mem_singleton] at hb
  exact h3 (hb ▸ ha)
set_option maxRecDepth 100000 in
set_option maxHeartbeats 1000000 in
theorem rproper_any (v : Value) (l : List Int) (w : World) (h : SrcI w v l) : Calls Try.prog 36 #[v] w fun e w' => e = .returned (.bool (okO l)) ∧ Below w.heap.size w w' := by
  have hsm := h.small
  have H := Hd.mk h
  obtain ⟨a, c, rfl⟩ := h.shape
  clear h
  go_enter Try.func36, Try.ntmps36
  go_wp2_with fail
  go_loopw [3] (fun i W => ∃ k : Nat, k ≤ l.length ∧ i = .int .i64 k ∧ Hd (OkO (l.take k)) ∧ Below w.heap.size w W) (fun i _ => l.length - (intOf i).toNat)
  case atStart => exact ⟨0, by omega, rfl, ⟨by simpa using OkO.nil⟩, Below.refl _ _⟩
  case round =>
    obtain ⟨k, hk, rfl, HO, hB⟩ := hrel
    by_cases hlt : k < l.length
    · obtain ⟨b, off, rfl, hb, hx⟩ := (H.out.below hB).at k hlt
      have HBAD := Hd.mk (ok_bad hlt)
      have HTK := Hd.mk (ok_take_succ hlt HO.out)
      obtain ⟨p, hp⟩ : ∃ p, l[k] = p := ⟨_, rfl⟩
      have HP := Hd.mk hp
      rw [hp] at hx HBAD HTK
      have i0 : (0 : Int) ≤ (k : Int) := by omega
      have i1 : (k : Int) < (l.length : Int) := by omega
      clear hp
      by_cases h1 : 1 ≤ p ∧ p ≤ 16
      · obtain ⟨p1, p2⟩ := h1
        go_wp2_with fail
        obtain ⟨w1, hw1⟩ : ∃ w1, w1 = wr := ⟨_, rfl⟩
        subst hw1
        go_loopw [4] (fun i W => ∃ j : Nat, j ≤ k ∧ i = .int .i64 j ∧ Hd (p ∉ l.take j) ∧ Below w.heap.size w W) (fun i _ => k - (intOf i).toNat)
        case atStart => exact ⟨0, by omega, rfl, ⟨by simp⟩, hB⟩
        case round =>
          obtain ⟨j, hj, rfl, HN, hB2⟩ := hrel
          by_cases hjk : j < k
          · have hjl : j < l.length := by omega
            obtain ⟨b', off', hbb, hb', hy⟩ := (H.out.below hB2).at j hjl
            obtain ⟨rfl, rfl⟩ : b = b' ∧ off = off' := by simpa using hbb
            obtain ⟨b'', off'', hbb2, hb'', hx2⟩ := (H.out.below hB2).at k hlt
            obtain ⟨rfl, rfl⟩ : b = b'' ∧ off = off'' := by simpa using hbb2
            rw [HP.out] at hx2
            have HM := Hd.mk (take_succ_mem hjl p)
            have HIN : Hd (l[j] = p → p ∈ l.take k) := ⟨fun e => by rw [← e]; exact List.mem_iff_getElem.2 ⟨j, by rw [List.length_take]; omega, by simp⟩⟩
            generalize l[j] = q at hy HM HIN
            have j0 : (0 : Int) ≤ (j : Int) := by omega
            have j1 : (j : Int) < (k : Int) := by omega
            have j2 : (j : Int) < (l.length : Int) := by omega
            clear hbb hbb2 hx
            by_cases hq : q = p
            · have HB2 := Hd.mk (HBAD.out (.inr (HIN.out hq)))
              subst hq
              clear HM HIN HN HBAD HTK
              go_wp2_with fail
              go_quiet (fail)
              go_wp2_with fail
              go_ret
              exact ⟨by rw [HB2.out]; rfl, below_drewN hB2 _⟩
            · have hd : decide (q = p) = false := decide_eq_false hq
              have HN2 : Hd (p ∉ l.take (j + 1)) := ⟨by rw [HM.out]; rintro (h | h); exact hq h.symm; exact HN.out h⟩
              clear HM HIN HN
              go_wp2_with fail
              go_quiet (fail)
              go_wp2_with fail
              go_roundw
              case rel => exact ⟨j + 1, by omega, by go_num, HN2, below_drewN hB2 _⟩
              case measure => simp [intOf]; omega
          · obtain rfl : j = k := by omega
            have HT2 := Hd.mk (HTK.out p1 p2 HN.out)
            clear HN HBAD HTK
            go_wp2_with fail
            go_roundw
            case rel => exact ⟨j + 1, by omega, by go_num, HT2, hB2⟩
            case measure => simp [intOf]; omega
      · have HB2 := Hd.mk (HBAD.out (.inl h1))
        clear HBAD HTK
        by_cases p1 : p < 1
        · have hd : decide (p < 1) = true := decide_eq_true p1
          go_wp2_with fail
          go_ret
          exact ⟨by rw [HB2.out]; rfl, hB⟩
        · have p2 : 16 < p := by omega
          have hd : decide (p < 1) = false := decide_eq_false p1
          go_wp2_with fail
          go_ret
          exact ⟨by rw [HB2.out]; rfl, hB⟩
    · obtain rfl : k = l.length := by omega
      have HN : Hd (okO l = true) := ⟨decide_eq_true (by have := HO.out; rwa [List.take_length] at this)⟩
      go_wp2_with fail
      go_ret
      exact ⟨by rw [HN.out]; rfl, hB⟩

set_option maxRecDepth 100000 in
set_option maxHeartbeats 1000000 in
theorem rright_any (v : Value) (l : List Int) (w : World) (h : SrcI w v l) : Calls Try.prog 18 #[v] w fun e w' => e = .returned (.bool (rightB l)) ∧ Below w.heap.size w w' := by
  have hsm := h.small
  have H := Hd.mk h
  obtain ⟨a, c, rfl⟩ := h.shape
  clear h
  go_enter Try.func18, Try.ntmps18
  go_wp2_with fail
  go_loopw [3] (fun i W => ∃ k : Nat, (k + 1 ≤ l.length ∨ k = 0) ∧ i = .int .i64 ((k : Int) + 1) ∧ Hd (asc (l.take (k + 1))) ∧ Below w.heap.size w W) (fun i _ => l.length + 2 - (intOf i).toNat)
  case atStart =>
    refine ⟨0, .inr rfl, rfl, ⟨?_⟩, Below.refl _ _⟩
    rcases l with _ | ⟨x, t⟩
    · exact List.Pairwise.nil
    · exact List.pairwise_singleton _ _
  case round =>
    obtain ⟨k, hk, rfl, HA, hB⟩ := hrel
    by_cases hlt : k + 1 < l.length
    · obtain ⟨b, off, rfl, hb, hx⟩ := (H.out.below hB).at k (by omega)
      obtain ⟨b', off', hbb, hb', hy⟩ := (H.out.below hB).at (k + 1) hlt
      obtain ⟨rfl, rfl⟩ : b = b' ∧ off = off' := by simpa using hbb
      have HST : Hd (l[k] < l[k + 1] → asc (l.take (k + 1 + 1))) := ⟨fun hh => by
        rw [List.take_succ_eq_append_getElem hlt]
        refine List.pairwise_append.2 ⟨HA.out, List.pairwise_singleton _ _, fun a ha b hb => ?_⟩
        rw [List.mem_singleton] at hb
        subst hb
        rw [List.take_succ_eq_append_getElem (show k < l.length by omega), List.mem_append, List.mem_singleton] at ha
        rcases ha with ha | rfl
        · have h2 := HA.out
          rw [List.take_succ_eq_append_getElem (show k < l.length by omega)] at h2
          have := (List.pairwise_append.1 h2).2.2 a ha l[k] (by simp)
          omega
        · exact hh⟩
      have HNO : Hd (¬ l[k] < l[k + 1] → rightB l = false) := ⟨fun hh => by
        rw [rightB, Bool.and_eq_false_iff]
        exact .inr (decide_eq_false fun h => hh (List.pairwise_iff_getElem.1 h k (k + 1) (by omega) hlt (by omega)))⟩
      generalize l[k] = p at hx HST HNO
      generalize l[k + 1] = q at hy HST HNO
      have i0 : (0 : Int) ≤ (k : Int) := by omega
      have i1 : (k : Int) + 1 < (l.length : Int) := by omega
      have i2 : (k : Int) < (l.length : Int) := by omega
      have hw : IntKind.i64.wrap ((k : Int) + 1 - 1) = (k : Int) := by rw [IntWalk.i64_in _ ⟨by omega, by omega⟩]; omega
      have i3 : ((k : Int) + 1).toNat = k + 1 := by omega
      have i4 : (0 : Int) ≤ (k : Int) + 1 := by omega
      clear hbb hk
      by_cases hpq : p < q
      · have HN := Hd.mk (HST.out hpq)
        have hd : decide (q ≤ p) = false := decide_eq_false (by omega)
        clear HST HNO
        go_wp2_with fail
        go_quiet (fail)
        go_wp2_with fail
        go_roundw
        case rel => exact ⟨k + 1, .inl (by omega), by go_num, HN, below_drewN hB _⟩
        case measure => simp [intOf]; omega
      · have HN := Hd.mk (HNO.out hpq)
        have hd : decide (q ≤ p) = true := decide_eq_true (by omega)
        clear HST HNO
        go_wp2_with fail
        go_quiet (fail)
        go_wp2_with fail
        go_ret
        exact ⟨by rw [HN.out]; rfl, below_drewN hB _⟩
    · have HN : Hd (asc l) := ⟨by have := HA.out; rwa [List.take_of_length_le (by omega)] at this⟩
      have HE : Hd (rightB l = okO l) := ⟨by rw [rightB, decide_eq_true HN.out, Bool.and_true]⟩
      have i1 : ¬ (k : Int) + 1 < (l.length : Int) := by omega
      have i2 : (k : Int) ≤ 9223372036854775806 := by rcases hk with h | h <;> omega
      clear hk
      go_wp2_with fail
      refine (rproper_any _ l _ (H.out.below hB)).mono ?_
      rintro e w2 ⟨rfl, hB2⟩
      have HB2 := Hd.mk (ch4 hB hB2)
      clear hB hB2
      go_wp2_with fail
      go_ret
      exact ⟨by rw [HE.out]; rfl, HB2.out⟩
end Go.Proofs.Ytmahjgffadbdcaa
