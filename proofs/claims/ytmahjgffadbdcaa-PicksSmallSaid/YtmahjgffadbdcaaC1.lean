/- Walks of slices.Equal, Index and Compare of ints. -/
import Derived.Test.YtmahjgffadbdcaaB3
namespace Go.Proofs.Ytmahjgffadbdcaa
open Go.RowKit
set_option linter.unusedVariables false

set_option maxRecDepth 100000 in
set_option maxHeartbeats 400000 in
theorem equal_any (v1 v2 : Value) (l m : List Int) (w : World) (h1 : SrcI w v1 l) (h2 : SrcI w v2 m) : Calls Try.prog 15 #[v1, v2] w fun e w' => e = .returned (.bool (decide (l = m))) ∧ Below w.heap.size w w' := by
  have b1 := h1.small
  have b2 := h2.small
  obtain ⟨a1, c1, rfl⟩ := h1.shape
  obtain ⟨a2, c2, rfl⟩ := h2.shape
  have H1 := Hd.mk h1
  have H2 := Hd.mk h2
  clear h1 h2
  by_cases hl : l.length = m.length
  · have HL := Hd.mk hl
    rw [← hl]
    rw [← hl] at H2 b2
    clear hl b2
    go_enter Try.func15, Try.ntmps15
    go_wp2_with fail
    go_loopw [13] (fun i W => ∃ k : Nat, k ≤ l.length ∧ i = .int .i64 k ∧ Hd (l.take k = m.take k) ∧ Below w.heap.size w W) (fun i _ => l.length - (intOf i).toNat)
    case atStart => exact ⟨0, by omega, rfl, ⟨by simp⟩, Below.refl _ _⟩
    case round =>
      obtain ⟨k, hk, rfl, HK, hB⟩ := hrel
      by_cases hlt : k < l.length
      · have hlt2 : k < m.length := by have := HL.out; omega
        obtain ⟨x, offx, rfl, hx, hx1⟩ := (H1.out.below hB).at k hlt
        obtain ⟨y, offy, rfl, hy, hy1⟩ := (H2.out.below hB).at k hlt2
        have HN0 : Hd (l[k] = m[k] → l.take (k + 1) = m.take (k + 1)) := ⟨fun he => by rw [List.take_succ_eq_append_getElem hlt, List.take_succ_eq_append_getElem hlt2, HK.out, he]⟩
        have HN1 : Hd (l[k] ≠ m[k] → decide (l = m) = false) := ⟨fun he => decide_eq_false fun h => he (by subst h; rfl)⟩
        obtain ⟨p, hp⟩ : ∃ p, l[k] = p := ⟨_, rfl⟩
        obtain ⟨q, hq⟩ : ∃ p, m[k] = p := ⟨_, rfl⟩
        rw [hp, hq] at HN0 HN1
        rw [hp] at hx1
        rw [hq] at hy1
        clear hp hq
        have i0 : (0 : Int) ≤ (k : Int) := by omega
        have i1 : (k : Int) < (l.length : Int) := by omega
        by_cases he : p = q
        · have HN := Hd.mk (HN0.out he)
          subst he
          clear HK HN0 HN1
          go_wp2_with fail
          go_quiet (fail)
          go_wp2_with fail
          go_roundw
          case rel => exact ⟨k + 1, by omega, by go_num, HN, below_drewN hB _⟩
          case measure => simp [intOf]; omega
        · have HN := Hd.mk (HN1.out he)
          have hd : decide (p = q) = false := decide_eq_false he
          clear HK HN0 HN1
          go_wp2_with fail
          go_quiet (fail)
          go_wp2_with fail
          go_ret
          exact ⟨by rw [HN.out]; rfl, below_drewN hB _⟩
      · obtain rfl : k = l.length := by omega
        have HN : Hd (decide (l = m) = true) := ⟨decide_eq_true (by have := HK.out; rw [List.take_length, HL.out, List.take_length] at this; exact this)⟩
        clear HK
        go_wp2_with fail
        go_ret
        exact ⟨by rw [HN.out]; rfl, hB⟩
  · have hne : ¬ (l.length : Int) = (m.length : Int) := by omega
    have HN : Hd (decide (l = m) = false) := ⟨decide_eq_false fun h => hl (by rw [h])⟩
    have hd : decide ((l.length : Int) = (m.length : Int)) = false := decide_eq_false hne
    clear hl
    go_enter Try.func15, Try.ntmps15
    go_wp2_with fail
    go_ret
    exact ⟨by rw [HN.out]; rfl, Below.refl _ _⟩

def idxV (l : List Int) (x : Int) : Int := if x ∈ l then (l.idxOf x : Int) else -1

set_option maxRecDepth 100000 in
set_option maxHeartbeats 400000 in
theorem index_any (v : Value) (l : List Int) (x : Int) (w : World) (h : SrcI w v l) : Calls Try.prog 43 #[v, .int .i64 x] w fun e w' => e = .returned (.int .i64 (idxV l x)) ∧ w = w' := by
  have b1 := h.small
  obtain ⟨a, c, rfl⟩ := h.shape
  have H := Hd.mk h
  clear h
  obtain ⟨z, hz⟩ : ∃ z, idxV l x = z := ⟨_, rfl⟩
  rw [hz]
  have HZ := Hd.mk hz
  clear hz
  go_enter Try.func43, Try.ntmps43
  go_wp2_with fail
  go_loop [8] (fun i => ∃ k : Nat, k ≤ l.length ∧ i = .int .i64 k ∧ Hd (x ∉ l.take k)) (fun i => l.length - (intOf i).toNat)
  case atStart => exact ⟨0, by omega, rfl, ⟨by simp⟩⟩
  case round =>
    obtain ⟨k, hk, rfl, HK⟩ := hrel
    by_cases hlt : k < l.length
    · obtain ⟨b, off, rfl, hb, hx⟩ := H.out.at k hlt
      have HT := Hd.mk (take_succ_mem hlt x)
      have HI : Hd (x = l[k] → idxV l x = k) := ⟨fun e => by
        have hm : x ∈ l := e ▸ List.getElem_mem hlt
        rw [idxV, if_pos hm]
        have : l.idxOf x = k := by
          have h0 := List.take_append_drop k l
          rw [← h0, List.idxOf_append, if_neg HK.out, List.drop_eq_getElem_cons hlt, ← e, List.idxOf_cons_self, List.length_take]
          omega
        rw [this]⟩
      obtain ⟨p, hp⟩ : ∃ p, l[k] = p := ⟨_, rfl⟩
      rw [hp] at hx HT HI
      clear hp
      have i0 : (0 : Int) ≤ (k : Int) := by omega
      have i1 : (k : Int) < (l.length : Int) := by omega
      by_cases he : x = p
      · have HN : Hd (z = k) := ⟨HZ.out.symm.trans (HI.out he)⟩
        subst he
        clear HI HT HK HZ
        go_wp2_with fail
        go_ret
        exact ⟨by rw [HN.out]; rfl, rfl⟩
      · have hd : decide (x = p) = false := decide_eq_false he
        have HN : Hd (x ∉ l.take (k + 1)) := ⟨by rw [HT.out]; rintro (h | h); exact he h; exact HK.out h⟩
        clear HI HT HK
        go_wp2_with fail
        go_round
        case rel => exact ⟨k + 1, by omega, by go_num, HN⟩
        case measure => simp [intOf]; omega
    · obtain rfl : k = l.length := by omega
      have HN : Hd (z = -1) := ⟨by rw [← HZ.out, idxV, if_neg (by have := HK.out; rwa [List.take_length] at this)]⟩
      go_wp2_with fail
      go_ret
      exact ⟨by rw [HN.out]; rfl, rfl⟩

def cmpI (x y : Int) : Int := if x < y then -1 else if y < x then 1 else 0
theorem compare_any (x y : Int) (w : World) : Calls Try.prog 46 #[.int .i64 x, .int .i64 y] w fun e w' => e = .returned (.int .i64 (cmpI x y)) ∧ w = w' := by
  obtain ⟨z, hz⟩ : ∃ z, cmpI x y = z := ⟨_, rfl⟩
  rw [hz]
  have HZ := Hd.mk hz
  clear hz
  by_cases h1 : x < y
  · have HN : Hd (z = -1) := ⟨by rw [← HZ.out, cmpI, if_pos h1]⟩
    go_enter Try.func46, Try.ntmps46
    go_wp2_with (refine (nan_any _ _).mono ?_; rintro e w1 ⟨rfl, rfl⟩)
    go_ret
    exact ⟨by rw [HN.out]; rfl, rfl⟩
  · by_cases h2 : y < x
    · have HN : Hd (z = 1) := ⟨by rw [← HZ.out, cmpI, if_neg h1, if_pos h2]⟩
      go_enter Try.func46, Try.ntmps46
      go_wp2_with (refine (nan_any _ _).mono ?_; rintro e w1 ⟨rfl, rfl⟩)
      go_ret
      exact ⟨by rw [HN.out]; rfl, rfl⟩
    · have HN : Hd (z = 0) := ⟨by rw [← HZ.out, cmpI, if_neg h1, if_neg h2]⟩
      go_enter Try.func46, Try.ntmps46
      go_wp2_with (refine (nan_any _ _).mono ?_; rintro e w1 ⟨rfl, rfl⟩)
      go_ret
      exact ⟨by rw [HN.out]; rfl, rfl⟩

def cmpV : List Int → List Int → Int
  | [], [] => 0
  | [], _ :: _ => -1
  | _ :: _, [] => 1
  | x :: a, y :: b => if x = y then cmpV a b else cmpI x y
theorem cmp_lt : ∀ (a b : List Int), cmpV a b < 0 ↔ a < b
  | [], [] => by simp [cmpV]
  | [], y :: b => by simp [cmpV]
  | x :: a, [] => by simp [cmpV]
  | x :: a, y :: b => by
    rw [List.cons_lt_cons_iff, ← cmp_lt a b, cmpV]
    by_cases h : x = y
    · rw [if_pos h]; simp [h]
    · rw [if_neg h, cmpI]
      constructor
      · intro h'
        split at h'
        · exact .inl ‹_›
        · split at h' <;> omega
      · rintro (h' | ⟨h', _⟩)
        · rw [if_pos h']; omega
        · exact absurd h' h
theorem cmp_append (c a b : List Int) : cmpV (c ++ a) (c ++ b) = cmpV a b := by
  induction c with
  | nil => rfl
  | cons x c ih => simp [cmpV, ih]
theorem cmp_take {a b : List Int} {k : Nat} (h : a.take k = b.take k) : cmpV a b = cmpV (a.drop k) (b.drop k) := by
  conv => lhs; rw [← List.take_append_drop k a, ← List.take_append_drop k b, h]
  exact cmp_append _ _ _

set_option maxRecDepth 100000 in
set_option maxHeartbeats 400000 in
theorem comparel_any (v1 v2 : Value) (l m : List Int) (w : World) (h1 : SrcI w v1 l) (h2 : SrcI w v2 m) : Calls Try.prog 29 #[v1, v2] w fun e w' => e = .returned (.int .i64 (cmpV l m)) ∧ w = w' := by
  have b1 := h1.small
  have b2 := h2.small
  obtain ⟨a1, c1, rfl⟩ := h1.shape
  obtain ⟨a2, c2, rfl⟩ := h2.shape
  have H1 := Hd.mk h1
  have H2 := Hd.mk h2
  clear h1 h2
  obtain ⟨z, hz⟩ : ∃ z, cmpV l m = z := ⟨_, rfl⟩
  rw [hz]
  have HZ := Hd.mk hz
  clear hz
  go_enter Try.func29, Try.ntmps29
  go_wp2_with fail
  go_loop [11] (fun i => ∃ k : Nat, k ≤ l.length ∧ k ≤ m.length ∧ i = .int .i64 k ∧ Hd (l.take k = m.take k)) (fun i => l.length - (intOf i).toNat)
  case atStart => exact ⟨0, by omega, by omega, rfl, ⟨by simp⟩⟩
  case round =>
    obtain ⟨k, hk, hk2, rfl, HK⟩ := hrel
    have HC : Hd (z = cmpV (l.drop k) (m.drop k)) := ⟨HZ.out.symm.trans (cmp_take HK.out)⟩
    by_cases hlt : k < l.length
    · obtain ⟨b, off, rfl, hb, hx⟩ := H1.out.at k hlt
      have i0 : (0 : Int) ≤ (k : Int) := by omega
      have i1 : (k : Int) < (l.length : Int) := by omega
      by_cases hlt2 : k < m.length
      · obtain ⟨b', off', rfl, hb', hy⟩ := H2.out.at k hlt2
        have i2 : (k : Int) < (m.length : Int) := by omega
        have HN0 : Hd (l[k] = m[k] → l.take (k + 1) = m.take (k + 1)) := ⟨fun he => by rw [List.take_succ_eq_append_getElem hlt, List.take_succ_eq_append_getElem hlt2, HK.out, he]⟩
        have HN1 : Hd (l[k] ≠ m[k] → z = cmpI l[k] m[k]) := ⟨fun he => by rw [HC.out, List.drop_eq_getElem_cons hlt, List.drop_eq_getElem_cons hlt2, cmpV, if_neg he]⟩
        obtain ⟨p, hp⟩ : ∃ p, l[k] = p := ⟨_, rfl⟩
        obtain ⟨q, hq⟩ : ∃ p, m[k] = p := ⟨_, rfl⟩
        rw [hp, hq] at HN0 HN1
        rw [hp] at hx
        rw [hq] at hy
        clear hp hq
        by_cases he : p = q
        · have HN := Hd.mk (HN0.out he)
          have HCI : Hd (cmpI p q = 0) := ⟨by rw [he, cmpI, if_neg (by omega), if_neg (by omega)]⟩
          clear HK HN0 HN1 HC he
          go_wp2_with fail
          refine (compare_any _ _ _).mono ?_
          rintro e w1 ⟨rfl, rfl⟩
          rw [HCI.out]
          go_wp2_with fail
          go_round
          case rel => exact ⟨k + 1, by omega, by omega, by go_num, HN⟩
          case measure => simp [intOf]; omega
        · have HN := Hd.mk (HN1.out he)
          obtain ⟨y, hy'⟩ : ∃ y, cmpI p q = y := ⟨_, rfl⟩
          have HY := Hd.mk hy'
          have hne : (y != 0) = true := by
            rw [bne_iff_ne, ← hy', cmpI]; split <;> (try split) <;> omega
          clear HK HN0 HN1 HC he hy'
          go_wp2_with fail
          refine (compare_any _ _ _).mono ?_
          rintro e w1 ⟨rfl, rfl⟩
          rw [HY.out]
          go_wp2_with fail
          go_ret
          exact ⟨by rw [HN.out, HY.out]; rfl, rfl⟩
      · have HN : Hd (z = 1) := ⟨by rw [HC.out, List.drop_eq_getElem_cons hlt, show m.drop k = [] from List.drop_eq_nil_of_le (by omega)]; rfl⟩
        have i2 : ¬ (k : Int) < (m.length : Int) := by omega
        clear HC
        go_wp2_with fail
        go_ret
        exact ⟨by rw [HN.out]; rfl, rfl⟩
    · obtain rfl : k = l.length := by omega
      by_cases hlt2 : l.length < m.length
      · have HN : Hd (z = -1) := ⟨by rw [HC.out, List.drop_length, List.drop_eq_getElem_cons hlt2]; rfl⟩
        clear HC
        go_wp2_with fail
        go_ret
        exact ⟨by rw [HN.out]; rfl, rfl⟩
      · have HN : Hd (z = 0) := ⟨by rw [HC.out, List.drop_length, show m.drop l.length = [] from List.drop_eq_nil_of_le (by omega)]; rfl⟩
        clear HC
        go_wp2_with fail
        go_ret
        exact ⟨by rw [HN.out]; rfl, rfl⟩
end Go.Proofs.Ytmahjgffadbdcaa
