/- The reference's Rank. -/
import Derived.Test.YtmahjgffadbdcaaG5
import Derived.Deep.RegionHeld3
namespace Go.Proofs.Ytmahjgffadbdcaa
open Go.RowKit
set_option linter.unusedVariables false

theorem bl_drew {B W : World} (h : Below B.heap.size B W) : Below B.heap.size B W.drew := below_drewN h 1
theorem bl_call {B W W' : World} (hB : Below W.heap.size W W') (h : Below B.heap.size B W) : Below B.heap.size B W' := ch4 h hB
theorem rk_keep {w W : World} {b off : Nat} {p : Int} (hb : b < w.heap.size) (h : w.cell? ⟨b, off, none⟩ = some (.int .i64 p) ∧ Below w.heap.size w w) (hB : Below w.heap.size w W) :
    W.cell? ⟨b, off, none⟩ = some (.int .i64 p) ∧ Below w.heap.size w W := ⟨(hB.cell (p := ⟨b, off, none⟩) hb).trans h.1, hB⟩
theorem idx_cnt {S : List Int} (hS : asc S) {p : Int} (hp : p ∈ S) : S.idxOf p = cntL S p := by
  have h := at_cnt hS hp
  obtain ⟨hl, he⟩ := List.getElem?_eq_some_iff.1 h
  have hi := List.idxOf_lt_length_of_mem hp
  have he2 : S[S.idxOf p] = p := List.getElem_idxOf hi
  rcases Nat.lt_trichotomy (S.idxOf p) (cntL S p) with h1 | h1 | h1
  · have := List.pairwise_iff_getElem.1 hS _ _ hi hl h1; omega
  · exact h1
  · have := List.pairwise_iff_getElem.1 hS _ _ hl hi h1; omega

set_option maxRecDepth 100000 in
set_option maxHeartbeats 8000000 in
theorem rrank_any : ∀ (n : Nat) (v : Value) (l : List Int) (w : World), l.length = n → SrcI w v l → OkO l → Calls Try.prog 40 #[v] w fun e w' => e = .returned (.int .i64 (rankV l : Nat)) ∧ Below w.heap.size w w' := by
  intro n
  induction n with
  | zero =>
    intro v l w hl h hok
    obtain rfl := List.length_eq_zero_iff.1 hl
    obtain ⟨a, c, rfl⟩ := h.shape
    clear h hok hl
    go_enter Try.func40, Try.ntmps40
    go_wp2_with fail
    go_ret
    exact ⟨rfl, Below.refl _ _⟩
  | succ n ih =>
    intro v l w hl h hok
    have hlen := hok.len
    obtain ⟨a, c, rfl⟩ := h.shape
    have hcap := h.cap
    have hc1 := hcap.2.1
    have hc2 := hcap.2.2
    obtain ⟨b, off, rfl, hb, hx⟩ := h.at 0 (by omega)
    rcases l with _ | ⟨p, t⟩
    · simp at hl
    have htl : t.length = n := by simpa using hl
    have hlL : (p :: t).length = n + 1 := hl
    rw [hlL] at h hc1 ⊢
    have hpin : p ∈ sortV (p :: t) := (sort_perm hok).symm.subset (by simp)
    have HIV : Hd (idxV (sortV (p :: t)) p = ((cntL t p : Nat) : Int)) := ⟨by
      rw [idxV, if_pos hpin, idx_cnt (sort_asc _) hpin, cntL_perm (sort_perm hok), cntL_self]⟩
    have HRK : Hd (rankV (p :: t) = cntL t p * fac n + rankV t) := ⟨by rw [rankV, htl]⟩
    have hrb : rankV (p :: t) ≤ 20922789888000 := by
      have h1 := rank_lt (p :: t)
      have h2 : fac (p :: t).length ≤ fac 16 := fac_mono hlen
      rw [fac16] at h2; omega
    have hokt : OkO t := hok.drop 1
    simp only [List.getElem_cons_zero, Nat.add_zero] at hx
    have HSRC := Hd.mk h
    have HOKL := Hd.mk hok
    have HOKT := Hd.mk hokt
    have HTL := Hd.mk htl
    obtain ⟨cn, hcn⟩ : ∃ x, cntL t p = x := ⟨_, rfl⟩
    obtain ⟨fn, hfn⟩ : ∃ x, fac n = x := ⟨_, rfl⟩
    obtain ⟨rt, hrt⟩ : ∃ x, rankV t = x := ⟨_, rfl⟩
    obtain ⟨rr, hrr⟩ : ∃ x, rankV (p :: t) = x := ⟨_, rfl⟩
    rw [hcn] at HIV HRK
    rw [hfn, hrt] at HRK
    rw [hrr] at HRK hrb ⊢
    obtain ⟨pr, hpr⟩ : ∃ x, cn * fn = x := ⟨_, rfl⟩
    rw [hpr] at HRK
    have hmul : (cn : Int) * (fn : Int) = (pr : Int) := by rw [← hpr]; rfl
    have hprb : pr ≤ 20922789888000 := by have := HRK.out; omega
    have hsumb : pr + rt ≤ 20922789888000 := by have := HRK.out; omega
    have HFN := Hd.mk hfn
    have HRT := Hd.mk hrt
    have hn20 : n ≤ 20 := by simp at hlen; omega
    have HIH := Hd.mk ih
    have n1 : ((n + 1 : Nat) : Int) ≠ 0 := by omega
    have d0 : decide (((n + 1 : Nat) : Int) = 0) = false := decide_eq_false n1
    have d1 : decide ((n : Int) + 1 = 0) = false := decide_eq_false (by omega)
    have i1 : (1 : Int) ≤ ((n + 1 : Nat) : Int) := by omega
    have i2 : (1 : Int) ≤ (n : Int) + 1 := by omega
    have i3 : (1 : Int) ≤ (c : Int) := by omega
    have i4 : (0 : Int) < (n : Int) + 1 := by omega
    have HXC := Hd.mk hx
    -- the rest of the order
    have HTS : Hd (∃ aa cc, (if c = 1 then (some ⟨b, off, none⟩ : Option Addr) else some ⟨b, off + 1, none⟩) = aa ∧ c - 1 = cc ∧ SrcI w (.slice aa n cc) t) := ⟨by
      by_cases hc : c = 1
      · have hn0 : n = 0 := by omega
        have ht0 : t = [] := List.length_eq_zero_iff.1 (by omega)
        rw [if_pos hc, hn0, ht0]
        exact ⟨_, _, rfl, rfl, SrcI.empty w _ _ (by omega)⟩
      · rw [if_neg hc]
        refine ⟨_, _, rfl, rfl, ?_⟩
        by_cases hn0 : n = 0
        · have ht0 : t = [] := List.length_eq_zero_iff.1 (by omega)
          rw [hn0, ht0]
          exact SrcI.empty w _ _ (by simp only [maxLen]; omega)
        · have h0 : SrcI w (.slice (some ⟨b, off, none⟩) (p :: t).length c) (p :: t) := by rw [hlL]; exact h
          have := h0.drop 1 (by simp; omega)
          simpa [htl] using this⟩
    clear hcn hfn hrt hrr hpr h hok hokt hl hlL hlen hcap hx htl hpin ih
    obtain ⟨aa, cc, haa, hcc, hts⟩ := HTS.out
    have HT := Hd.mk hts
    have HAA := Hd.mk haa
    clear hts HTS
    clear haa
    have HS0 := Hd.mk (show w.cell? ⟨b, off, none⟩ = some (.int .i64 p) ∧ Below w.heap.size w w from ⟨HXC.out, Below.refl _ _⟩)
    have H38 : Hd (∀ W, (W.cell? ⟨b, off, none⟩ = some (.int .i64 p) ∧ Below w.heap.size w W) → Calls Try.prog 38 #[.slice (some ⟨b, off, none⟩) (n + 1) c] W fun e w' => ∃ v', e = .returned v' ∧ SrcI w' v' (sortV (p :: t)) ∧ Below W.heap.size W w') := ⟨fun W h => by
      refine (rsorted_any _ (p :: t) _ (HSRC.out.below h.2)).mono ?_
      rintro e wx ⟨v7, rfl, hO7, hB7⟩
      exact ⟨v7, rfl, hO7.src, hB7⟩⟩
    have H59 : Hd (∀ (W : World) (v : Value), SrcI W v (sortV (p :: t)) → Calls Try.prog 59 #[v, .int .i64 p] W fun e w' => e = .returned (.int .i64 (cn : Nat)) ∧ Below W.heap.size W w') := ⟨fun W v h => by
      refine (rindex_any _ _ p _ h).mono ?_
      rintro e wx ⟨rfl, rfl⟩
      rw [HIV.out]; exact ⟨rfl, Below.refl _ _⟩⟩
    have H62 : Hd (∀ (W : World) (x : Int), x = n → Calls Try.prog 62 #[.int .i64 x] W fun e w' => e = .returned (.int .i64 (fn : Nat)) ∧ Below W.heap.size W w') := ⟨fun W x h => by
      subst h
      refine (rfac_any _ _ hn20).mono ?_
      rintro e wx ⟨rfl, rfl⟩
      rw [HFN.out]; exact ⟨rfl, Below.refl _ _⟩⟩
    have H40 : Hd (∀ W, (W.cell? ⟨b, off, none⟩ = some (.int .i64 p) ∧ Below w.heap.size w W) → Calls Try.prog 40 #[.slice aa n cc] W fun e w' => e = .returned (.int .i64 (rt : Nat)) ∧ Below W.heap.size W w') := ⟨fun W h => by
      refine (HIH.out _ t _ HTL.out (HT.out.below h.2) HOKT.out).mono ?_
      rintro e wx ⟨rfl, hB⟩
      rw [HRT.out]; exact ⟨rfl, hB⟩⟩
    have HSUM : Hd (pr + rt = rr) := ⟨by have := HRK.out; omega⟩
    have hpi : (pr : Int) ≤ 20922789888000 := by omega
    have hsi : (pr : Int) + (rt : Int) ≤ 20922789888000 := by omega
    have hp0 : (0 : Int) ≤ (pr : Int) := by omega
    have hr0 : (0 : Int) ≤ (pr : Int) + (rt : Int) := by omega
    have wn : IntKind.i64.wrap (n : Int) = n := by rw [IntKind.wrap_i64]; omega
    have wm : IntKind.i64.wrap ((cn : Int) * (fn : Int)) = (pr : Int) := by rw [hmul, IntKind.wrap_i64]; omega
    have wp : IntKind.i64.wrap (pr : Int) = (pr : Int) := by rw [IntKind.wrap_i64]; omega
    have ws : IntKind.i64.wrap ((pr : Int) + (rt : Int)) = (pr : Int) + (rt : Int) := by rw [IntKind.wrap_i64]; omega
    have HBB := Hd.mk hb
    clear hb HIV HFN HRT HRK HSRC HIH HTL HT HOKT HOKL HXC hrb hprb hsumb
    by_cases hc : c = 1
    · have haa := HAA.out
      rw [if_pos hc] at haa
      subst hc
      obtain rfl : n = 0 := by omega
      subst haa hcc
      simp only [Nat.zero_add] at *
      go_enter Try.func40, Try.ntmps40
      go_wp2_with fail
      go_region_held3 (fun W => W.cell? ⟨b, off, none⟩ = some (.int .i64 p) ∧ Below w.heap.size w W)
        (first | with_reducible assumption | exact rk_keep HBB.out HS0.out (by repeat (with_reducible first | exact Below.refl _ _ | apply bl_drew | (apply bl_call; assumption))))
        (first
        | (go_at_call 38; with_reducible refine (H38.out _ (by assumption)).mono ?_; rintro e wx ⟨v7, rfl, hS7, hB7⟩; have HS7 := Hd.mk hS7; clear hS7)
        | (go_at_call 59; with_reducible refine (H59.out _ _ HS7.out).mono ?_; rintro e wy ⟨rfl, hB59⟩)
        | (go_at_call 62; with_reducible refine Calls.mono (H62.out _ _ ?hx62) ?_; (case hx62 => first | exact wn | omega); rintro e wz ⟨rfl, hB62⟩)
        | (go_at_call 40; with_reducible refine (H40.out _ (by assumption)).mono ?_; rintro e wv ⟨rfl, hB40⟩))
      have hS9 : wv.cell? ⟨b, off, none⟩ = some (.int .i64 p) ∧ Below w.heap.size w wv := by assumption
      have HS9 := Hd.mk hS9.2
      clear hS9
      go_wp2_with fail
      go_ret
      exact ⟨by rw [← HSUM.out]; rfl, HS9.out⟩
    · have haa := HAA.out
      rw [if_neg hc] at haa
      subst haa hcc
      go_enter Try.func40, Try.ntmps40
      go_wp2_with fail
      go_region_held3 (fun W => W.cell? ⟨b, off, none⟩ = some (.int .i64 p) ∧ Below w.heap.size w W)
        (first | with_reducible assumption | exact rk_keep HBB.out HS0.out (by repeat (with_reducible first | exact Below.refl _ _ | apply bl_drew | (apply bl_call; assumption))))
        (first
        | (go_at_call 38; with_reducible refine (H38.out _ (by assumption)).mono ?_; rintro e wx ⟨v7, rfl, hS7, hB7⟩; have HS7 := Hd.mk hS7; clear hS7)
        | (go_at_call 59; with_reducible refine (H59.out _ _ HS7.out).mono ?_; rintro e wy ⟨rfl, hB59⟩)
        | (go_at_call 62; with_reducible refine Calls.mono (H62.out _ _ ?hx62) ?_; (case hx62 => first | exact wn | omega); rintro e wz ⟨rfl, hB62⟩)
        | (go_at_call 40; with_reducible refine (H40.out _ (by assumption)).mono ?_; rintro e wv ⟨rfl, hB40⟩))
      have hS9 : wv.cell? ⟨b, off, none⟩ = some (.int .i64 p) ∧ Below w.heap.size w wv := by assumption
      have HS9 := Hd.mk hS9.2
      clear hS9
      go_wp2_with fail
      go_ret
      exact ⟨by rw [← HSUM.out]; rfl, HS9.out⟩
end Go.Proofs.Ytmahjgffadbdcaa
