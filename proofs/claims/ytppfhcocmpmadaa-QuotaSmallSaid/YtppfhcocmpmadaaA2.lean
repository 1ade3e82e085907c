/- Walks of quota.check, Charges, both. -/
import Derived.Test.YtppfhcocmpmadaaA1
namespace Go.Proofs.Ytppfhcocmpmadaa
open Go.RowKit
set_option linter.unusedVariables false

/-- A slice that reads as charges: a kind and an amount each. -/
def SrcC (w : World) (v : Value) (cs : List (Int × Int)) : Prop :=
  (cs = [] ∧ ∃ a c, v = .slice a 0 c ∧ (a = none → c = 0)) ∨ ∃ b off c, v = .slice (some ⟨b, off, none⟩) cs.length c ∧ cs.length ≤ c ∧ c ≤ maxLen ∧ b < w.heap.size ∧
    ∀ j (hj : j < cs.length), w.cell? ⟨b, off + j * 2, none⟩ = some (.int .i64 cs[j].1) ∧ w.cell? ⟨b, off + j * 2 + 1, none⟩ = some (.int .i64 cs[j].2)
theorem SrcC.below {w w1 : World} {v : Value} {cs : List (Int × Int)} (h : SrcC w v cs) (hB : Below w.heap.size w w1) : SrcC w1 v cs := by
  rcases h with h | ⟨b, off, c, hv, h1, h2, hb, hc⟩
  · exact .inl h
  · refine .inr ⟨b, off, c, hv, h1, h2, Nat.lt_of_lt_of_le hb hB.size, fun j hj => ?_⟩
    rw [hB.cell (p := ⟨b, off + j * 2, none⟩) hb, hB.cell (p := ⟨b, off + j * 2 + 1, none⟩) hb]
    exact hc j hj
theorem SrcC.shape {w : World} {v : Value} {cs : List (Int × Int)} (h : SrcC w v cs) : ∃ a c, v = .slice a cs.length c := by
  rcases h with ⟨rfl, a, c, h, _⟩ | ⟨b, off, c, hv, _⟩
  · exact ⟨a, c, h⟩
  · exact ⟨_, _, hv⟩
theorem SrcC.small {w : World} {v : Value} {cs : List (Int × Int)} (h : SrcC w v cs) : cs.length ≤ 9223372036854775807 := by
  rcases h with ⟨rfl, h⟩ | ⟨b, off, c, hv, h1, h2, _⟩
  · simp
  · simp only [maxLen] at h2; omega
/-- An element of a slice, at its address. -/
theorem SrcC.at {w : World} {a : Option Addr} {n c : Nat} {cs : List (Int × Int)} (h : SrcC w (.slice a n c) cs) (k : Nat) (hk : k < cs.length) :
    ∃ b off, a = some ⟨b, off, none⟩ ∧ b < w.heap.size ∧ w.cell? ⟨b, off + k * 2, none⟩ = some (.int .i64 cs[k].1) ∧ w.cell? ⟨b, off + k * 2 + 1, none⟩ = some (.int .i64 cs[k].2) := by
  rcases h with ⟨rfl, h⟩ | ⟨b, off, c, hv, h1, h2, hb, hc⟩
  · simp at hk
  · simp only [Value.slice.injEq] at hv
    exact ⟨b, off, hv.1, hb, hc k hk⟩

/-- A charge is right. -/
def okC (x : Int × Int) : Bool := isB x.1 && decide (-1099511627776 ≤ x.2) && decide (x.2 ≤ 1099511627776)
def chkV (cs : List (Int × Int)) : Int := if 4096 < cs.length then 5 else if cs.all okC = true then 0 else 251
theorem isB_iff (k : Int) : isB k = true ↔ 0 ≤ k ∧ k < 4 := by simp [isB]
theorem isB_no (k : Int) : isB k = false ↔ k < 0 ∨ 4 ≤ k := by
  have := isB_iff k
  cases h : isB k
  · rw [h] at this; simp at this; simp; omega
  · rw [h] at this; simp at this; simp; omega
theorem okC_iff (x : Int × Int) : okC x = true ↔ 0 ≤ x.1 ∧ x.1 < 4 ∧ -1099511627776 ≤ x.2 ∧ x.2 ≤ 1099511627776 := by
  simp [okC, isB]; omega

set_option maxRecDepth 100000 in
set_option maxHeartbeats 4000000 in
theorem check_any (a : Option Addr) (n c : Nat) (cs : List (Int × Int)) (w : World) (hs : SrcC w (.slice a n c) cs) (hn : cs.length = n) : Calls Try.prog 31 #[.slice a n c] w fun e w' => e = .returned (.int .i64 (chkV cs)) ∧ Below w.heap.size w w' := by
  have hbig := hs.small
  subst hn
  have HS := Hd.mk hs
  clear hs
  by_cases hl : 4096 < cs.length
  · have e : chkV cs = 5 := by rw [chkV, if_pos hl]
    rw [e]; clear e
    go_enter Try.func31, Try.ntmps31
    go_wp2_with fail
    go_ret
    exact ⟨rfl, Below.refl _ _⟩
  · go_enter Try.func31, Try.ntmps31
    go_wp2_with fail
    go_loopw [10] (fun i W => ∃ k : Nat, k ≤ cs.length ∧ i = .int .i64 k ∧ Hd (∀ j (h : j < cs.length), j < k → okC cs[j] = true) ∧ Below w.heap.size w W) (fun i _ => cs.length - (intOf i).toNat)
    case atStart => exact ⟨0, by omega, rfl, ⟨fun j _ hj => by omega⟩, Below.refl _ _⟩
    case round =>
      obtain ⟨k, hk, rfl, HO, hB⟩ := hrel
      by_cases hlt : k < cs.length
      · obtain ⟨b, off, rfl, hb, hc1, hc2⟩ := (HS.out.below hB).at k hlt
        have HK : Hd (okC cs[k] = (isB cs[k].1 && decide (-1099511627776 ≤ cs[k].2) && decide (cs[k].2 ≤ 1099511627776))) := ⟨rfl⟩
        have HX : Hd (okC cs[k] = false → chkV cs = 251) := ⟨fun h => by
          rw [chkV, if_neg hl, if_neg]
          intro hall
          rw [List.all_eq_true] at hall
          rw [hall _ (List.getElem_mem hlt)] at h; cases h⟩
        obtain ⟨p, hp⟩ : ∃ p, cs[k].1 = p := ⟨_, rfl⟩
        obtain ⟨q, hq⟩ : ∃ p, cs[k].2 = p := ⟨_, rfl⟩
        rw [hp] at hc1 HK
        rw [hq] at hc2 HK
        have hB' := hB.alloc hB.size (.cells #[.int .i64 p, .int .i64 q] 32)
        clear hp hq hB
        go_wp2_with fail
        refine (is_any p _).mono ?_
        rintro e w2 ⟨rfl, rfl⟩
        obtain ⟨r, hr⟩ : ∃ r, isB p = r := ⟨_, rfl⟩
        rw [hr] at HK ⊢
        clear hr hc1 hc2
        cases r
        · have HE := Hd.mk (HX.out (by rw [HK.out]; rfl))
          clear HX HK HO
          go_wp2_with fail
          go_ret
          exact ⟨by rw [HE.out]; rfl, hB'⟩
        by_cases c1 : q < -1099511627776
        · have HE := Hd.mk (HX.out (by rw [HK.out]; simp; omega))
          clear HX HK HO
          go_wp2_with fail
          go_ret
          exact ⟨by rw [HE.out]; rfl, hB'⟩
        by_cases c2 : 1099511627776 < q
        · have HE := Hd.mk (HX.out (by rw [HK.out]; simp; omega))
          clear HX HK HO
          go_wp2_with fail
          go_ret
          exact ⟨by rw [HE.out]; rfl, hB'⟩
        · have HN : Hd (∀ j (h : j < cs.length), j < k + 1 → okC cs[j] = true) := ⟨fun j h hj => by
            by_cases e : j = k
            · subst e; rw [HK.out]; simp; omega
            · exact HO.out j h (by omega)⟩
          clear HX HK HO
          go_wp2_with fail
          go_roundw
          case rel => exact ⟨k + 1, by omega, by go_num, HN, hB'⟩
          case measure => simp [intOf]; omega
      · obtain rfl : k = cs.length := by omega
        have HE : Hd (chkV cs = 0) := ⟨by
          rw [chkV, if_neg hl, if_pos]
          rw [List.all_eq_true]
          intro x hx
          obtain ⟨j, hj, rfl⟩ := List.mem_iff_getElem.1 hx
          exact HO.out j hj hj⟩
        clear HO
        go_wp2_with fail
        go_ret
        exact ⟨by rw [HE.out]; rfl, hB⟩

theorem check_src (v : Value) (cs : List (Int × Int)) (w : World) (hs : SrcC w v cs) : Calls Try.prog 31 #[v] w fun e w' => e = .returned (.int .i64 (chkV cs)) ∧ Below w.heap.size w w' := by
  obtain ⟨a, c, rfl⟩ := hs.shape
  exact check_any a _ c cs w hs rfl

set_option maxRecDepth 100000 in
theorem charges_any (v : Value) (cs : List (Int × Int)) (w : World) (hs : SrcC w v cs) : Calls Try.prog 21 #[v] w fun e w' => e = .returned (.bool (chkV cs == 0)) ∧ Below w.heap.size w w' := by
  have HS := Hd.mk hs
  clear hs
  go_enter Try.func21, Try.ntmps21
  go_wp2_with fail
  refine (check_src v cs _ HS.out).mono ?_
  rintro e w1 ⟨rfl, hB⟩
  go_wp2_with fail
  go_ret
  exact ⟨rfl, hB⟩

/-- What is wrong with a book, and charges. -/
def bothV (L U : Nat → Int) (cs : List (Int × Int)) : Int := if rightB L U = true then chkV cs else 250
set_option maxRecDepth 100000 in
set_option maxHeartbeats 1000000 in
theorem both_any (L U : Nat → Int) (v : Value) (cs : List (Int × Int)) (w : World) (hs : SrcC w v cs) : Calls Try.prog 27 #[.agg (bk L U), v] w fun e w' => e = .returned (.int .i64 (bothV L U cs)) ∧ Below w.heap.size w w' := by
  have HS := Hd.mk hs
  clear hs
  have HB0 : Hd (Below w.heap.size w (w.alloc (.cells (bk L U) 27))) := ⟨(Below.refl _ _).alloc (Nat.le_refl _) _⟩
  go_enter Try.func27, Try.ntmps27
  go_wp2_with (refine wpList_load_row rfl 27 _ rfl _ rfl 27 (bk L U) (0, 0) _ (World.alloc_heap_new w _) Try.underlying27 rfl (by kernel_rfl) ?_)
  refine (right_any L U _).mono ?_
  rintro e w1 ⟨rfl, hB⟩
  have HB := Hd.mk (ch4 HB0.out hB)
  clear hB HB0
  cases hr : rightB L U
  · have HE : Hd (bothV L U cs = 250) := ⟨by rw [bothV, hr]; rfl⟩
    clear hr
    go_wp2_with fail
    go_ret
    exact ⟨by rw [HE.out]; rfl, HB.out⟩
  · have HE : Hd (bothV L U cs = chkV cs) := ⟨by rw [bothV, hr]; rfl⟩
    clear hr
    go_wp2_with fail
    refine (check_src v cs _ (HS.out.below HB.out)).mono ?_
    rintro e w2 ⟨rfl, hB⟩
    go_wp2_with fail
    go_ret
    exact ⟨by rw [HE.out]; rfl, ch4 HB.out hB⟩
end Go.Proofs.Ytppfhcocmpmadaa
