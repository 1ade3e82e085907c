/- slices.DeleteFunc of a slice of the call's own. -/
import Derived.Test.YtlblpmadehikgaaE1
namespace Go.Proofs.Ytlblpmadehikgaa
open Go.RowKit Go.Shelf
set_option linter.unusedVariables false

/-- The times from h on. -/
def fromF (h : Int) (l : List Int) : List Int := l.filter (fun t => decide (h ≤ t))
theorem fromF_yes {h : Int} {l : List Int} {j : Nat} (hj : j < l.length) (h1 : h ≤ l[j]) : fromF h (l.take (j + 1)) = fromF h (l.take j) ++ [l[j]] := by
  rw [fromF, fromF, List.take_succ_eq_append_getElem hj, List.filter_append, List.filter_cons_of_pos (by simpa using h1)]; rfl
theorem fromF_no {h : Int} {l : List Int} {j : Nat} (hj : j < l.length) (h1 : l[j] < h) : fromF h (l.take (j + 1)) = fromF h (l.take j) := by
  rw [fromF, fromF, List.take_succ_eq_append_getElem hj, List.filter_append, List.filter_cons_of_neg (by simp; omega)]; simp
theorem fromF_all {h : Int} {l : List Int} (hl : ∀ t ∈ l, h ≤ t) : fromF h l = l := List.filter_eq_self.2 (fun t ht => by simpa using hl t ht)
theorem fromF_len (h : Int) (l : List Int) : (fromF h l).length ≤ l.length := List.length_filter_le _ _

/-- What stands in a round of DeleteFunc: the first p cells are what is kept of the first j, those from j on are as they were. -/
structure DelI (W : World) (g N : Nat) (l : List Int) (h : Int) (p j : Nat) : Prop where
  row : ∃ f, RowF W g N f ∧ (∀ k, k < p → f k = (fromF h (l.take j)).getD k 0) ∧ (∀ k, j ≤ k → k < N → f k = l.getD k 0)
  pl : p = (fromF h (l.take j)).length
  lt : p < j
  le : j ≤ N
theorem getD_app {a b : List Int} {k : Nat} (h : k < a.length) : (a ++ b).getD k 0 = a.getD k 0 := by
  rw [List.getD_eq_getElem?_getD, List.getD_eq_getElem?_getD, List.getElem?_append_left h]
theorem DelI.skip {W : World} {g : Nat} {l : List Int} {h : Int} {p j : Nat} (H : DelI W g l.length l h p j) (hj : j < l.length) (hx : l[j] < h) : DelI W g l.length l h p (j + 1) := by
  obtain ⟨f, hr, h1, h2⟩ := H.row
  exact ⟨⟨f, hr, fun k hk => by rw [fromF_no hj hx]; exact h1 k hk, fun k hk hk2 => h2 k (by omega) hk2⟩, by rw [fromF_no hj hx]; exact H.pl, by have := H.lt; omega, by omega⟩
theorem DelI.put {W : World} {g : Nat} {l : List Int} {h : Int} {p j : Nat} (H : DelI W g l.length l h p j) (hj : j < l.length) (hx : h ≤ l[j]) : DelI (W.setCell ⟨g, p, none⟩ (.int .i64 l[j])) g l.length l h (p + 1) (j + 1) := by
  obtain ⟨f, hr, h1, h2⟩ := H.row
  have hlt := H.lt
  refine ⟨⟨_, hr.set p (by omega) l[j], fun k hk => ?_, fun k hk hk2 => ?_⟩, ?_, by omega, by omega⟩
  · rw [fromF_yes hj hx]
    by_cases hkp : k = p
    · subst hkp
      rw [if_pos rfl, List.getD_eq_getElem?_getD, List.getElem?_append_right (by rw [← H.pl]; exact Nat.le_refl _), ← H.pl, Nat.sub_self]; rfl
    · rw [if_neg hkp, getD_app (by rw [← H.pl]; omega)]; exact h1 k (by omega)
  · rw [if_neg (by omega)]; exact h2 k (by omega) hk2
  · rw [fromF_yes hj hx, List.length_append, ← H.pl]; rfl
theorem below_setCells {B g : Nat} {w : World} (hg : B ≤ g) : ∀ (vs : List Value) (o : Nat) (W : World), Below B w W → Below B w (W.setCells g o vs)
  | [], _, _, h => h
  | v :: vs, o, W, h => below_setCells hg vs (o + 1) _ (h.setCell hg v)
theorem zero3 (w : World) : (zeroValue 3).run Try.prog w = .ok (.int .i64 0) w := by kernel_rfl

set_option maxRecDepth 100000 in
set_option maxHeartbeats 2000000 in
theorem delete_func {base b : Nat} (v : Value) (l : List Int) (h : Int) (w0 w : World) (hs : OwnI w base v l) (hb : w.heap[b]? = some (.cells #[.int .i64 h] 3 (0, 0))) (hbb : b < base) (hB : Below base w0 w) (hl : l.length ≤ 100000) :
    Calls Try.prog 28 #[v, .func (.func 30) #[] #[.pointer (some ⟨b, 0, none⟩)]] w fun e w' => ∃ v', e = .returned v' ∧ SrcI w' v' (fromF h l) ∧ Below base w0 w' := by
  have HO := Hd.mk hs
  have HB := Hd.mk hB
  have HBX := Hd.mk hb
  have hbc := cells_cell hb 0
  rcases hi : l.findIdx? (fun t => decide (t < h)) with _ | i
  · have HI : Hd (idxF l h = -1) := ⟨by rw [idxF, hi]⟩
    have HF : Hd (fromF h l = l) := ⟨fromF_all (fun t ht => by have := List.findIdx?_eq_none_iff.1 hi t ht; simp at this; omega)⟩
    clear hi hs hB hb
    obtain ⟨a, c, rfl⟩ := HO.out.src.shape
    go_enter Try.func28, Try.ntmps28
    go_wp2_with fail
    refine (index_func b _ l h _ HO.out.src hbc).mono ?_
    rintro e w1 ⟨rfl, rfl⟩
    rw [HI.out]
    go_wp2_with fail
    go_ret
    exact ⟨_, rfl, by rw [HF.out]; exact HO.out.src, HB.out⟩
  · have HI : Hd (idxF l h = (i : Int)) := ⟨by rw [idxF, hi]⟩
    obtain ⟨hil, hi1, hi2⟩ := List.findIdx?_eq_some_iff_getElem.1 hi
    have hi1' : l[i] < h := by simpa using hi1
    have hi3 : fromF h (l.take i) = l.take i := fromF_all (fun t ht => by
      obtain ⟨j, hj, rfl⟩ := List.mem_iff_getElem.1 ht
      rw [List.length_take] at hj
      have := hi2 j (by omega)
      rw [List.getElem_take]
      simpa using this)
    obtain ⟨g, cap, rfl, hg, hR, hc1, hc2⟩ := HO.out.row (by omega)
    have HST : Hd (DelI w g l.length l h i (i + 1)) := ⟨⟨⟨_, hR, fun k hk => by
        rw [fromF_no hil hi1', hi3, List.getD_eq_getElem?_getD, List.getD_eq_getElem?_getD, List.getElem?_take, if_pos hk], fun k hk hk2 => rfl⟩, by rw [fromF_no hil hi1', hi3, List.length_take]; omega, by omega, by omega⟩⟩
    have hil' : (i : Int) < (l.length : Int) := by omega
    have hi0 : (0 : Int) ≤ (i : Int) := by omega
    have him : ((i : Int) == -1) = false := beq_false_of_ne (by omega)
    have HG := Hd.mk hg
    have HC := Hd.mk (And.intro hc1 hc2)
    simp only [maxLen] at hc2
    have hcc : (l.length : Int) ≤ (cap : Int) := by omega
    clear hi hs hB hb hi1 hi2 hi3 hi1' hR hg hc1
    go_enter Try.func28, Try.ntmps28
    go_wp2_with fail
    refine (index_func b _ l h _ HO.out.src hbc).mono ?_
    rintro e w1 ⟨rfl, rfl⟩
    rw [HI.out]
    go_wp2_with fail
    go_loopw [5, 6] (fun p j W => ∃ (pn jn : Nat), p = .int .i64 pn ∧ j = .int .i64 jn ∧ DelI W g l.length l h pn jn ∧ Below base w0 W ∧ W.heap[b]? = some (.cells #[.int .i64 h] 3 (0, 0))) (fun _ j _ => l.length - (intOf j).toNat)
    case atStart => exact ⟨i, i + 1, rfl, by go_num, HST.out, HB.out, HBX.out⟩
    case round =>
      obtain ⟨p, j, rfl, rfl, HD, hBw, hbx⟩ := hrel
      have hbc2 := cells_cell hbx 0
      obtain ⟨f, hR, hf1, hf2⟩ := HD.row
      have HDD := Hd.mk HD
      have hpj := HD.lt
      have hjl := HD.le
      have HBW := Hd.mk hBw
      have HBX2 := Hd.mk hbx
      by_cases hlt : j < l.length
      · have hx := hR.cell j hlt
        have hfr := hR.free p
        have hxp := hR.cell p (by omega)
        rw [hf2 j (Nat.le_refl _) hlt, List.getD_eq_getElem?_getD, List.getElem?_eq_getElem hlt, Option.getD_some] at hx
        obtain ⟨x, hX⟩ : ∃ x, l[j] = x := ⟨_, rfl⟩
        rw [hX] at hx
        have HX := Hd.mk hX
        have HLT := Hd.mk hlt
        obtain ⟨yp, hyp⟩ : ∃ y, f p = y := ⟨_, rfl⟩
        rw [hyp] at hxp
        have j0 : (0 : Int) ≤ (j : Int) := by omega
        have j1 : (j : Int) < (l.length : Int) := by omega
        have p0 : (0 : Int) ≤ (p : Int) := by omega
        have p1 : (p : Int) < (l.length : Int) := by omega
        clear hX hR hf1 hf2 HD hBw hbx hyp
        by_cases hxh : x < h
        · have HXH := Hd.mk (decide_eq_true hxh)
          have HN := Hd.mk (HDD.out.skip HLT.out (by rw [HX.out]; exact hxh))
          go_wp2_with fail
          refine (before_any b x h _ hbc2).mono ?_
          rintro e w1 ⟨rfl, rfl⟩
          rw [HXH.out]
          go_wp2_with fail
          go_roundw
          case rel => exact ⟨p, j + 1, rfl, by go_num, HN.out, HBW.out, HBX2.out⟩
          case measure => have := HLT.out; simp [intOf] <;> omega
        · have HXH := Hd.mk (decide_eq_false hxh)
          have hnn := HDD.out.put HLT.out (by rw [HX.out]; omega)
          rw [HX.out] at hnn
          have HN := Hd.mk hnn
          clear hnn
          go_wp2_with fail
          refine (before_any b x h _ hbc2).mono ?_
          rintro e w1 ⟨rfl, rfl⟩
          rw [HXH.out]
          go_wp2_with fail
          go_roundw
          case rel => exact ⟨p + 1, j + 1, by go_num, by go_num, HN.out, HBW.out.setCell HG.out _, (Below.heap_setCell _ _ _ _ (by have := HG.out; simp; omega)).trans HBX2.out⟩
          case measure => have := HLT.out; simp [intOf] <;> omega
      · obtain rfl : j = l.length := by omega
        have HF : Hd (p = (fromF h l).length) := ⟨by rw [HDD.out.pl, List.take_length]⟩
        have p0 : (0 : Int) ≤ (p : Int) := by omega
        have p1 : (p : Int) ≤ (l.length : Int) := by omega
        have p2 : (p : Int) ≤ (cap : Int) := by omega
        have hcl : ∀ ty, (Builtin.clear_ #[24] ty #[.slice (some ⟨g, p, none⟩) (l.length - p) (cap - p)]).run Try.prog wr = .ok (.tuple #[]) (wr.setCells g p (List.replicate (l.length - p) (.int .i64 0))) := fun ty =>
          Lib.run_clear_slice wr 24 3 ty _ Try.underlying24 zero3 rfl rfl g p _ _ (by omega) (fun k hk => by rw [hR.cell (p + k) (by omega)]; rfl) (fun k hk => hR.free _)
        have HR := Hd.mk hR
        have HF1 := Hd.mk hf1
        clear hR hf1 hf2 HD hBw hbx hlt
        go_wp2_with fail
        go_ret
        refine ⟨_, rfl, .inr ⟨⟨g, 0, none⟩, cap, by rw [← HF.out]; rfl, by have := HC.out; rw [← HF.out]; omega, HC.out.2, fun j hj => ?_⟩, below_setCells HG.out _ _ _ HBW.out⟩
        have hjp : j < p := by rw [HF.out]; exact hj
        rw [plain_add, Nat.zero_add, World.cell?_setCells_out g _ _ _ _ (fun _ _ => .inl hjp), HR.out.cell j (by omega), HF1.out j hjp, List.take_length, List.getD_eq_getElem?_getD, List.getElem?_eq_getElem hj, Option.getD_some]
end Go.Proofs.Ytlblpmadehikgaa
