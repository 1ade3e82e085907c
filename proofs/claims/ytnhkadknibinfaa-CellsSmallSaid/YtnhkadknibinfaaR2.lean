/- The reference: rows are copied. -/
import Derived.Test.YtnhkadknibinfaaR1
namespace Go.Proofs.Ytnhkadknibinfaa
open Go.RowKit
set_option linter.unusedVariables false
set_option linter.unusedSimpArgs false

/-- Rows that were made since w. -/
structure RowsR (y : Lay) (w W : World) (a : List (List Int)) : Prop where
  rows : RowsAt y W (fun k => k < w.heap.size) a
  bel : Below w.heap.size w W
theorem RowsR.row {y : Lay} {w W WX : World} {a : List (List Int)} (h : RowsR y w W a) (hlen : a.length ≤ 16) {l : List Int} {ra : Option Addr} {c X : Nat} (hBX : Below W.heap.size W WX) (hX1 : WX.heap[X]? = some (.cells #[.slice ra l.length c] 28 (0, 0)))
    (hrow : 0 < l.length → ∃ g cur, ra = some ⟨g, 0, none⟩ ∧ W.heap.size ≤ g ∧ WX.heap[g]? = some (.cells cur 2 (0, 0)) ∧ l.length ≤ c ∧ c ≤ maxLen ∧ ∀ k (hk : k < l.length), cur[k]? = some (iv l[k])) (hcap : l.length ≤ c ∧ c ≤ maxLen ∧ (ra = none → c = 0)) :
    ∃ K cap W', (Builtin.append_ #[60, 60] 60 #[.slice y.ca a.length y.cc, .slice (some ⟨X, 0, none⟩) 1 1]).run Try.prog WX = .ok (.slice (some ⟨K, 0, none⟩) (a.length + 1) cap) W' ∧
      ∃ y', y'.ca = some ⟨K, 0, none⟩ ∧ y'.cc = cap ∧ RowsR y' w W' (a ++ [l]) := by
  have hEX := Ext.of hBX
  have hown : OwnE id WX 0 28 (.slice y.ca a.length y.cc) (rowsV y a) := h.rows.own.same fun g cur fr hg _ => (hEX _ _ hg).trans hg.symm
  have hrl : (rowsV y a).length = a.length := by simp [rowsV]
  obtain ⟨K, cap, W', hr, hO, hg, hK⟩ := push_row hown (by rw [hrl]; omega) (X := X) (by rw [cells_cell hX1]; rfl) 60
  rw [hrl] at hr hO
  have hkeep : ∀ (b : Nat) (o : Obj), WX.heap[b]? = some o → (∀ c f, o ≠ Obj.cells c 28 f) → W'.heap[b]? = some o := by
    intro b o hb hne
    rw [hg.block b (Array.getElem?_eq_some_iff.1 hb).1 ?_, hb]
    intro e
    obtain ⟨cur, hc⟩ := hown.ty e.symm
    rw [hb] at hc
    cases hc
    exact hne _ _ rfl
  refine ⟨K, cap, W', hr, ⟨some ⟨K, 0, none⟩, cap, y.ka, y.kc, fun i => if i < a.length then y.ra i else ra, fun i => if i < a.length then y.rc i else c, y.mb⟩, rfl, rfl, ?_⟩
  have hnM : ∀ (b : Nat) (o : Obj), W'.heap[b]? = some o → (∀ c f, o ≠ Obj.cells c 63 f) → W'.heap[b]? = some o := fun b o hb _ => hb
  have hpK : ¬ K < w.heap.size := by
    rcases hK with hK | hK
    · have : ∃ d, y.ca = some d ∧ d.block = K := by
        unfold Value.ownBlock at hK
        cases hka : y.ca with
        | none => rw [hka] at hK; cases hK
        | some d => rw [hka] at hK; simp at hK; exact ⟨d, rfl, hK⟩
      obtain ⟨d, hd, rfl⟩ := this
      exact h.rows.ownP d hd
    · have := h.bel.size; have := hBX.size; omega
  have hal : (a ++ [l]).length = a.length + 1 := by simp
  have hget : ∀ i (hi : i < (a ++ [l]).length) (hi' : i < a.length), (a ++ [l])[i] = a[i] := fun i hi hi' => List.getElem_append_left hi'
  have hlast : ∀ i (hi : i < (a ++ [l]).length), ¬ i < a.length → (a ++ [l])[i] = l := by
    intro i hi hn
    rw [List.getElem_append_right (by omega)]
    simp
  refine ⟨⟨?_, fun d hd => by cases hd; exact hpK, ?_, ?_, ?_⟩, ?_⟩
  · have hrv : rowsV ⟨some ⟨K, 0, none⟩, cap, y.ka, y.kc, fun i => if i < a.length then y.ra i else ra, fun i => if i < a.length then y.rc i else c, y.mb⟩ (a ++ [l]) = rowsV y a ++ [.slice ra l.length c] := by
      unfold rowsV
      rw [hal, List.range_succ, List.map_append]
      refine congr (congrArg HAppend.hAppend ?_) ?_
      · refine List.map_congr_left fun i hi => ?_
        have hi' := List.mem_range.1 hi
        simp [hi', List.getElem?_append_left hi']
      · simp
    rw [hrv, hal]
    exact hO.same fun g cur fr hgg _ => (hnM _ _ hgg (fun c f e => by simp at e)).trans hgg.symm
  · intro i hi h0
    by_cases hia : i < a.length
    · rw [hget i hi hia] at h0
      obtain ⟨g, cur, q1, q2, q3, q4, q5, q6⟩ := h.rows.row i hia h0
      refine ⟨g, cur, by simp [hia, q1], q2, hnM _ _ (hkeep _ _ (hEX _ _ q3) (fun c f e => by simp at e)) (fun c f e => by simp at e), ?_, by simpa [hia] using q5, ?_⟩
      · simp only [hget i hi hia, hia, if_true]; exact q4
      · intro k hk
        simp only [hget i hi hia] at hk ⊢
        exact q6 k hk
    · rw [hlast i hi hia] at h0
      obtain ⟨g, cur, q1, q2, q3, q4, q5, q6⟩ := hrow h0
      refine ⟨g, cur, by simp [hia, q1], by have := h.bel.size; omega, hnM _ _ (hkeep _ _ q3 (fun c f e => by simp at e)) (fun c f e => by simp at e), ?_, ?_, ?_⟩
      · simp only [hlast i hi hia, hia, if_false]; exact q4
      · simp only [hia, if_false]; exact q5
      · intro k hk
        simp only [hlast i hi hia] at hk ⊢
        exact q6 k hk
  · intro i j d hi hj h0 h1 hd1 hd2
    have lt : ∀ i (hi : i < a.length), 0 < a[i].length → y.ra i = some d → d.block < W.heap.size := by
      intro i hi h0 hd
      obtain ⟨g, cur, q1, q2, q3, _⟩ := h.rows.row i hi h0
      rw [q1] at hd; cases hd
      exact (Array.getElem?_eq_some_iff.1 q3).1
    simp only at hd1 hd2
    by_cases hia : i < a.length <;> by_cases hja : j < a.length
    · rw [if_pos hia] at hd1
      rw [if_pos hja] at hd2
      exact h.rows.apart i j d hia hja (by rw [← hget i hi hia]; exact h0) (by rw [← hget j hj hja]; exact h1) hd1 hd2
    · rw [if_pos hia] at hd1
      rw [if_neg hja] at hd2
      have h5 := lt i hia (by rw [← hget i hi hia]; exact h0) hd1
      obtain ⟨g, cur, q1, q2, _⟩ := hrow (by rw [← hlast j hj hja]; exact h1)
      rw [q1] at hd2; cases hd2
      simp at h5; omega
    · rw [if_neg hia] at hd1
      rw [if_pos hja] at hd2
      have h5 := lt j hja (by rw [← hget j hj hja]; exact h1) hd2
      obtain ⟨g, cur, q1, q2, _⟩ := hrow (by rw [← hlast i hi hia]; exact h0)
      rw [q1] at hd1; cases hd1
      simp at h5; omega
    · rw [hal] at hi hj; omega
  · intro i hi
    by_cases hia : i < a.length
    · simp only [hget i hi hia, hia, if_true]; exact h.rows.caps i hia
    · simp only [hlast i hi hia, hia, if_false]
      exact hcap
  · have hgs := hg.size
    have h1 := hBX.size
    refine h.bel.trans ⟨?_, ?_, ?_, by omega, ?_⟩
    · rw [hg.os, hBX.os]
    · rw [hg.tape, hBX.tape]
    · rw [hg.output, hBX.output]
    · intro k hk
      have hsz := h.bel.size
      rw [hg.block k (by omega) ?_, hBX.block k (by omega)]
      intro e
      unfold Value.ownBlock at e
      cases hka : y.ca with
      | none => rw [hka] at e; cases e
      | some d => rw [hka] at e; simp at e; exact h.rows.ownP d hka (by omega)

/-- Rows of one's own are read. -/
theorem RowsAt.prows {y : Lay} {W : World} {pr0 pr : Nat → Prop} {a : List (List Int)} (h : RowsAt y W pr0 a) (hp : ∀ b, ¬ pr0 b → b < W.heap.size → pr b) : PRows pr W (.slice y.ca a.length y.cc) a := by
  have hl : (rowsV y a).length = a.length := by simp [rowsV]
  have hel : ∀ i (hi : i < a.length), PRow pr W (.slice (y.ra i) a[i].length (y.rc i)) a[i] := by
    intro i hi
    by_cases h0 : 0 < a[i].length
    · obtain ⟨g, cur, q1, q2, q3, q4, q5, q6⟩ := h.row i hi h0
      refine .inr ⟨g, 0, y.rc i, fun k => iv (a[i].getD k 0), by rw [q1], q4, q5, hp g q2 (lt_of_heap q3), lt_of_heap q3, fun k hk => ?_⟩
      rw [Nat.zero_add, cells_cell q3, q6 k hk]
      simp [hk]
    · have h1 := h.caps i hi
      have hn : a[i] = [] := List.length_eq_zero_iff.1 (by omega)
      refine .inl ⟨hn, y.ra i, y.rc i, by rw [hn]; rfl, h1.2.1, h1.2.2⟩
  rcases h.own.cases with ⟨hv, h2⟩ | ⟨g, cap, hv, hg, hs, hc, hm, hcell, _⟩
  · have hn : a = [] := List.length_eq_zero_iff.1 (by rw [← hl, h2]; rfl)
    simp only [Value.slice.injEq] at hv
    exact .inl ⟨hn, none, 0, by rw [hv.1, hv.2.2, hn]; rfl, by simp [maxLen], fun _ => rfl⟩
  · simp only [Value.slice.injEq] at hv
    obtain ⟨h1, h2, h3⟩ := hv
    refine .inr ⟨g, 0, cap, fun k => (rowsV y a).getD k undef, by rw [h1, h3], by rw [← hl]; exact hc, hm, hp g (h.ownP _ h1) hs, hs, fun k hk => ?_⟩
    have hk' : k < (rowsV y a).length := by rw [hl]; exact hk
    have := hcell k hk'
    simp only [id] at this
    rw [Nat.zero_add, this]
    simp only [List.getD_eq_getElem?_getD, List.getElem?_eq_getElem hk', Option.getD_some, true_and]
    have e : (rowsV y a)[k] = .slice (y.ra k) a[k].length (y.rc k) := by simp [rowsV, hk]
    rw [e]; exact hel k hk

set_option maxRecDepth 100000 in
set_option maxHeartbeats 1000000 in
theorem copied_any {pr : Nat → Prop} {w : World} {v : Value} {a : List (List Int)} (h : PRows pr w v a) (h16 : a.length ≤ 16) (hc : ∀ l ∈ a, l.length ≤ 1024) :
    Calls Try.prog 47 #[v] w fun e w' => ∃ y : Lay, e = .returned (.slice y.ca a.length y.cc) ∧ RowsR y w w' a := by
  obtain ⟨av, cv, rfl, h1, h2⟩ := h.shape
  have H := Hd.mk h
  have HC := Hd.mk hc
  have HST : Hd (RowsR ⟨none, 0, none, 0, fun _ => none, fun _ => 0, fun _ => 0⟩ w w (a.take 0)) :=
    ⟨⟨OwnE.nil _ _ _ _, fun d hd => (by cases hd), fun i hi => (by simp at hi), fun i j d hi => (by simp at hi), fun i hi => (by simp at hi)⟩, Below.refl _ _⟩
  obtain ⟨n, hn⟩ : ∃ n, a.length = n := ⟨_, rfl⟩
  have HN := Hd.mk hn
  rw [hn] at h16 h1 ⊢
  clear h hc hn
  go_enter Try.func47, Try.ntmps47
  go_wp2_with fail
  go_loopw [3, 4] (fun u i W => ∃ k : Nat, k ≤ n ∧ i = .int .i64 k ∧ ∃ y, u = .slice y.ca k y.cc ∧ Hd (RowsR y w W (a.take k))) (fun _ i _ => n - (intOf i).toNat)
  case atStart => exact ⟨0, by omega, rfl, ⟨none, 0, none, 0, fun _ => none, fun _ => 0, fun _ => 0⟩, rfl, HST⟩
  case round =>
    obtain ⟨k, hk, rfl, y, rfl, HR⟩ := hrel
    by_cases hlt : k < n
    · have hka : k < a.length := by rw [HN.out]; exact hlt
      obtain ⟨b, off, vk, rfl, _, hb, cb, hel⟩ := (H.out.below HR.out.bel).at k hka
      obtain ⟨re, ce, rfl, hce1, hce2⟩ := hel.shape
      have hs := hel.src
      have hl1 := HC.out _ (List.getElem_mem hka)
      have hz : (a.take k).length = k := by simp; omega
      have hzs : a.take (k + 1) = a.take k ++ [a[k]] := List.take_succ_eq_append_getElem hka
      obtain ⟨l, hl⟩ : ∃ l, a[k] = l := ⟨_, rfl⟩
      rw [hl] at cb hs hl1 hzs hce1
      have hm := OwnE.made (fun n : Int => Value.int .i64 n) wr wr.heap.size 2 (Nat.le_refl _)
      have hB0 : Below wr.heap.size wr (wr.alloc (.cells #[] 2)) := (Below.refl _ _).alloc (Nat.le_refl _) _
      obtain ⟨v5, w5, hr5, ho5, hg5⟩ := append_i28 (w := wr.alloc (.cells #[] 2)) (base := wr.heap.size) (xs := []) (ys := l) hm (by simp) (hs.below hB0) (by simp; omega)
      rw [List.nil_append] at ho5
      obtain ⟨ra, c5, rfl⟩ := ho5.src.shape
      obtain ⟨_, hrow, hcap⟩ := AppI.row ho5
      have hB5 : Below wr.heap.size wr w5 := OwnE.grown hm hB0 (by simp) hg5
      obtain ⟨K5, cap5, W5, hr, y5, hy1, hy2, hnew⟩ := RowsR.row (X := w5.heap.size) (WX := w5.alloc (.cells #[.slice ra l.length c5] 28)) HR.out (by rw [hz]; omega) (hB5.alloc hB5.size _) (heap_alloc_new _ _) (fun h0 => by obtain ⟨g, cur, q1, q2, q3, q4⟩ := hrow h0; exact ⟨g, cur, q1, q2, alloc_keep q3, q4⟩) hcap
      rw [hz] at hr
      rw [← hzs] at hnew
      have HNEW := Hd.mk hnew
      have HY := Hd.mk (show (Value.slice (some ⟨K5, 0, none⟩) (k + 1) cap5) = .slice y5.ca (k + 1) y5.cc by rw [hy1, hy2])
      have i0 : (0 : Int) ≤ (k : Int) := by omega
      have i1 : (k : Int) < (n : Int) := by omega
      clear hka hel hs hz hzs hl hm hB0 ho5 hg5 hrow hcap hB5 hnew hy1 hy2 hl1
      go_wp2_with (at_builtin; first | (refine wpList_append_run rfl _ _ _ rfl rfl rfl hr5 ?_; clear hr5) | (refine wpList_append_run rfl _ _ _ rfl rfl rfl hr ?_; clear hr))
      go_roundw
      case rel => exact ⟨k + 1, by omega, by go_num, y5, HY.out, HNEW⟩
      case measure => simp [intOf] <;> omega
    · obtain rfl : k = n := by omega
      have hz : a.take k = a := List.take_of_length_le (by rw [HN.out]; exact Nat.le_refl _)
      rw [hz] at HR
      clear hz hlt
      go_wp2_with fail
      go_ret
      exact ⟨y, rfl, HR.out⟩
end Go.Proofs.Ytnhkadknibinfaa
