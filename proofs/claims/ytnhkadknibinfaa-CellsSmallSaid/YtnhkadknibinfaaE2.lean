/- The steps of a copy. -/
import Derived.Test.YtnhkadknibinfaaE1
namespace Go.Proofs.Ytnhkadknibinfaa
open Go.RowKit
set_option linter.unusedVariables false
set_option linter.unusedSimpArgs false

/-- A row of the call's own, as a memory's row. -/
theorem AppI.row {W : World} {base : Nat} {ra : Option Addr} {n c : Nat} {l : List Int} (h : AppI 2 W base (.slice ra n c) l) : n = l.length ∧
    (0 < l.length → ∃ g cur, ra = some ⟨g, 0, none⟩ ∧ base ≤ g ∧ W.heap[g]? = some (.cells cur 2 (0, 0)) ∧ l.length ≤ c ∧ c ≤ maxLen ∧ ∀ k (hk : k < l.length), cur[k]? = some (iv l[k])) ∧ (l.length ≤ c ∧ c ≤ maxLen ∧ (ra = none → c = 0)) := by
  obtain ⟨h1, h2⟩ := id h
  rcases h2 with ⟨hv, h0⟩ | ⟨g, cap, cur, hv, hg, hh, hc, hm, hs, ht⟩
  · simp only [Value.slice.injEq] at hv
    obtain ⟨rfl, rfl, rfl⟩ := hv
    refine ⟨h0.symm, fun hp => absurd hp (by omega), by omega, by simp [maxLen], fun _ => rfl⟩
  · simp only [Value.slice.injEq] at hv
    obtain ⟨rfl, rfl, rfl⟩ := hv
    have hc2 := OwnE.cases h
    refine ⟨rfl, fun hp => ⟨g, cur, rfl, hg, hh, hc, hm, fun k hk => ?_⟩, hc, hm, fun e => by cases e⟩
    have hcell := AppI.cell h k hk
    rw [cells_cell hh] at hcell
    exact hcell

/-- One more row. -/
theorem NewR.row {y : Lay} {w W WX : World} {M : Nat} {a : List (List Int)} (h : NewR y w W M a) (hlen : a.length ≤ 16) {l : List Int} {ra : Option Addr} {c X : Nat} (hBX : Below W.heap.size W WX) (hX1 : WX.heap[X]? = some (.cells #[.slice ra l.length c] 28 (0, 0)))
    (hrow : 0 < l.length → ∃ g cur, ra = some ⟨g, 0, none⟩ ∧ W.heap.size ≤ g ∧ WX.heap[g]? = some (.cells cur 2 (0, 0)) ∧ l.length ≤ c ∧ c ≤ maxLen ∧ ∀ k (hk : k < l.length), cur[k]? = some (iv l[k])) (hcap : l.length ≤ c ∧ c ≤ maxLen ∧ (ra = none → c = 0)) :
    ∃ K cap W', (Builtin.append_ #[60, 60] 60 #[.slice y.ca a.length y.cc, .slice (some ⟨X, 0, none⟩) 1 1]).run Try.prog WX = .ok (.slice (some ⟨K, 0, none⟩) (a.length + 1) cap) W' ∧
      W'.cell? ⟨M, 1, none⟩ = some (.slice y.ca a.length y.cc) ∧ W'.frozen? ⟨M, 1, none⟩ = false ∧ ∃ y', NewR y' w (W'.setCell ⟨M, 1, none⟩ (.slice (some ⟨K, 0, none⟩) (a.length + 1) cap)) M (a ++ [l]) := by
  have hEX := Ext.of hBX
  have hown : OwnE id WX 0 28 (.slice y.ca a.length y.cc) (rowsV y a) := h.rows.own.same fun g cur fr hg _ => (hEX _ _ hg).trans hg.symm
  have hrl : (rowsV y a).length = a.length := by simp [rowsV]
  obtain ⟨K, cap, W', hr, hO, hg, hK⟩ := push_row hown (by rw [hrl]; omega) (X := X) (by rw [cells_cell hX1]; rfl) 60
  rw [hrl] at hr hO
  have hkeep : ∀ (b : Nat) (o : Obj), WX.heap[b]? = some o → (∀ c f, o ≠ Obj.cells c 28 f) → W'.heap[b]? = some o := by
    intro b o hb hne
    rw [hg.block b (Array.getElem?_eq_some_iff.1 hb).1 ?_, hb]
    intro e
    obtain ⟨cur, hc⟩ := hown.ty e.symm
    rw [hb] at hc
    cases hc
    exact hne _ _ rfl
  have hMW := hkeep M _ (hEX _ _ h.bM) (fun c f e => by simp at e)
  refine ⟨K, cap, W', hr, by rw [cells_cell hMW]; rfl, cells_free hMW 1, ⟨some ⟨K, 0, none⟩, cap, y.ka, y.kc, fun i => if i < a.length then y.ra i else ra, fun i => if i < a.length then y.rc i else c, y.mb⟩, ?_⟩
  have hM3 := cells_set (o := 1) hMW (.slice (some ⟨K, 0, none⟩) (a.length + 1) cap)
  obtain ⟨w3, hw3⟩ : ∃ X, W'.setCell ⟨M, 1, none⟩ (.slice (some ⟨K, 0, none⟩) (a.length + 1) cap) = X := ⟨_, rfl⟩
  have h3 : ∀ b : Nat, b ≠ M → w3.heap[b]? = W'.heap[b]? := fun b hb => by rw [← hw3]; exact setCell_other hb
  have hs3 : w3.heap.size = W'.heap.size ∧ w3.os = W'.os ∧ w3.tape = W'.tape ∧ w3.output = W'.output := by rw [← hw3]; exact ⟨by simp [World.setCell], rfl, rfl, rfl⟩
  rw [hw3] at hM3 ⊢
  have hnM : ∀ (b : Nat) (o : Obj), W'.heap[b]? = some o → (∀ c f, o ≠ Obj.cells c 63 f) → w3.heap[b]? = some o := by
    intro b o hb hne
    rw [h3 b (fun e => by subst e; rw [hMW] at hb; cases hb; exact hne _ _ rfl)]
    exact hb
  have hpK : ¬ K < w.heap.size := by
    rcases hK with hK | hK
    · have : ∃ d, y.ca = some d ∧ d.block = K := by
        unfold Value.ownBlock at hK
        cases hka : y.ca with
        | none => rw [hka] at hK; cases hK
        | some d => rw [hka] at hK; simp at hK; exact ⟨d, rfl, hK⟩
      obtain ⟨d, hd, rfl⟩ := this
      exact h.rows.ownP d hd
    · have := h.bel.size; have := hBX.size; omega
  have hal : (a ++ [l]).length = a.length + 1 := by simp
  have hget : ∀ i (hi : i < (a ++ [l]).length) (hi' : i < a.length), (a ++ [l])[i] = a[i] := fun i hi hi' => List.getElem_append_left hi'
  have hlast : ∀ i (hi : i < (a ++ [l]).length), ¬ i < a.length → (a ++ [l])[i] = l := by
    intro i hi hn
    rw [List.getElem_append_right (by omega)]
    simp
  refine ⟨h.ka, h.kc, ?_, h.ge, ⟨?_, fun d hd => by cases hd; exact hpK, ?_, ?_, ?_⟩, ?_⟩
  · rw [hM3, hal]; simp
  · have hrv : rowsV ⟨some ⟨K, 0, none⟩, cap, y.ka, y.kc, fun i => if i < a.length then y.ra i else ra, fun i => if i < a.length then y.rc i else c, y.mb⟩ (a ++ [l]) = rowsV y a ++ [.slice ra l.length c] := by
      unfold rowsV
      rw [hal, List.range_succ, List.map_append]
      refine congr (congrArg HAppend.hAppend ?_) ?_
      · refine List.map_congr_left fun i hi => ?_
        have hi' := List.mem_range.1 hi
        simp [hi', List.getElem?_append_left hi']
      · simp
    rw [hrv, hal]
    exact hO.same fun g cur fr hgg _ => (hnM _ _ hgg (fun c f e => by simp at e)).trans hgg.symm
  · intro i hi h0
    by_cases hia : i < a.length
    · rw [hget i hi hia] at h0
      obtain ⟨g, cur, q1, q2, q3, q4, q5, q6⟩ := h.rows.row i hia h0
      refine ⟨g, cur, by simp [hia, q1], q2, hnM _ _ (hkeep _ _ (hEX _ _ q3) (fun c f e => by simp at e)) (fun c f e => by simp at e), ?_, by simpa [hia] using q5, ?_⟩
      · simp only [hget i hi hia, hia, if_true]; exact q4
      · intro k hk
        simp only [hget i hi hia] at hk ⊢
        exact q6 k hk
    · rw [hlast i hi hia] at h0
      obtain ⟨g, cur, q1, q2, q3, q4, q5, q6⟩ := hrow h0
      refine ⟨g, cur, by simp [hia, q1], by have := h.bel.size; omega, hnM _ _ (hkeep _ _ q3 (fun c f e => by simp at e)) (fun c f e => by simp at e), ?_, ?_, ?_⟩
      · simp only [hlast i hi hia, hia, if_false]; exact q4
      · simp only [hia, if_false]; exact q5
      · intro k hk
        simp only [hlast i hi hia] at hk ⊢
        exact q6 k hk
  · intro i j d hi hj h0 h1 hd1 hd2
    have lt : ∀ i (hi : i < a.length), 0 < a[i].length → y.ra i = some d → d.block < W.heap.size := by
      intro i hi h0 hd
      obtain ⟨g, cur, q1, q2, q3, _⟩ := h.rows.row i hi h0
      rw [q1] at hd; cases hd
      exact (Array.getElem?_eq_some_iff.1 q3).1
    simp only at hd1 hd2
    by_cases hia : i < a.length <;> by_cases hja : j < a.length
    · rw [if_pos hia] at hd1
      rw [if_pos hja] at hd2
      exact h.rows.apart i j d hia hja (by rw [← hget i hi hia]; exact h0) (by rw [← hget j hj hja]; exact h1) hd1 hd2
    · rw [if_pos hia] at hd1
      rw [if_neg hja] at hd2
      have h5 := lt i hia (by rw [← hget i hi hia]; exact h0) hd1
      obtain ⟨g, cur, q1, q2, _⟩ := hrow (by rw [← hlast j hj hja]; exact h1)
      rw [q1] at hd2; cases hd2
      simp at h5; omega
    · rw [if_neg hia] at hd1
      rw [if_pos hja] at hd2
      have h5 := lt j hja (by rw [← hget j hj hja]; exact h1) hd2
      obtain ⟨g, cur, q1, q2, _⟩ := hrow (by rw [← hlast i hi hia]; exact h0)
      rw [q1] at hd1; cases hd1
      simp at h5; omega
    · rw [hal] at hi hj; omega
  · intro i hi
    by_cases hia : i < a.length
    · simp only [hget i hi hia, hia, if_true]; exact h.rows.caps i hia
    · simp only [hlast i hi hia, hia, if_false]
      exact hcap
  · have hgs := hg.size
    have h1 := hBX.size
    refine h.bel.trans ⟨?_, ?_, ?_, by omega, ?_⟩
    · rw [hs3.2.1, hg.os, hBX.os]
    · rw [hs3.2.2.1, hg.tape, hBX.tape]
    · rw [hs3.2.2.2, hg.output, hBX.output]
    · intro k hk
      have hsz := h.bel.size
      rw [h3 k (by have := h.ge; omega), hg.block k (by omega) ?_, hBX.block k (by omega)]
      intro e
      unfold Value.ownBlock at e
      cases hka : y.ca with
      | none => rw [hka] at e; cases e
      | some d => rw [hka] at e; simp at e; exact h.rows.ownP d hka (by omega)

/-- A memory whose rows are copied, and j of its marks. -/
structure CopyR (y : Lay) (w W : World) (M : Nat) (st : St) (j : Nat) : Prop where
  bM : W.heap[M]? = some (.cells #[.bool true, .slice y.ca st.now.length y.cc, .slice y.ka j y.kc] 63 (0, 0))
  ge : w.heap.size ≤ M
  rows : RowsAt y W (fun k => k < w.heap.size) st.now
  own : OwnE id W 0 78 (.slice y.ka j y.kc) (marksV y j)
  ownP : ∀ d, y.ka = some d → ¬ d.block < w.heap.size
  maps : ∀ i, i < j → ¬ y.mb i < w.heap.size ∧ ∃ L, MapL Try.prog 73 ik iv W (y.mb i) L ∧ ∀ p, lk L p = diffP (snapAt st i) (snapAt st (i + 1)) p
  apart : ∀ i k, i < j → k < j → y.mb i = y.mb k → i = k
  bel : Below w.heap.size w W

theorem NewR.copy {y : Lay} {w W : World} {M : Nat} {st : St} (h : NewR y w W M st.now) : CopyR y w W M st 0 :=
  ⟨by rw [h.bM, h.ka, h.kc], h.ge, h.rows, by rw [h.ka, h.kc]; exact OwnE.nil _ _ _ _, fun d hd => (by rw [h.ka] at hd; cases hd), fun i hi => (by omega), fun i k hi => (by omega), h.bel⟩
theorem CopyR.mem {y : Lay} {w W : World} {M : Nat} {st : St} (hok : StOk st) (h : CopyR y w W M st st.marks.length) : MemL y W (fun k => k < w.heap.size) M st :=
  ⟨hok, fun k hk => Nat.lt_of_lt_of_le hk h.bel.size, h.bM, by have := h.ge; omega, h.rows, ⟨h.own, h.ownP, h.maps, h.apart⟩⟩

/-- One more mark. -/
theorem CopyR.step {y : Lay} {w W WX : World} {M : Nat} {st : St} {j : Nat} (h : CopyR y w W M st j) (hj : j ≤ 63) {X B : Nat} (hBX : Below W.heap.size W WX) (hX1 : WX.cell? ⟨X, 0, none⟩ = some (.map (some B))) (hB : W.heap.size ≤ B)
    {L : List ((Int × Int) × Int)} (hL : MapL Try.prog 73 ik iv WX B L) (hd : ∀ p, lk L p = diffP (snapAt st j) (snapAt st (j + 1)) p) :
    ∃ K cap W', (Builtin.append_ #[61, 61] 61 #[.slice y.ka j y.kc, .slice (some ⟨X, 0, none⟩) 1 1]).run Try.prog WX = .ok (.slice (some ⟨K, 0, none⟩) (j + 1) cap) W' ∧
      W'.cell? ⟨M, 2, none⟩ = some (.slice y.ka j y.kc) ∧ W'.frozen? ⟨M, 2, none⟩ = false ∧ ∃ y', CopyR y' w (W'.setCell ⟨M, 2, none⟩ (.slice (some ⟨K, 0, none⟩) (j + 1) cap)) M st (j + 1) := by
  have hEX := Ext.of hBX
  have hmvl : (marksV y j).length = j := by simp [marksV]
  have hown : OwnE id WX 0 78 (.slice y.ka j y.kc) (marksV y j) := h.own.same fun g cur fr hg _ => (hEX _ _ hg).trans hg.symm
  obtain ⟨K, cap, W', hr, hO, hg, hK⟩ := push_mark hown (by rw [hmvl]; omega) hX1 61
  rw [hmvl] at hr hO
  have hkeep : ∀ (b : Nat) (o : Obj), WX.heap[b]? = some o → (∀ c f, o ≠ Obj.cells c 78 f) → W'.heap[b]? = some o := by
    intro b o hb hne
    rw [hg.block b (Array.getElem?_eq_some_iff.1 hb).1 ?_, hb]
    intro e
    obtain ⟨cur, hc⟩ := hown.ty e.symm
    rw [hb] at hc
    cases hc
    exact hne _ _ rfl
  have hMW := hkeep M _ (hEX _ _ h.bM) (fun c f e => by simp at e)
  have hM3 := cells_set (o := 2) hMW (.slice (some ⟨K, 0, none⟩) (j + 1) cap)
  refine ⟨K, cap, W', hr, by rw [cells_cell hMW]; rfl, cells_free hMW 2, ⟨y.ca, y.cc, some ⟨K, 0, none⟩, cap, y.ra, y.rc, fun i => if i < j then y.mb i else B⟩, ?_⟩
  obtain ⟨w3, hw3⟩ : ∃ X, W'.setCell ⟨M, 2, none⟩ (.slice (some ⟨K, 0, none⟩) (j + 1) cap) = X := ⟨_, rfl⟩
  have h3 : ∀ b : Nat, b ≠ M → w3.heap[b]? = W'.heap[b]? := fun b hb => by rw [← hw3]; exact setCell_other hb
  have hs3 : w3.heap.size = W'.heap.size ∧ w3.os = W'.os ∧ w3.tape = W'.tape ∧ w3.output = W'.output := by rw [← hw3]; exact ⟨by simp [World.setCell], rfl, rfl, rfl⟩
  rw [hw3] at hM3 ⊢
  have hnM : ∀ (b : Nat) (o : Obj), W'.heap[b]? = some o → (∀ c f, o ≠ Obj.cells c 63 f) → w3.heap[b]? = some o := by
    intro b o hb hne
    rw [h3 b (fun e => by subst e; rw [hMW] at hb; cases hb; exact hne _ _ rfl)]
    exact hb
  have hpK : ¬ K < w.heap.size := by
    rcases hK with hK | hK
    · have : ∃ d, y.ka = some d ∧ d.block = K := by
        unfold Value.ownBlock at hK
        cases hka : y.ka with
        | none => rw [hka] at hK; cases hK
        | some d => rw [hka] at hK; simp at hK; exact ⟨d, rfl, hK⟩
      obtain ⟨d, hd, rfl⟩ := this
      exact h.ownP d hd
    · have := h.bel.size; have := hBX.size; omega
  refine ⟨by rw [hM3]; simp, h.ge, ?_, ?_, fun d hd => by cases hd; exact hpK, ?_, ?_, ?_⟩
  · have := h.rows.keep (w' := w3) (fun b cs fr hb => (hnM _ _ (hkeep _ _ (hEX _ _ hb) (fun c f e => by simp at e)) (fun c f e => by simp at e)).trans hb.symm) (fun b cs fr hb => (hnM _ _ (hkeep _ _ (hEX _ _ hb) (fun c f e => by simp at e)) (fun c f e => by simp at e)).trans hb.symm)
    exact ⟨this.own, this.ownP, this.row, this.apart, this.caps⟩
  · have hmv : marksV ⟨y.ca, y.cc, some ⟨K, 0, none⟩, cap, y.ra, y.rc, fun i => if i < j then y.mb i else B⟩ (j + 1) = marksV y j ++ [.map (some B)] := by
      unfold marksV
      rw [List.range_succ, List.map_append]
      refine congr (congrArg HAppend.hAppend ?_) ?_
      · refine List.map_congr_left fun i hi => ?_
        simp [List.mem_range.1 hi]
      · simp
    rw [hmv]
    exact hO.same fun g cur fr hgg _ => (hnM _ _ hgg (fun c f e => by simp at e)).trans hgg.symm
  · intro i hi
    by_cases hij : i < j
    · obtain ⟨hp, L', hL', hd'⟩ := h.maps i hij
      obtain ⟨es, clk, hb, _⟩ := id hL'
      simp only [if_pos hij]
      exact ⟨hp, L', hL'.same ((hnM _ _ (hkeep _ _ (hEX _ _ hb) (fun c f e => by cases e)) (fun c f e => by cases e)).trans hb.symm), hd'⟩
    · obtain rfl : i = j := by omega
      obtain ⟨es, clk, hb, _⟩ := id hL
      simp only [if_neg hij]
      exact ⟨by have := h.bel.size; omega, L, hL.same ((hnM _ _ (hkeep _ _ hb (fun c f e => by cases e)) (fun c f e => by cases e)).trans hb.symm), hd⟩
  · intro i k hi hk e
    have lt : ∀ q, q < j → y.mb q < W.heap.size := fun q hq => by
      obtain ⟨_, L', hL', _⟩ := h.maps q hq
      exact hL'.lt
    simp only at e
    by_cases h1 : i < j <;> by_cases h2 : k < j
    · rw [if_pos h1, if_pos h2] at e; exact h.apart i k h1 h2 e
    · rw [if_pos h1, if_neg h2] at e; have := lt i h1; omega
    · rw [if_neg h1, if_pos h2] at e; have := lt k h2; omega
    · omega
  · have hgs := hg.size
    have h1 := hBX.size
    refine h.bel.trans ⟨?_, ?_, ?_, by omega, ?_⟩
    · rw [hs3.2.1, hg.os, hBX.os]
    · rw [hs3.2.2.1, hg.tape, hBX.tape]
    · rw [hs3.2.2.2, hg.output, hBX.output]
    · intro k hk
      have hsz := h.bel.size
      rw [h3 k (by have := h.ge; omega), hg.block k (by omega) ?_, hBX.block k (by omega)]
      intro e
      unfold Value.ownBlock at e
      cases hka : y.ka with
      | none => rw [hka] at e; cases e
      | some d => rw [hka] at e; simp at e; exact h.ownP d hka (by omega)
end Go.Proofs.Ytnhkadknibinfaa
