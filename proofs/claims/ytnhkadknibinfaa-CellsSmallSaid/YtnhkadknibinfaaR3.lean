/- The reference's New, Load, Right; lists lent. -/
import Derived.Test.YtnhkadknibinfaaR2
import Derived.Deep.RegionLaw
import Derived.Lib.MinMax
namespace Go.Proofs.Ytnhkadknibinfaa
open Go.RowKit
set_option linter.unusedVariables false
set_option linter.unusedSimpArgs false

/-- Rows in the box of a reference's memory. -/
structure NewQ (y : Lay) (w W : World) (M : Nat) (a : List (List Int)) : Prop where
  ka : y.ka = none
  kc : y.kc = 0
  bM : W.heap[M]? = some (.cells #[.slice y.ca a.length y.cc, .slice none 0 0] 86 (0, 0))
  ge : w.heap.size ≤ M
  rows : RowsAt y W (fun k => k < w.heap.size) a
  bel : Below w.heap.size w W
/-- One more row. -/
theorem NewQ.row {y : Lay} {w W WX : World} {M : Nat} {a : List (List Int)} (h : NewQ y w W M a) (hlen : a.length ≤ 16) {l : List Int} {ra : Option Addr} {c X : Nat} (hBX : Below W.heap.size W WX) (hX1 : WX.heap[X]? = some (.cells #[.slice ra l.length c] 28 (0, 0)))
    (hrow : 0 < l.length → ∃ g cur, ra = some ⟨g, 0, none⟩ ∧ W.heap.size ≤ g ∧ WX.heap[g]? = some (.cells cur 2 (0, 0)) ∧ l.length ≤ c ∧ c ≤ maxLen ∧ ∀ k (hk : k < l.length), cur[k]? = some (iv l[k])) (hcap : l.length ≤ c ∧ c ≤ maxLen ∧ (ra = none → c = 0)) :
    ∃ K cap W', (Builtin.append_ #[60, 60] 60 #[.slice y.ca a.length y.cc, .slice (some ⟨X, 0, none⟩) 1 1]).run Try.prog WX = .ok (.slice (some ⟨K, 0, none⟩) (a.length + 1) cap) W' ∧
      W'.cell? ⟨M, 0, none⟩ = some (.slice y.ca a.length y.cc) ∧ W'.frozen? ⟨M, 0, none⟩ = false ∧ ∃ y', NewQ y' w (W'.setCell ⟨M, 0, none⟩ (.slice (some ⟨K, 0, none⟩) (a.length + 1) cap)) M (a ++ [l]) := by
  have hEX := Ext.of hBX
  have hown : OwnE id WX 0 28 (.slice y.ca a.length y.cc) (rowsV y a) := h.rows.own.same fun g cur fr hg _ => (hEX _ _ hg).trans hg.symm
  have hrl : (rowsV y a).length = a.length := by simp [rowsV]
  obtain ⟨K, cap, W', hr, hO, hg, hK⟩ := push_row hown (by rw [hrl]; omega) (X := X) (by rw [cells_cell hX1]; rfl) 60
  rw [hrl] at hr hO
  have hkeep : ∀ (b : Nat) (o : Obj), WX.heap[b]? = some o → (∀ c f, o ≠ Obj.cells c 28 f) → W'.heap[b]? = some o := by
    intro b o hb hne
    rw [hg.block b (Array.getElem?_eq_some_iff.1 hb).1 ?_, hb]
    intro e
    obtain ⟨cur, hc⟩ := hown.ty e.symm
    rw [hb] at hc
    cases hc
    exact hne _ _ rfl
  have hMW := hkeep M _ (hEX _ _ h.bM) (fun c f e => by simp at e)
  refine ⟨K, cap, W', hr, by rw [cells_cell hMW]; rfl, cells_free hMW 0, ⟨some ⟨K, 0, none⟩, cap, y.ka, y.kc, fun i => if i < a.length then y.ra i else ra, fun i => if i < a.length then y.rc i else c, y.mb⟩, ?_⟩
  have hM3 := cells_set (o := 0) hMW (.slice (some ⟨K, 0, none⟩) (a.length + 1) cap)
  obtain ⟨w3, hw3⟩ : ∃ X, W'.setCell ⟨M, 0, none⟩ (.slice (some ⟨K, 0, none⟩) (a.length + 1) cap) = X := ⟨_, rfl⟩
  have h3 : ∀ b : Nat, b ≠ M → w3.heap[b]? = W'.heap[b]? := fun b hb => by rw [← hw3]; exact setCell_other hb
  have hs3 : w3.heap.size = W'.heap.size ∧ w3.os = W'.os ∧ w3.tape = W'.tape ∧ w3.output = W'.output := by rw [← hw3]; exact ⟨by simp [World.setCell], rfl, rfl, rfl⟩
  rw [hw3] at hM3 ⊢
  have hnM : ∀ (b : Nat) (o : Obj), W'.heap[b]? = some o → (∀ c f, o ≠ Obj.cells c 86 f) → w3.heap[b]? = some o := by
    intro b o hb hne
    rw [h3 b (fun e => by subst e; rw [hMW] at hb; cases hb; exact hne _ _ rfl)]
    exact hb
  have hpK : ¬ K < w.heap.size := by
    rcases hK with hK | hK
    · have : ∃ d, y.ca = some d ∧ d.block = K := by
        unfold Value.ownBlock at hK
        cases hka : y.ca with
        | none => rw [hka] at hK; cases hK
        | some d => rw [hka] at hK; simp at hK; exact ⟨d, rfl, hK⟩
      obtain ⟨d, hd, rfl⟩ := this
      exact h.rows.ownP d hd
    · have := h.bel.size; have := hBX.size; omega
  have hal : (a ++ [l]).length = a.length + 1 := by simp
  have hget : ∀ i (hi : i < (a ++ [l]).length) (hi' : i < a.length), (a ++ [l])[i] = a[i] := fun i hi hi' => List.getElem_append_left hi'
  have hlast : ∀ i (hi : i < (a ++ [l]).length), ¬ i < a.length → (a ++ [l])[i] = l := by
    intro i hi hn
    rw [List.getElem_append_right (by omega)]
    simp
  refine ⟨h.ka, h.kc, ?_, h.ge, ⟨?_, fun d hd => by cases hd; exact hpK, ?_, ?_, ?_⟩, ?_⟩
  · rw [hM3, hal]; simp
  · have hrv : rowsV ⟨some ⟨K, 0, none⟩, cap, y.ka, y.kc, fun i => if i < a.length then y.ra i else ra, fun i => if i < a.length then y.rc i else c, y.mb⟩ (a ++ [l]) = rowsV y a ++ [.slice ra l.length c] := by
      unfold rowsV
      rw [hal, List.range_succ, List.map_append]
      refine congr (congrArg HAppend.hAppend ?_) ?_
      · refine List.map_congr_left fun i hi => ?_
        have hi' := List.mem_range.1 hi
        simp [hi', List.getElem?_append_left hi']
      · simp
    rw [hrv, hal]
    exact hO.same fun g cur fr hgg _ => (hnM _ _ hgg (fun c f e => by simp at e)).trans hgg.symm
  · intro i hi h0
    by_cases hia : i < a.length
    · rw [hget i hi hia] at h0
      obtain ⟨g, cur, q1, q2, q3, q4, q5, q6⟩ := h.rows.row i hia h0
      refine ⟨g, cur, by simp [hia, q1], q2, hnM _ _ (hkeep _ _ (hEX _ _ q3) (fun c f e => by simp at e)) (fun c f e => by simp at e), ?_, by simpa [hia] using q5, ?_⟩
      · simp only [hget i hi hia, hia, if_true]; exact q4
      · intro k hk
        simp only [hget i hi hia] at hk ⊢
        exact q6 k hk
    · rw [hlast i hi hia] at h0
      obtain ⟨g, cur, q1, q2, q3, q4, q5, q6⟩ := hrow h0
      refine ⟨g, cur, by simp [hia, q1], by have := h.bel.size; omega, hnM _ _ (hkeep _ _ q3 (fun c f e => by simp at e)) (fun c f e => by simp at e), ?_, ?_, ?_⟩
      · simp only [hlast i hi hia, hia, if_false]; exact q4
      · simp only [hia, if_false]; exact q5
      · intro k hk
        simp only [hlast i hi hia] at hk ⊢
        exact q6 k hk
  · intro i j d hi hj h0 h1 hd1 hd2
    have lt : ∀ i (hi : i < a.length), 0 < a[i].length → y.ra i = some d → d.block < W.heap.size := by
      intro i hi h0 hd
      obtain ⟨g, cur, q1, q2, q3, _⟩ := h.rows.row i hi h0
      rw [q1] at hd; cases hd
      exact (Array.getElem?_eq_some_iff.1 q3).1
    simp only at hd1 hd2
    by_cases hia : i < a.length <;> by_cases hja : j < a.length
    · rw [if_pos hia] at hd1
      rw [if_pos hja] at hd2
      exact h.rows.apart i j d hia hja (by rw [← hget i hi hia]; exact h0) (by rw [← hget j hj hja]; exact h1) hd1 hd2
    · rw [if_pos hia] at hd1
      rw [if_neg hja] at hd2
      have h5 := lt i hia (by rw [← hget i hi hia]; exact h0) hd1
      obtain ⟨g, cur, q1, q2, _⟩ := hrow (by rw [← hlast j hj hja]; exact h1)
      rw [q1] at hd2; cases hd2
      simp at h5; omega
    · rw [if_neg hia] at hd1
      rw [if_pos hja] at hd2
      have h5 := lt j hja (by rw [← hget j hj hja]; exact h1) hd2
      obtain ⟨g, cur, q1, q2, _⟩ := hrow (by rw [← hlast i hi hia]; exact h0)
      rw [q1] at hd1; cases hd1
      simp at h5; omega
    · rw [hal] at hi hj; omega
  · intro i hi
    by_cases hia : i < a.length
    · simp only [hget i hi hia, hia, if_true]; exact h.rows.caps i hia
    · simp only [hlast i hi hia, hia, if_false]
      exact hcap
  · have hgs := hg.size
    have h1 := hBX.size
    refine h.bel.trans ⟨?_, ?_, ?_, by omega, ?_⟩
    · rw [hs3.2.1, hg.os, hBX.os]
    · rw [hs3.2.2.1, hg.tape, hBX.tape]
    · rw [hs3.2.2.2, hg.output, hBX.output]
    · intro k hk
      have hsz := h.bel.size
      rw [h3 k (by have := h.ge; omega), hg.block k (by omega) ?_, hBX.block k (by omega)]
      intro e
      unfold Value.ownBlock at e
      cases hka : y.ca with
      | none => rw [hka] at e; cases e
      | some d => rw [hka] at e; simp at e; exact h.rows.ownP d hka (by omega)


set_option maxRecDepth 100000 in
set_option maxHeartbeats 1000000 in
theorem rnew_any (v : Value) (p : List Int) (w : World) (h : SrcI w v p) (h16 : p.length ≤ 16) (hm : ∀ n ∈ p, 0 ≤ n ∧ n ≤ 1024) :
    Calls Try.prog 38 #[v] w fun e w' => ∃ v1, e = .returned (.agg #[v1, .slice none 0 0]) ∧ (∀ pr : Nat → Prop, RefAt (grow pr w w') w' v1 (.slice none 0 0) ⟨zeros p, []⟩) ∧ Below w.heap.size w w' := by
  obtain ⟨a, c, rfl⟩ := h.shape
  have H := Hd.mk h
  have HMEM := Hd.mk hm
  have hb := h.small
  obtain ⟨wA, hA⟩ : ∃ W, w.alloc (.cells #[.slice none 0 0, .slice none 0 0] 86) = W := ⟨_, rfl⟩
  have hBA : Below w.heap.size w wA := by rw [← hA]; exact (Below.refl _ _).alloc (Nat.le_refl _) _
  have hFA : wA.heap[w.heap.size]? = some (.cells #[.slice none 0 0, .slice none 0 0] 86 (0, 0)) := by rw [← hA]; exact heap_alloc_new _ _
  have hSA : wA.heap.size = w.heap.size + 1 := by rw [← hA]; simp
  obtain ⟨G, hG⟩ : ∃ g, wA.heap.size = g := ⟨_, rfl⟩
  have hG2 : w.heap.size + 1 = G := by omega
  have HST : Hd (∃ y, NewQ y wA (wA.alloc (.cells #[.slice none 0 0, .slice none 0 0] 86)) G (zeros (p.take 0))) :=
    ⟨⟨⟨none, 0, none, 0, fun _ => none, fun _ => 0, fun _ => 0⟩, rfl, rfl, by rw [← hG]; exact heap_alloc_new _ _, by omega, ⟨OwnE.nil _ _ _ _, fun d hd => (by cases hd), fun i hi => (by simp [zeros] at hi), fun i j d hi => (by simp [zeros] at hi), fun i hi => (by simp [zeros] at hi)⟩, (Below.refl _ _).alloc (Nat.le_refl _) _⟩⟩
  have HBA := Hd.mk hBA
  have HFA := Hd.mk hFA
  have HSA : Hd (w.heap.size < wA.heap.size) := ⟨by omega⟩
  obtain ⟨n, hn⟩ : ∃ n, p.length = n := ⟨_, rfl⟩
  have HN := Hd.mk hn
  rw [hn] at hb h16 ⊢
  clear h hm hn hBA hFA hSA
  go_enter Try.func38, Try.ntmps38
  go_wp2_with fail

  clear hA hG2 hG
  go_loopw [4] (fun i W => ∃ k : Nat, k ≤ n ∧ i = .int .i64 k ∧ Hd (∃ y, NewQ y wA W G (zeros (p.take k)))) (fun i _ => n - (intOf i).toNat)
  case atStart => exact ⟨0, by omega, rfl, HST⟩
  case round =>
    obtain ⟨k, hk, rfl, HR⟩ := hrel
    by_cases hlt : k < n
    · have hkp : k < p.length := by rw [HN.out]; exact hlt
      obtain ⟨y, hy⟩ := HR.out
      have hs := (H.out.below HBA.out).below hy.bel
      rw [HN.out] at hs
      obtain ⟨b, off, rfl, hb2, hc⟩ := hs.at k hkp
      obtain ⟨q0, q1⟩ := HMEM.out _ (List.getElem_mem hkp)
      obtain ⟨q, hq⟩ : ∃ q : Nat, p[k] = (q : Int) := ⟨p[k].toNat, by omega⟩
      rw [hq] at hc q0 q1
      have hz : (zeros (p.take k)).length = k := by simp [zeros]; omega
      have c1 := cells_cell hy.bM 0
      have f1 := cells_free hy.bM 0
      have lM : G < wr.heap.size := World.block_lt_of_cell? wr _ c1
      simp only [List.getElem?_toArray, List.getElem?_cons_zero, hz] at c1
      have hmk : ∀ W : World, (Instr.makeSlice 28 (.int .i64 (q : Int)) (.int .i64 (q : Int))).run Try.prog W = .ok (.slice (some ⟨W.heap.size, 0, none⟩) q q) (W.alloc (.cells (Zc q) 2)) := fun W => make28 W q (by omega)
      have i0 : (0 : Int) ≤ (k : Int) := by omega
      have i1 : (k : Int) < (n : Int) := by omega
      have hX0 : ((wr.alloc (.cells (Zc q) 2)).alloc (.cells #[.slice (some ⟨wr.heap.size, 0, none⟩) q q] 28)).drew.heap[wr.heap.size]? = some (.cells (Zc q) 2 (0, 0)) := by
        show ((wr.alloc (.cells (Zc q) 2)).alloc (.cells #[.slice (some ⟨wr.heap.size, 0, none⟩) q q] 28)).heap[wr.heap.size]? = _
        rw [heap_alloc_old _ _ (by simp), heap_alloc_new]
      have hX1 : ((wr.alloc (.cells (Zc q) 2)).alloc (.cells #[.slice (some ⟨wr.heap.size, 0, none⟩) q q] 28)).drew.heap[wr.heap.size + 1]? = some (.cells #[.slice (some ⟨wr.heap.size, 0, none⟩) (List.replicate q (0 : Int)).length q] 28 (0, 0)) := by
        have := heap_alloc_new (wr.alloc (.cells (Zc q) 2)) (.cells #[.slice (some ⟨wr.heap.size, 0, none⟩) q q] 28)
        simp only [World.size_alloc] at this
        rw [List.length_replicate]
        exact this
      have hBX : Below wr.heap.size wr ((wr.alloc (.cells (Zc q) 2)).alloc (.cells #[.slice (some ⟨wr.heap.size, 0, none⟩) q q] 28)).drew := (((Below.refl wr.heap.size wr).alloc (Nat.le_refl _) _).alloc (by simp) _).drew
      obtain ⟨K, cap, W', hr, cM, fM, hnew⟩ := hy.row (l := List.replicate q 0) (by rw [hz]; omega) hBX hX1 (fun _ => ⟨wr.heap.size, Zc q, rfl, Nat.le_refl _, hX0, by simp, by simp only [maxLen]; omega, fun j hj => by
        rw [List.length_replicate] at hj
        rw [Zc_get q j hj, List.getElem_replicate]; rfl⟩) ⟨by simp, by simp only [maxLen]; omega, fun e => by cases e⟩
      have hzs : zeros (p.take (k + 1)) = zeros (p.take k) ++ [List.replicate q 0] := by
        unfold zeros
        rw [List.take_succ_eq_append_getElem hkp, List.map_append, List.map_cons, List.map_nil, hq, Int.toNat_natCast]
      rw [← hzs, hz] at hnew
      rw [hz] at hr cM
      have HNEW := Hd.mk hnew
      clear hnew hzs hy hs hz HR hX0 hX1 hBX
      go_upto_region 5 with fail
      go_region_law (refine step_append_run rfl _ _ _ rfl rfl rfl hr ?_)
      all_goals (go_wp2_with fail)
      all_goals go_roundw
      all_goals first | exact ⟨k + 1, by omega, by go_num, HNEW⟩ | (simp [intOf]; omega)
    · obtain rfl : k = n := by omega
      obtain ⟨y, hy⟩ := HR.out
      have hz : zeros (p.take k) = zeros p := by rw [List.take_of_length_le (by rw [HN.out]; exact Nat.le_refl _)]
      have hzl : (zeros p).length = k := by simp [zeros, HN.out]
      rw [hz] at hy
      have c0 := cells_cell hy.bM 0
      have c1 := cells_cell hy.bM 1
      have hF := (hy.bel.block _ HSA.out).trans HFA.out
      have e0 := cells_cell hF 0
      have e1 := cells_cell hF 1
      have f0 := cells_free hF 0
      have f1 := cells_free hF 1
      simp only [List.getElem?_toArray, List.getElem?_cons_zero, List.getElem?_cons_succ, hzl] at c0 c1 e0 e1
      have HF := Hd.mk hF
      have HY := Hd.mk hy
      have HZL := Hd.mk hzl
      clear hy HR hz hzl hF hlt
      go_wp2_with fail
      have hF2 : ((wr.setCell ⟨w.heap.size, 0, none⟩ (.slice y.ca k y.cc)).setCell ⟨w.heap.size, 1, none⟩ (.slice none 0 0)).heap[w.heap.size]? = some (.cells #[.slice y.ca k y.cc, .slice none 0 0] 86 (0, 0)) := cells_set (o := 1) (cells_set (o := 0) HF.out _) _
      refine bodyPost_ret (results_cell_row Try.results38 _ _ w.heap.size 86 _ (0, 0) _ rfl hF2 Try.underlying86 rfl (by kernel_rfl)) rfl ?_
      refine ⟨.slice y.ca k y.cc, rfl, fun pr => ?_, ?_⟩
      · have hsz : ((wr.setCell ⟨w.heap.size, 0, none⟩ (.slice y.ca k y.cc)).setCell ⟨w.heap.size, 1, none⟩ (.slice none 0 0)).heap.size = wr.heap.size := by simp [World.setCell]
        have hA := HSA.out
        have hp := HY.out.rows.prows (pr := fun b => wA.heap.size ≤ b) (fun b h _ => by omega)
        rw [HZL.out] at hp
        refine ⟨hp.mono (fun b h1 h2 => .inr ⟨by omega, by rw [hsz]; exact h2⟩) (fun b h1 _ => ?_) (by rw [hsz]; exact Nat.le_refl _), .inl ⟨rfl, none, 0, rfl, by simp [maxLen], fun _ => rfl⟩⟩
        rw [setCell_other (by omega), setCell_other (by omega)]
      · exact ((HBA.out.trans (HY.out.bel.mono (by have := HSA.out; omega))).setCell (Nat.le_refl _) _).setCell (Nat.le_refl _) _
end Go.Proofs.Ytnhkadknibinfaa
