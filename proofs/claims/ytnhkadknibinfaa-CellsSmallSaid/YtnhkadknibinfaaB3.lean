/- New. -/
import Derived.Test.YtnhkadknibinfaaB2
import Derived.Laws.MakeOwn
import Derived.Deep.RegionLaw
namespace Go.Proofs.Ytnhkadknibinfaa
open Go.RowKit
set_option linter.unusedVariables false
set_option linter.unusedSimpArgs false

/-- The cells of n zeros. -/
def Zc (n : Nat) : Array Value := madeCells #[Value.int .i64 0] (n * 1)
theorem Zc_get (n j : Nat) (h : j < n) : (Zc n)[j]? = some (.int .i64 0) := by
  unfold Zc madeCells
  simp [h, Nat.mod_one]
theorem make28 (W : World) (n : Nat) (hn : n ≤ 1024) : (Instr.makeSlice 28 (.int .i64 (n : Int)) (.int .i64 (n : Int))).run Try.prog W = .ok (.slice (some ⟨W.heap.size, 0, none⟩) n n) (W.alloc (.cells (Zc n) 2)) := by
  obtain ⟨i, hi, hz, hs, hb⟩ := info_parts (P := Try.prog) (e := 2) (z := .int .i64 0) (size := 1) (bytes := 8) (by kernel_rfl)
  have := run_make (P := Try.prog) W 28 2 i _ Try.underlying28 hi hz .i64 .i64 (n : Int) (n : Int) (by omega) (by omega) (by rw [hb]; omega) (by omega)
  rw [this, hs]
  simp only [Int.toNat_natCast]
  rfl

/-- One row is laid at the row of rows' end. -/
theorem push_row {W : World} {v : Value} {xs : List Value} (h : OwnE id W 0 28 v xs) (hn : xs.length ≤ 64) {X : Nat} {ra : Option Addr} {n c : Nat} (hX : W.cell? ⟨X, 0, none⟩ = some (.slice ra n c)) (ty : TypeId) :
    ∃ K cap W', (Builtin.append_ #[60, 60] ty #[v, .slice (some ⟨X, 0, none⟩) 1 1]).run Try.prog W = .ok (.slice (some ⟨K, 0, none⟩) (xs.length + 1) cap) W' ∧ OwnE id W' 0 28 (.slice (some ⟨K, 0, none⟩) (xs.length + 1) cap) (xs ++ [.slice ra n c]) ∧
      W.grownBy W' v.ownBlock ∧ (v.ownBlock = some K ∨ K = W.heap.size) := by
  obtain ⟨i, hi, hz, hsz, hby⟩ : ∃ i : TypeInfo, Try.prog.info? 28 = some i ∧ i.zero = some (.slice none 0 0) ∧ i.size = 1 ∧ i.bytes = 24 := ⟨(Try.prog.info? 28).get (by kernel_rfl), by kernel_rfl, by kernel_rfl, by kernel_rfl, by kernel_rfl⟩
  obtain ⟨v', W', hr, ho, hg, h4, h5⟩ := run_append_own_at (P := Try.prog) W 0 60 ty 28 i _ 1 24 Try.underlying60 hi hz hsz hby rfl (by decide) v xs.length (xs.map id) h ⟨X, 0, none⟩ 1 1 [.slice ra n c] rfl
    (by
      intro j u hj
      cases j with
      | zero => simp at hj; subst hj; exact hX
      | succ j => simp at hj)
    (by intro u hu; simp at hu; subst hu; rfl) (by simp only [maxLen]; omega) (by omega) (Nat.zero_le _)
  rcases ho.2 with ⟨h6, h7⟩ | ⟨g, cap, cur, hv, hg', hh, hc, hm, hs, ht⟩
  · omega
  · subst hv
    refine ⟨g, cap, W', hr, ?_, hg, ?_⟩
    · unfold OwnE
      rw [List.length_append, List.map_append]
      exact ho
    · rcases h5 with h5 | h5
      · exact .inl h5.symm
      · exact .inr (by simpa [Value.ownBlock] using h5)

def zeros (p : List Int) : List (List Int) := p.map (fun n => List.replicate n.toNat (0 : Int))

theorem rightL_mem : ∀ (p : List Int) (x : Int), rightL x p = true → ∀ n ∈ p, 0 ≤ n ∧ n ≤ x
  | [], _, _, _, h => by simp at h
  | q :: t, x, hr, n, hn => by
    rw [rightL] at hr
    split at hr
    · cases hr
    · rename_i hq
      rcases List.mem_cons.1 hn with rfl | hn
      · omega
      · have := rightL_mem t (x - q) hr n hn
        omega

/-- What stands in a round of New. -/
structure NewR (y : Lay) (w W : World) (M : Nat) (a : List (List Int)) : Prop where
  ka : y.ka = none
  kc : y.kc = 0
  bM : W.heap[M]? = some (.cells #[.bool true, .slice y.ca a.length y.cc, .slice none 0 0] 63 (0, 0))
  ge : w.heap.size ≤ M
  rows : RowsAt y W (fun k => k < w.heap.size) a
  bel : Below w.heap.size w W

/-- One more row of zeros. -/
theorem NewR.step {y : Lay} {w W : World} {M : Nat} {a : List (List Int)} (h : NewR y w W M a) (q : Nat) (hq : q ≤ 1024) (hlen : a.length ≤ 16) :
    ∃ K cap W', (Builtin.append_ #[60, 60] 60 #[.slice y.ca a.length y.cc, .slice (some ⟨W.heap.size + 1, 0, none⟩) 1 1]).run Try.prog ((W.alloc (.cells (Zc q) 2)).alloc (.cells #[.slice (some ⟨W.heap.size, 0, none⟩) q q] 28)).drew = .ok (.slice (some ⟨K, 0, none⟩) (a.length + 1) cap) W' ∧
      W'.cell? ⟨M, 1, none⟩ = some (.slice y.ca a.length y.cc) ∧ W'.frozen? ⟨M, 1, none⟩ = false ∧ ∃ y', NewR y' w (W'.setCell ⟨M, 1, none⟩ (.slice (some ⟨K, 0, none⟩) (a.length + 1) cap)) M (a ++ [List.replicate q 0]) := by
  obtain ⟨WX, hWX⟩ : ∃ X, ((W.alloc (.cells (Zc q) 2)).alloc (.cells #[.slice (some ⟨W.heap.size, 0, none⟩) q q] 28)).drew = X := ⟨_, rfl⟩
  have hX0 : WX.heap[W.heap.size]? = some (.cells (Zc q) 2 (0, 0)) := by
    rw [← hWX]
    show ((W.alloc (.cells (Zc q) 2)).alloc (.cells #[.slice (some ⟨W.heap.size, 0, none⟩) q q] 28)).heap[W.heap.size]? = _
    rw [heap_alloc_old _ _ (by simp), heap_alloc_new]
  have hX1 : WX.heap[W.heap.size + 1]? = some (.cells #[.slice (some ⟨W.heap.size, 0, none⟩) q q] 28 (0, 0)) := by
    rw [← hWX]
    have := heap_alloc_new (W.alloc (.cells (Zc q) 2)) (.cells #[.slice (some ⟨W.heap.size, 0, none⟩) q q] 28)
    simp only [World.size_alloc] at this
    exact this
  have hBX : Below W.heap.size W WX := by
    rw [← hWX]
    exact (((Below.refl W.heap.size W).alloc (Nat.le_refl _) _).alloc (by simp) _).drew
  have hsX : WX.heap.size = W.heap.size + 2 := by rw [← hWX]; show (World.alloc _ _).heap.size = _; simp
  rw [hWX]
  clear hWX
  have hEX := Ext.of hBX
  have hown : OwnE id WX 0 28 (.slice y.ca a.length y.cc) (rowsV y a) := h.rows.own.same fun g cur fr hg _ => (hEX _ _ hg).trans hg.symm
  have hrl : (rowsV y a).length = a.length := by simp [rowsV]
  obtain ⟨K, cap, W', hr, hO, hg, hK⟩ := push_row hown (by rw [hrl]; omega) (X := W.heap.size + 1) (by rw [cells_cell hX1]; rfl) 60
  rw [hrl] at hr hO
  have hkeep : ∀ (b : Nat) (o : Obj), WX.heap[b]? = some o → (∀ c f, o ≠ Obj.cells c 28 f) → W'.heap[b]? = some o := by
    intro b o hb hne
    rw [hg.block b (Array.getElem?_eq_some_iff.1 hb).1 ?_, hb]
    intro e
    obtain ⟨cur, hc⟩ := hown.ty e.symm
    rw [hb] at hc
    cases hc
    exact hne _ _ rfl
  have hMW := hkeep M _ (hEX _ _ h.bM) (fun c f e => by simp at e)
  refine ⟨K, cap, W', hr, by rw [cells_cell hMW]; rfl, cells_free hMW 1, ⟨some ⟨K, 0, none⟩, cap, y.ka, y.kc, fun i => if i < a.length then y.ra i else some ⟨W.heap.size, 0, none⟩, fun i => if i < a.length then y.rc i else q, y.mb⟩, ?_⟩
  have hM3 := cells_set (o := 1) hMW (.slice (some ⟨K, 0, none⟩) (a.length + 1) cap)
  obtain ⟨w3, hw3⟩ : ∃ X, W'.setCell ⟨M, 1, none⟩ (.slice (some ⟨K, 0, none⟩) (a.length + 1) cap) = X := ⟨_, rfl⟩
  have h3 : ∀ b : Nat, b ≠ M → w3.heap[b]? = W'.heap[b]? := fun b hb => by rw [← hw3]; exact setCell_other hb
  have hs3 : w3.heap.size = W'.heap.size ∧ w3.os = W'.os ∧ w3.tape = W'.tape ∧ w3.output = W'.output := by rw [← hw3]; exact ⟨by simp [World.setCell], rfl, rfl, rfl⟩
  rw [hw3] at hM3 ⊢
  have hnM : ∀ (b : Nat) (o : Obj), W'.heap[b]? = some o → (∀ c f, o ≠ Obj.cells c 63 f) → w3.heap[b]? = some o := by
    intro b o hb hne
    rw [h3 b (fun e => by subst e; rw [hMW] at hb; cases hb; exact hne _ _ rfl)]
    exact hb
  have hpK : ¬ K < w.heap.size := by
    rcases hK with hK | hK
    · have : ∃ d, y.ca = some d ∧ d.block = K := by
        unfold Value.ownBlock at hK
        cases hka : y.ca with
        | none => rw [hka] at hK; cases hK
        | some d => rw [hka] at hK; simp at hK; exact ⟨d, rfl, hK⟩
      obtain ⟨d, hd, rfl⟩ := this
      exact h.rows.ownP d hd
    · have := h.bel.size; omega
  have hal : (a ++ [List.replicate q 0]).length = a.length + 1 := by simp
  have hget : ∀ i (hi : i < (a ++ [List.replicate q (0 : Int)]).length) (hi' : i < a.length), (a ++ [List.replicate q (0 : Int)])[i] = a[i] := fun i hi hi' => List.getElem_append_left hi'
  have hlast : ∀ i (hi : i < (a ++ [List.replicate q (0 : Int)]).length), ¬ i < a.length → (a ++ [List.replicate q (0 : Int)])[i] = List.replicate q 0 := by
    intro i hi hn
    rw [List.getElem_append_right (by omega)]
    simp
  refine ⟨h.ka, h.kc, ?_, h.ge, ⟨?_, fun d hd => by cases hd; exact hpK, ?_, ?_, ?_⟩, ?_⟩
  · rw [hM3, hal]; simp
  · have hrv : rowsV ⟨some ⟨K, 0, none⟩, cap, y.ka, y.kc, fun i => if i < a.length then y.ra i else some ⟨W.heap.size, 0, none⟩, fun i => if i < a.length then y.rc i else q, y.mb⟩ (a ++ [List.replicate q 0]) = rowsV y a ++ [.slice (some ⟨W.heap.size, 0, none⟩) q q] := by
      unfold rowsV
      rw [hal, List.range_succ, List.map_append]
      refine congr (congrArg HAppend.hAppend ?_) ?_
      · refine List.map_congr_left fun i hi => ?_
        have hi' := List.mem_range.1 hi
        simp [hi', List.getElem?_append_left hi']
      · simp
    rw [hrv, hal]
    exact hO.same fun g cur fr hgg _ => (hnM _ _ hgg (fun c f e => by simp at e)).trans hgg.symm
  · intro i hi h0
    by_cases hia : i < a.length
    · rw [hget i hi hia] at h0
      obtain ⟨g, cur, q1, q2, q3, q4, q5, q6⟩ := h.rows.row i hia h0
      refine ⟨g, cur, by simp [hia, q1], q2, hnM _ _ (hkeep _ _ (hEX _ _ q3) (fun c f e => by simp at e)) (fun c f e => by simp at e), ?_, by simpa [hia] using q5, ?_⟩
      · simp only [hget i hi hia, hia, if_true]; exact q4
      · intro k hk
        simp only [hget i hi hia] at hk ⊢
        exact q6 k hk
    · rw [hlast i hi hia] at h0
      refine ⟨W.heap.size, Zc q, by simp [hia], by have := h.bel.size; omega, hnM _ _ (hkeep _ _ hX0 (fun c f e => by simp at e)) (fun c f e => by simp at e), ?_, ?_, ?_⟩
      · simp only [hlast i hi hia, hia, if_false, List.length_replicate]; exact Nat.le_refl _
      · simp only [hia, if_false, maxLen]; omega
      · intro k hk
        simp only [hlast i hi hia] at hk ⊢
        rw [List.length_replicate] at hk
        rw [Zc_get q k hk, List.getElem_replicate]
        rfl
  · intro i j d hi hj h0 h1 hd1 hd2
    have lt : ∀ i (hi : i < a.length), 0 < a[i].length → y.ra i = some d → d.block < W.heap.size := by
      intro i hi h0 hd
      obtain ⟨g, cur, q1, q2, q3, _⟩ := h.rows.row i hi h0
      rw [q1] at hd; cases hd
      exact (Array.getElem?_eq_some_iff.1 q3).1
    simp only at hd1 hd2
    by_cases hia : i < a.length <;> by_cases hja : j < a.length
    · rw [if_pos hia] at hd1
      rw [if_pos hja] at hd2
      exact h.rows.apart i j d hia hja (by rw [← hget i hi hia]; exact h0) (by rw [← hget j hj hja]; exact h1) hd1 hd2
    · rw [if_pos hia] at hd1
      rw [if_neg hja] at hd2
      cases hd2
      have := lt i hia (by rw [← hget i hi hia]; exact h0) hd1
      simp at this
    · rw [if_neg hia] at hd1
      rw [if_pos hja] at hd2
      cases hd1
      have := lt j hja (by rw [← hget j hj hja]; exact h1) hd2
      simp at this
    · rw [hal] at hi hj; omega
  · intro i hi
    by_cases hia : i < a.length
    · simp only [hget i hi hia, hia, if_true]; exact h.rows.caps i hia
    · simp only [hlast i hi hia, hia, if_false, List.length_replicate]
      refine ⟨Nat.le_refl _, by simp only [maxLen]; omega, fun e => by cases e⟩
  · have hgs := hg.size
    have h1 := hBX.size
    refine h.bel.trans ⟨?_, ?_, ?_, by omega, ?_⟩
    · rw [hs3.2.1, hg.os, hBX.os]
    · rw [hs3.2.2.1, hg.tape, hBX.tape]
    · rw [hs3.2.2.2, hg.output, hBX.output]
    · intro k hk
      have hsz := h.bel.size
      rw [h3 k (by have := h.ge; omega), hg.block k (by omega) ?_, hBX.block k (by omega)]
      intro e
      unfold Value.ownBlock at e
      cases hka : y.ca with
      | none => rw [hka] at e; cases e
      | some d => rw [hka] at e; simp at e; exact h.rows.ownP d hka (by omega)

set_option maxRecDepth 100000 in
theorem new_wrong (v : Value) (p : List Int) (w : World) (h : SrcI w v p) (hr : rightV p = false) : Calls Try.prog 26 #[v] w fun e w' => e = .returned (.tuple #[.pointer none, .int .i64 210]) ∧ Below w.heap.size w w' := by
  have H0 := right_any v p w h
  rw [hr] at H0
  clear h hr
  go_enter Try.func26, Try.ntmps26
  go_wp2_with fail
  refine H0.mono ?_
  rintro e w1 ⟨rfl, hB⟩
  go_wp2_with fail
  refine bodyPost_ret (results_tmp2 Try.results26 _ _ _) rfl ?_
  exact ⟨rfl, hB⟩

set_option maxRecDepth 100000 in
theorem new_right (v : Value) (p : List Int) (w : World) (h : SrcI w v p) (hr : rightV p = true) :
    Calls Try.prog 26 #[v] w fun e w' => ∃ M, e = .returned (.tuple #[.pointer (some ⟨M, 0, none⟩), .int .i64 0]) ∧ MemAt w' (fun k => k < w.heap.size) M ⟨zeros p, []⟩ ∧ Below w.heap.size w w' := by
  have H0 := right_any v p w h
  rw [hr] at H0
  have hb := h.small
  have hr1 : rightL 1024 p = true ∧ p.length ≤ 16 := by
    unfold rightV at hr
    rw [Bool.and_eq_true, decide_eq_true_eq] at hr
    exact hr
  have HMEM := Hd.mk (rightL_mem p 1024 hr1.1)
  have n16 := hr1.2
  obtain ⟨a, c, rfl⟩ := h.shape
  have H := Hd.mk h
  obtain ⟨n, hn⟩ : ∃ n, p.length = n := ⟨_, rfl⟩
  have HN := Hd.mk hn
  rw [hn] at hb n16 H0 ⊢
  clear h hr hr1 hn
  go_enter Try.func26, Try.ntmps26
  go_wp2_with fail
  refine H0.mono ?_
  rintro e w1 ⟨rfl, hB⟩
  have HB := Hd.mk hB
  clear hB H0
  have hbx := heap_alloc_new w1 (.cells #[.bool true, .slice none 0 0, .slice none 0 0] 63)
  have hB2 := HB.out.alloc HB.out.size (.cells #[.bool true, .slice none 0 0, .slice none 0 0] 63)
  have hst : ∃ y, NewR y w (w1.alloc (.cells #[.bool true, .slice none 0 0, .slice none 0 0] 63)) w1.heap.size (zeros (p.take 0)) :=
    ⟨⟨none, 0, none, 0, fun _ => none, fun _ => 0, fun _ => 0⟩, rfl, rfl, hbx, HB.out.size, ⟨OwnE.nil _ _ _ _, fun d hd => (by cases hd), fun i hi => (by simp [zeros] at hi), fun i j d hi => (by simp [zeros] at hi), fun i hi => (by simp [zeros] at hi)⟩, hB2⟩
  have HST := Hd.mk hst
  clear hst hbx hB2
  go_wp2_with fail
  go_loopw [14] (fun i W => ∃ k : Nat, k ≤ n ∧ i = .int .i64 k ∧ Hd (∃ y, NewR y w W w1.heap.size (zeros (p.take k)))) (fun i _ => n - (intOf i).toNat)
  case atStart => exact ⟨0, by omega, rfl, HST⟩
  case round =>
    obtain ⟨k, hk, rfl, HR⟩ := hrel
    by_cases hlt : k < n
    · have hkp : k < p.length := by rw [HN.out]; exact hlt
      obtain ⟨y, hy⟩ := HR.out
      have hs := H.out.below hy.bel
      rw [HN.out] at hs
      obtain ⟨b, off, rfl, hb2, hc⟩ := hs.at k hkp
      obtain ⟨q0, q1⟩ := HMEM.out _ (List.getElem_mem hkp)
      obtain ⟨q, hq⟩ : ∃ q : Nat, p[k] = (q : Int) := ⟨p[k].toNat, by omega⟩
      rw [hq] at hc q0 q1
      have hz : (zeros (p.take k)).length = k := by simp [zeros]; omega
      have c1 := cells_cell hy.bM 1
      have f1 := cells_free hy.bM 1
      have lM : w1.heap.size < wr.heap.size := World.block_lt_of_cell? wr _ (cells_cell hy.bM 0)
      simp only [List.getElem?_toArray, List.getElem?_cons_zero, List.getElem?_cons_succ, hz] at c1
      have hmk : ∀ W : World, (Instr.makeSlice 28 (.int .i64 (q : Int)) (.int .i64 (q : Int))).run Try.prog W = .ok (.slice (some ⟨W.heap.size, 0, none⟩) q q) (W.alloc (.cells (Zc q) 2)) := fun W => make28 W q (by omega)
      have i0 : (0 : Int) ≤ (k : Int) := by omega
      have i1 : (k : Int) < (n : Int) := by omega
      obtain ⟨K, cap, W', hr, cM, fM, hnew⟩ := hy.step q (by omega) (by rw [hz]; omega)
      have hzs : zeros (p.take (k + 1)) = zeros (p.take k) ++ [List.replicate q 0] := by
        unfold zeros
        rw [List.take_succ_eq_append_getElem hkp, List.map_append, List.map_cons, List.map_nil, hq, Int.toNat_natCast]
      rw [← hzs, hz] at hnew
      rw [hz] at hr cM
      have HNEW := Hd.mk hnew
      clear hnew hzs hy hs hz HR
      go_upto_region 7 with fail
      go_region_law (refine step_append_run rfl _ _ _ rfl rfl rfl hr ?_)
      all_goals (go_wp2_with fail)
      all_goals go_roundw
      all_goals first | exact ⟨k + 1, by omega, by go_num, HNEW⟩ | (simp [intOf]; omega)
    · obtain rfl : k = n := by omega
      obtain ⟨y, hy⟩ := HR.out
      have HY := Hd.mk hy
      clear hy HR
      go_wp2_with fail
      refine bodyPost_ret (results_tmp2 Try.results26 _ _ _) rfl ?_
      have hz : zeros (p.take k) = zeros p := by rw [List.take_of_length_le (by rw [HN.out]; exact Nat.le_refl _)]
      have hzl : (zeros p).length = k := by simp [zeros, HN.out]
      have hy := HY.out
      rw [hz] at hy
      refine ⟨_, rfl, ⟨y, ⟨?_, ?_, ?_, by simp⟩, fun q hq => Nat.lt_of_lt_of_le hq hy.bel.size, ?_, by have := hy.ge; omega, hy.rows, ?_⟩, hy.bel⟩
      · simp only [hzl]; omega
      · intro l hl
        obtain ⟨q, hq, rfl⟩ := List.mem_map.1 hl
        have := HMEM.out q hq
        simp; omega
      · intro s hs; cases hs
      · rw [hy.bM, hy.ka, hy.kc]; rfl
      · refine ⟨?_, fun d hd => (by rw [hy.ka] at hd; cases hd), fun j hj => (by simp at hj), fun i j hi => (by simp at hi)⟩
        simp only [List.length_nil, hy.ka, hy.kc]
        exact OwnE.nil _ _ _ _
end Go.Proofs.Ytnhkadknibinfaa
