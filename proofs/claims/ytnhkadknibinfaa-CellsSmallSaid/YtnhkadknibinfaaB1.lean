/- Plan, All, all. -/
import Derived.Test.YtnhkadknibinfaaB0
namespace Go.Proofs.Ytnhkadknibinfaa
open Go.RowKit
set_option linter.unusedVariables false
set_option linter.unusedSimpArgs false

def planI (a : List (List Int)) : List Int := a.map (fun l => (l.length : Int))

theorem RowsAt.src {y : Lay} {w : World} {pr : Nat → Prop} {a : List (List Int)} (h : RowsAt y w pr a) (i : Nat) (hi : i < a.length) : SrcI w (.slice (y.ra i) a[i].length (y.rc i)) a[i] := by
  obtain ⟨h1, h2, h3⟩ := h.caps i hi
  rcases Nat.eq_zero_or_pos a[i].length with h0 | h0
  · cases hr : y.ra i with
    | none => exact .inl ⟨by rw [h0, h3 hr], List.length_eq_zero_iff.1 h0⟩
    | some d => exact .inr ⟨d, y.rc i, rfl, h1, h2, fun j hj => by omega⟩
  · obtain ⟨g, cur, hg, _, hb, hc, hm, hcell⟩ := h.row i hi h0
    rw [hg]
    refine .inr ⟨⟨g, 0, none⟩, y.rc i, rfl, hc, hm, fun j hj => ?_⟩
    rw [plain_add, Nat.zero_add, cells_cell hb, hcell j hj]
    rfl

set_option maxRecDepth 100000 in
theorem plan_any {y : Lay} {w : World} {pr : Nat → Prop} {M : Nat} {st : St} (h : MemL y w pr M st) :
    Calls Try.prog 22 #[.pointer (some ⟨M, 0, none⟩)] w fun e w' => ∃ v, e = .returned v ∧ AppI 3 w' w.heap.size v (planI st.now) ∧ Below w.heap.size w w' := by
  have c0 := h.c0
  have c1 := h.c1
  have n16 := h.ok.owners
  have HM := Hd.mk h
  have hpl : (planI st.now).length = st.now.length := by simp [planI]
  obtain ⟨P, hP⟩ : ∃ p, planI st.now = p := ⟨_, rfl⟩
  have HP := Hd.mk hP
  rw [hP] at hpl ⊢
  have HPL := Hd.mk hpl
  obtain ⟨N, hN⟩ : ∃ n, st.now.length = n := ⟨_, rfl⟩
  have HN := Hd.mk hN
  rw [hN] at c1 n16
  clear h hP hpl hN
  go_enter Try.func22, Try.ntmps22
  go_wp2_with fail
  refine (is_at c0).mono ?_
  rintro e w1 ⟨rfl, rfl⟩
  go_wp2_with fail
  go_loopw [3, 13] (fun v i W => ∃ k : Nat, k ≤ N ∧ i = .int .i64 k ∧ Hd (AppI 3 W w.heap.size v (P.take k)) ∧ Below w.heap.size w W) (fun _ i _ => N - (intOf i).toNat)
  case atStart => exact ⟨0, by omega, rfl, ⟨OwnE.nil _ _ _ _⟩, Below.refl _ _⟩
  case round =>
    obtain ⟨k, hk, rfl, HA, hB⟩ := hrel
    by_cases hlt : k < N
    · have hki : k < st.now.length := by rw [HN.out]; exact hlt
      have hm := Ext.mem hB HM.out
      obtain ⟨C, hC, _, cC⟩ := hm.rows.at k hki
      have hkp : k < P.length := by rw [HPL.out]; exact hki
      have hpk : P[k] = (st.now[k].length : Int) := by have := HP.out; subst this; simp [planI]
      have hl1 := HM.out.ok.cells _ (List.getElem_mem hki)
      obtain ⟨v', w', hr, hO, hB', hgx⟩ := push_i44 (P[k]) HA.out hB hB.size (by simp; omega)
      have HO : Hd (AppI 3 w' w.heap.size v' (P.take (k + 1))) := ⟨by rw [List.take_succ_eq_append_getElem hkp]; exact hO⟩
      rw [hpk] at hr
      rw [hC]
      obtain ⟨len, hlen⟩ : ∃ m, st.now[k].length = m := ⟨_, rfl⟩
      rw [hlen] at cC hl1 hr
      have i0 : (0 : Int) ≤ (k : Int) := by omega
      have i1 : (k : Int) < (N : Int) := by omega
      have HBB := Hd.mk hB'
      clear hgx hm hO hB' hpk hlen hC HA hki hkp
      go_wp2_with (at_builtin; refine wpList_append_run rfl _ _ _ rfl rfl rfl hr ?_; clear hr)
      go_roundw
      case rel => exact ⟨k + 1, by omega, by go_num, HO, HBB.out⟩
      case measure => simp [intOf]; omega
    · obtain rfl : k = N := by omega
      have HO : Hd (AppI 3 wr w.heap.size _ P) := ⟨by have := HA.out; rw [List.take_of_length_le (by rw [HPL.out, HN.out]; exact Nat.le_refl _)] at this; exact this⟩
      clear HA
      go_wp2_with fail
      refine bodyPost_ret (results_tmp Try.results22 _ _ _) rfl ?_
      exact ⟨_, rfl, HO.out, hB⟩

set_option maxRecDepth 100000 in
theorem all_ok {y : Lay} {w : World} {pr : Nat → Prop} {M : Nat} {st : St} (h : MemL y w pr M st) (i : Nat) (hi : i < st.now.length) :
    Calls Try.prog 25 #[.pointer (some ⟨M, 0, none⟩), .int .i64 ((i : Int) + 1)] w fun e w' => ∃ v, e = .returned (.tuple #[v, .int .i64 0]) ∧ AppI 2 w' w.heap.size v st.now[i] ∧ Below w.heap.size w w' := by
  have H0 := owner_ok h i hi
  have hl := h.ok.cells _ (List.getElem_mem hi)
  have HC := clone_app28 _ _ w (h.rows.src i hi) (by omega)
  clear h
  go_enter Try.func25, Try.ntmps25
  go_wp2_with fail
  refine H0.mono ?_
  rintro e w1 ⟨rfl, rfl⟩
  go_wp2_with fail
  refine HC.mono ?_
  rintro e w2 ⟨v, rfl, hO, hB⟩
  have HO := Hd.mk hO
  have HB := Hd.mk hB
  clear hO hB
  go_wp2_with fail
  refine bodyPost_ret (results_tmp2 Try.results25 _ _ _) rfl ?_
  exact ⟨_, rfl, HO.out, HB.out⟩

set_option maxRecDepth 100000 in
theorem all_bad {y : Lay} {w : World} {pr : Nat → Prop} {M : Nat} {st : St} (h : MemL y w pr M st) (o : Int) (ho : o < 1 ∨ (st.now.length : Int) < o) :
    Calls Try.prog 25 #[.pointer (some ⟨M, 0, none⟩), .int .i64 o] w fun e w' => ∃ v, e = .returned (.tuple #[v, .int .i64 211]) ∧ AppI 2 w' w.heap.size v [] ∧ Below w.heap.size w w' := by
  have H0 := owner_bad h o ho
  have HC := clone_app28 _ _ w (SrcI.nil w) (by simp)
  clear h ho
  go_enter Try.func25, Try.ntmps25
  go_wp2_with fail
  refine H0.mono ?_
  rintro e w1 ⟨rfl, rfl⟩
  go_wp2_with fail
  refine HC.mono ?_
  rintro e w2 ⟨v, rfl, hO, hB⟩
  have HO := Hd.mk hO
  have HB := Hd.mk hB
  clear hO hB
  go_wp2_with fail
  refine bodyPost_ret (results_tmp2 Try.results25 _ _ _) rfl ?_
  exact ⟨_, rfl, HO.out, HB.out⟩

def flatK (a : List (List Int)) (k : Nat) : List Int := (a.take k).flatten
theorem flatK_succ (a : List (List Int)) (k : Nat) (h : k < a.length) : flatK a (k + 1) = flatK a k ++ a[k] := by
  unfold flatK; rw [List.take_succ_eq_append_getElem h, List.flatten_append]; simp
theorem flatK_len {a : List (List Int)} (h : ∀ l ∈ a, l.length ≤ 1024) : ∀ k, (flatK a k).length ≤ 1024 * k := by
  intro k
  induction k with
  | zero => simp [flatK]
  | succ k ih =>
    by_cases hk : k < a.length
    · rw [flatK_succ a k hk, List.length_append]
      have := h _ (List.getElem_mem hk)
      omega
    · have : flatK a (k + 1) = flatK a k := by unfold flatK; rw [List.take_of_length_le (by omega), List.take_of_length_le (by omega)]
      rw [this]; omega

set_option maxRecDepth 100000 in
theorem all_any {y : Lay} {w : World} {pr : Nat → Prop} {M : Nat} {st : St} (h : MemL y w pr M st) :
    Calls Try.prog 13 #[.pointer (some ⟨M, 0, none⟩)] w fun e w' => ∃ v, e = .returned v ∧ AppI 2 w' w.heap.size v st.now.flatten ∧ Below w.heap.size w w' := by
  have n16 := h.ok.owners
  have HCE := Hd.mk h.ok.cells
  have HM := Hd.mk h
  obtain ⟨N, hN⟩ : ∃ n, st.now.length = n := ⟨_, rfl⟩
  have HN := Hd.mk hN
  rw [hN] at n16
  clear h hN
  go_enter Try.func13, Try.ntmps13
  go_wp2_with fail
  refine (plan_any HM.out).mono ?_
  rintro e w1 ⟨vp, rfl, hP, hB1⟩
  obtain ⟨ap, cp, rfl⟩ := hP.src.shape
  have hpl : (planI st.now).length = N := by rw [← HN.out]; simp [planI]
  rw [hpl]
  have HB1 := Hd.mk hB1
  clear hP hB1 hpl
  go_wp2_with fail
  go_loopw [3, 10] (fun v i W => ∃ k : Nat, k ≤ N ∧ i = .int .i64 k ∧ Hd (AppI 2 W w.heap.size v (flatK st.now k)) ∧ Below w.heap.size w W) (fun _ i _ => N - (intOf i).toNat)
  case atStart => exact ⟨0, by omega, rfl, ⟨OwnE.nil _ _ _ _⟩, HB1.out⟩
  case round =>
    obtain ⟨k, hk, rfl, HA, hB⟩ := hrel
    by_cases hlt : k < N
    · have hki : k < st.now.length := by rw [HN.out]; exact hlt
      have HB := Hd.mk hB
      have HKI := Hd.mk hki
      have i0 : (0 : Int) ≤ (k : Int) := by omega
      have i1 : (k : Int) < (N : Int) := by omega
      clear hB hki
      go_wp2_with fail
      refine (all_ok (Ext.mem HB.out HM.out) k HKI.out).mono ?_
      rintro e w2 ⟨v, rfl, hO, hB2⟩
      have hl := flatK_len HCE.out k
      have hl2 := HCE.out _ (List.getElem_mem HKI.out)
      have hBa := HB.out.trans (hB2.mono HB.out.size)
      obtain ⟨v', w', hr, hO', hg⟩ := append_i28 (HA.out.below hB2) hBa.size hO.src (by omega)
      have HO : Hd (AppI 2 w' w.heap.size v' (flatK st.now (k + 1))) := ⟨by rw [flatK_succ _ _ HKI.out]; exact hO'⟩
      have HBB := Hd.mk (OwnE.grown (HA.out.below hB2) hBa hBa.size hg)
      clear hO hB2 hl hl2 hBa hO' hg HA HB
      go_wp2_with (at_builtin; refine wpList_append_run rfl _ _ _ rfl rfl rfl hr ?_; clear hr)
      go_roundw
      case rel => exact ⟨k + 1, by omega, by go_num, HO, HBB.out⟩
      case measure => simp [intOf]; omega
    · obtain rfl : k = N := by omega
      have HO : Hd (AppI 2 wr w.heap.size _ st.now.flatten) := ⟨by have := HA.out; unfold flatK at this; rw [List.take_of_length_le (by rw [HN.out]; exact Nat.le_refl _)] at this; exact this⟩
      clear HA
      go_wp2_with fail
      refine bodyPost_ret (results_tmp Try.results13 _ _ _) rfl ?_
      exact ⟨_, rfl, HO.out, hB⟩
end Go.Proofs.Ytnhkadknibinfaa
