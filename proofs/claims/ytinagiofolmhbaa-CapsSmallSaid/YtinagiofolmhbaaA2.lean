/- Masks of rights: right, Below, Hand; holders. -/
import Derived.Test.YtinagiofolmhbaaA1
import Derived.Test.YtinagiofolmhbaaM8
import Derived.Test.YtinagiofolmhbaaPL1
namespace Go.Proofs.Ytinagiofolmhbaa
open Go.RowKit
set_option linter.unusedVariables false
set_option linter.unusedSimpArgs false

def anyB (ms : List (BitVec 8)) : Bool := ms.any (fun x => (15#8).ult x)
theorem badM_ult (r : BitVec 8) : badM r = (15#8).ult r := rfl
theorem over_any (x : BitVec 8) (w : World) : Calls Try.prog 60 #[h8 x] w fun e w' => e = .returned (.bool ((15#8).ult x)) ∧ w = w' := by
  go_enter Try.func60, Try.ntmps60
  go_wp2_with fail
  go_ret
  exact ⟨rfl, rfl⟩
def IdxP (ms : List (BitVec 8)) (w : World) (e : Ending) (w' : World) : Prop := ∃ r : Int, -1 ≤ r ∧ r ≤ ms.length ∧ decide (0 ≤ r) = anyB ms ∧ e = .returned (.int .i64 r) ∧ w = w'
set_option maxRecDepth 100000 in
theorem idx_any {v : Value} {ms : List (BitVec 8)} {w : World} (h : SrcE h8 w v ms) : Calls Try.prog 75 #[v, (.func (.func 60) #[] #[])] w (IdxP ms w) := by
  have hb := h.small
  obtain ⟨a, c, rfl⟩ := h.shape
  have H := Hd.mk h
  obtain ⟨n, hn⟩ : ∃ n, ms.length = n := ⟨_, rfl⟩
  have HN := Hd.mk hn
  rw [hn] at hb ⊢
  clear h hn
  go_enter Try.func75, Try.ntmps75
  go_wp2_with fail
  go_loop [8] (fun i => ∃ k : Nat, k ≤ n ∧ i = .int .i64 k ∧ Hd (∀ j (hj : j < ms.length), j < k → (15#8).ult ms[j] = false)) (fun i => n - (intOf i).toNat)
  case atStart => exact ⟨0, by omega, rfl, ⟨fun j _ h => by omega⟩⟩
  case round =>
    obtain ⟨k, hk, rfl, HR⟩ := hrel
    by_cases hlt : k < n
    · have hkl : k < ms.length := by rw [HN.out]; exact hlt
      obtain ⟨b, off, rfl, _, hc⟩ := H.out.at k hkl
      have HLT := Hd.mk hlt
      have k0 : (0 : Int) ≤ (k : Int) := by omega
      have k1 : (k : Int) < (n : Int) := by omega
      have k2 : (k : Int) + 1 ≤ 9223372036854775807 := by omega
      obtain ⟨x, hx⟩ : ∃ x, ms[k] = x := ⟨_, rfl⟩
      rw [hx] at hc
      have HX := Hd.mk hx
      obtain ⟨bx, hbx⟩ : ∃ y, (15#8).ult x = y := ⟨_, rfl⟩
      have HBX := Hd.mk hbx
      have hov := fun W => over_any x W
      rw [hbx] at hov
      clear hlt hx hbx hk
      go_wp2_with fail
      refine (hov _).mono ?_
      rintro e w1 ⟨rfl, rfl⟩
      clear hov
      cases bx with
      | true =>
        go_wp2_with fail
        refine bodyPost_ret (results_tmp Try.results75 _ _ _) rfl ?_
        refine ⟨k, by omega, by have := HN.out; have := HLT.out; omega, ?_, rfl, rfl⟩
        rw [decide_eq_true (by omega : (0 : Int) ≤ (k : Int))]
        symm
        unfold anyB
        rw [List.any_eq_true]
        exact ⟨x, by rw [← HX.out]; exact List.getElem_mem _, HBX.out⟩
      | false =>
        go_wp2_with fail
        go_round
        case rel => exact ⟨k + 1, by have := HLT.out; omega, by go_num, ⟨fun j hj h => by
          by_cases e : j = k
          · subst e; rw [HX.out]; exact HBX.out
          · exact HR.out j hj (by omega)⟩⟩
        case measure => have := HLT.out; simp [intOf]; omega
    · obtain rfl : k = n := by omega
      clear hlt hk
      go_wp2_with fail
      refine bodyPost_ret (results_tmp Try.results75 _ _ _) rfl ?_
      refine ⟨-1, by omega, by omega, ?_, rfl, rfl⟩
      rw [decide_eq_false (by omega : ¬ (0 : Int) ≤ -1)]
      symm
      unfold anyB
      rw [List.any_eq_false]
      intro x hx
      obtain ⟨j, hj, rfl⟩ := List.mem_iff_getElem.1 hx
      rw [HR.out j hj (by rw [← HN.out]; exact hj)]
      simp
theorem has_any {v : Value} {ms : List (BitVec 8)} {w : World} (h : SrcE h8 w v ms) : Calls Try.prog 59 #[v, (.func (.func 60) #[] #[])] w fun e w' => e = .returned (.bool (anyB ms)) ∧ w = w' := by
  have H := Hd.mk (idx_any h)
  clear h
  go_enter Try.func59, Try.ntmps59
  go_wp2_with fail
  refine H.out.mono ?_
  rintro e w1 ⟨r, h1, h2, h3, rfl, rfl⟩
  have H3 := Hd.mk h3
  clear h3 H
  go_wp2_with fail
  refine bodyPost_ret (results_tmp Try.results59 _ _ _) rfl ?_
  exact ⟨by rw [← H3.out]; rfl, rfl⟩
theorem right_any {v : Value} {ms : List (BitVec 8)} {w : World} (h : SrcE h8 w v ms) : Calls Try.prog 44 #[v] w fun e w' => e = .returned (.bool (!anyB ms)) ∧ w = w' := by
  have H := Hd.mk (has_any h)
  clear h
  go_enter Try.func44, Try.ntmps44
  go_wp2_with fail
  refine H.out.mono ?_
  rintro e w1 ⟨rfl, rfl⟩
  go_wp2_with fail
  refine bodyPost_ret (results_tmp Try.results44 _ _ _) rfl ?_
  exact ⟨rfl, rfl⟩
theorem lit_m {W : World} {b e : Nat} (xs : List (BitVec 8)) {cs : Array Value} (h : W.heap[b]? = some (.cells cs e (0, 0))) (hc : cs = (xs.map h8).toArray) (hm : xs.length ≤ 100000 := by simp) : SrcE h8 W (.slice (some ⟨b, 0, none⟩) xs.length xs.length) xs :=
  .inr ⟨⟨b, 0, none⟩, xs.length, rfl, Nat.le_refl _, by simp only [maxLen]; omega, fun j hj => by
    rw [plain_add, Nat.zero_add, cells_cell h, hc]
    simp [hj]⟩
/-- rights.Right. -/
theorem mright_any (m : BitVec 8) (w : World) : Calls Try.prog 21 #[h8 m] w fun e w' => e = .returned (.bool (!badM m)) ∧ Below w.heap.size w w' := by
  have hB := (Below.refl w.heap.size w).alloc (Nat.le_refl _) (.cells #[h8 m] 32)
  have H := Hd.mk (right_any (lit_m [m] (heap_alloc_new w (.cells #[h8 m] 32)) rfl))
  have HB := Hd.mk hB
  clear hB
  go_enter Try.func21, Try.ntmps21
  go_wp2_with fail
  refine H.out.mono ?_
  rintro e w1 ⟨rfl, rfl⟩
  go_wp2_with fail
  refine bodyPost_ret (results_tmp Try.results21 _ _ _) rfl ?_
  refine ⟨?_, HB.out⟩
  simp [anyB, badM_ult]
def belB (m o : BitVec 8) : Bool := (!badM m && !badM o) && (m &&& ~~~o == 0#8)
/-- rights.Below. -/
theorem mbelow_any (m o : BitVec 8) (w : World) : Calls Try.prog 23 #[h8 m, h8 o] w fun e w' => e = .returned (.bool (belB m o)) ∧ Below w.heap.size w w' := by
  have hB := (Below.refl w.heap.size w).alloc (Nat.le_refl _) (.cells #[h8 m, h8 o] 32)
  have h := right_any (lit_m [m, o] (heap_alloc_new w (.cells #[h8 m, h8 o] 32)) rfl)
  obtain ⟨x, hx⟩ : ∃ x, (!anyB [m, o]) = x := ⟨_, rfl⟩
  have e1 : (!badM m && !badM o) = x := by rw [← hx]; simp [anyB, badM_ult]
  rw [hx] at h
  have e2 : belB m o = (x && (m &&& ~~~o == 0#8)) := by unfold belB; rw [e1]
  rw [e2]
  have H := Hd.mk h
  have HB := Hd.mk hB
  clear hB h hx e1 e2
  cases x with
  | true =>
    go_enter Try.func23, Try.ntmps23
    go_wp2_with fail
    refine H.out.mono ?_
    rintro e w1 ⟨rfl, rfl⟩
    go_wp2_with fail
    refine bodyPost_ret (results_tmp Try.results23 _ _ _) rfl ?_
    exact ⟨by simp, HB.out⟩
  | false =>
    go_enter Try.func23, Try.ntmps23
    go_wp2_with fail
    refine H.out.mono ?_
    rintro e w1 ⟨rfl, rfl⟩
    go_wp2_with fail
    refine bodyPost_ret (results_tmp Try.results23 _ _ _) rfl ?_
    exact ⟨by simp, HB.out⟩
/-- rights.Hand. -/
theorem hand_any (f t : BitVec 8) (w : World) : Calls Try.prog 46 #[h8 f, h8 t] w fun e w' => e = .returned (.int .i64 (handE f t)) ∧ Below w.heap.size w w' := by
  have hB := (Below.refl w.heap.size w).alloc (Nat.le_refl _) (.cells #[h8 f, h8 t] 32)
  have h := right_any (lit_m [f, t] (heap_alloc_new w (.cells #[h8 f, h8 t] 32)) rfl)
  have hbel := fun W => mbelow_any t f W
  have e0 : (!anyB [f, t]) = !(badM f || badM t) := by simp [anyB, badM_ult]
  rw [e0] at h
  have H := Hd.mk h
  have HB := Hd.mk hB
  have HBEL := Hd.mk hbel
  clear hB h e0 hbel
  cases hm : (badM f || badM t) with
  | true =>
    have e1 : handE f t = 220 := by unfold handE; rw [if_pos (by simpa using hm)]
    have h := H.out
    rw [hm] at h
    have H2 := Hd.mk h
    rw [e1]
    clear h hm e1 H
    go_enter Try.func46, Try.ntmps46
    go_wp2_with fail
    refine H2.out.mono ?_
    rintro e w1 ⟨rfl, rfl⟩
    go_wp2_with fail
    refine bodyPost_ret (results_tmp Try.results46 _ _ _) rfl ?_
    exact ⟨rfl, HB.out⟩
  | false =>
    have hmf : badM f = false := by cases h : badM f <;> simp_all
    have hmt : badM t = false := by cases h : badM t <;> simp_all
    have h := H.out
    rw [hm] at h
    have H2 := Hd.mk h
    by_cases hg : f &&& 4#8 = 0#8
    · have e1 : handE f t = 221 := by unfold handE; rw [hmf, hmt]; simp [hg]
      have t1 : (f &&& 4#8 == 0#8) = true := by simpa using hg
      rw [e1]
      clear h hm e1 H hmf hmt hg
      go_enter Try.func46, Try.ntmps46
      go_wp2_with fail
      refine H2.out.mono ?_
      rintro e w1 ⟨rfl, rfl⟩
      go_wp2_with fail
      refine bodyPost_ret (results_tmp Try.results46 _ _ _) rfl ?_
      exact ⟨rfl, HB.out⟩
    · have t1 : (f &&& 4#8 == 0#8) = false := by simpa using hg
      cases hz : (t &&& ~~~f == 0#8) with
      | true =>
        have e1 : handE f t = 0 := by unfold handE; rw [hmf, hmt]; simp at hz; simp [hg, hz]
        have e2 : belB t f = true := by unfold belB; rw [hmf, hmt, hz]; rfl
        have h3 := HBEL.out
        rw [e2] at h3
        have H3 := Hd.mk h3
        rw [e1]
        clear h hm e1 e2 H hmf hmt hg hz h3 HBEL
        go_enter Try.func46, Try.ntmps46
        go_wp2_with fail
        refine H2.out.mono ?_
        rintro e w1 ⟨rfl, rfl⟩
        go_wp2_with fail
        refine (H3.out _).mono ?_
        rintro e w2 ⟨rfl, hB2⟩
        have HB2 := Hd.mk (HB.out.trans (hB2.mono HB.out.size))
        clear hB2
        go_wp2_with fail
        refine bodyPost_ret (results_tmp Try.results46 _ _ _) rfl ?_
        exact ⟨rfl, HB2.out⟩
      | false =>
        have e1 : handE f t = 221 := by unfold handE; rw [hmf, hmt]; simp at hz; simp [hg, hz]
        have e2 : belB t f = false := by unfold belB; rw [hmf, hmt, hz]; rfl
        have h3 := HBEL.out
        rw [e2] at h3
        have H3 := Hd.mk h3
        rw [e1]
        clear h hm e1 e2 H hmf hmt hg hz h3 HBEL
        go_enter Try.func46, Try.ntmps46
        go_wp2_with fail
        refine H2.out.mono ?_
        rintro e w1 ⟨rfl, rfl⟩
        go_wp2_with fail
        refine (H3.out _).mono ?_
        rintro e w2 ⟨rfl, hB2⟩
        have HB2 := Hd.mk (HB.out.trans (hB2.mono HB.out.size))
        clear hB2
        go_wp2_with fail
        refine bodyPost_ret (results_tmp Try.results46 _ _ _) rfl ?_
        exact ⟨rfl, HB2.out⟩
/-- holder. -/
theorem holder_any (n : Int) (w : World) : Calls Try.prog 45 #[.int .i64 n] w fun e w' => e = .returned (.bool (!badH n)) ∧ w = w' := by
  by_cases h0 : n < 0
  · have e1 : badH n = true := by unfold badH; simp; omega
    rw [e1]
    clear e1
    go_enter Try.func45, Try.ntmps45
    go_wp2_with fail
    refine bodyPost_ret (results_tmp Try.results45 _ _ _) rfl ?_
    exact ⟨rfl, rfl⟩
  · by_cases h1 : 16 < n
    · have e1 : badH n = true := by unfold badH; simp; omega
      have h2 : 0 ≤ n := by omega
      have d3 : decide (n ≤ 16) = false := by simp; omega
      rw [e1]
      clear e1 h0
      go_enter Try.func45, Try.ntmps45
      go_wp2_with fail
      refine bodyPost_ret (results_tmp Try.results45 _ _ _) rfl ?_
      exact ⟨rfl, rfl⟩
    · have e1 : badH n = false := by unfold badH; simp; omega
      have h2 : 0 ≤ n := by omega
      have h3 : n ≤ 16 := by omega
      have d3 : decide (n ≤ 16) = true := by simp; omega
      rw [e1]
      clear e1 h0 h1
      go_enter Try.func45, Try.ntmps45
      go_wp2_with fail
      refine bodyPost_ret (results_tmp Try.results45 _ _ _) rfl ?_
      exact ⟨rfl, rfl⟩
end Go.Proofs.Ytinagiofolmhbaa
