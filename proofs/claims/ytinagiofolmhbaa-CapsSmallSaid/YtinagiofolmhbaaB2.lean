/- New, Root, Derive. -/
import Derived.Test.YtinagiofolmhbaaB1
namespace Go.Proofs.Ytinagiofolmhbaa
open Go.RowKit
set_option linter.unusedVariables false
set_option linter.unusedSimpArgs false

def newCs (n : Int) (mb : Nat) : Array Value := #[.bool true, .int .i64 n, .map (some mb), .slice none 0 0, .slice none 0 0, .slice none 0 0, .slice none 0 0, .slice none 0 0, .slice none 0 0, .slice none 0 0, .slice none 0 0, .slice none 0 0, .slice none 0 0, .slice none 0 0, .slice none 0 0, .slice none 0 0, .slice none 0 0, .slice none 0 0, .slice none 0 0, .slice none 0 0]
theorem new_bad (n : Int) (w : World) (h : n < 1 ∨ 281474976710656 < n) : Calls Try.prog 31 #[.int .i64 n] w fun e w' => e = .returned (.tuple #[.pointer none, .int .i64 2]) ∧ w = w' := by
  by_cases h0 : n < 1
  · clear h
    go_enter Try.func31, Try.ntmps31
    go_wp2_with fail
    refine bodyPost_ret (results_tmp2 Try.results31 _ _ _) rfl ?_
    exact ⟨rfl, rfl⟩
  · have h1 : 281474976710656 < n := by omega
    have h2 : 1 ≤ n := by omega
    have d1 : decide (281474976710656 < n) = true := by simp; omega
    clear h h0
    go_enter Try.func31, Try.ntmps31
    go_wp2_with fail
    refine bodyPost_ret (results_tmp2 Try.results31 _ _ _) rfl ?_
    exact ⟨rfl, rfl⟩
theorem ok_new {n : Int} (h : 1 ≤ n ∧ n ≤ 281474976710656) : Ok ⟨n, []⟩ :=
  ⟨h.1, by simp only; omega, List.Pairwise.nil, by simp, by simp, by simp, by simp, by simp, by simp [liveS], by simp [placesS, ownH]⟩
theorem new_tab {w W : World} {n : Int} {M : Nat} (h : 1 ≤ n ∧ n ≤ 281474976710656) (hB : Below w.heap.size w W) (hm : W.heap[w.heap.size]? = some (.map #[] 0)) (hM : W.heap[M]? = some (.cells (newCs n w.heap.size) 69 (0, 0))) (hMw : w.heap.size ≤ M) :
    TabAt W (fun k => k < w.heap.size) M ⟨n, []⟩ := by
  refine ⟨⟨newCs n w.heap.size, w.heap.size, fun _ => none, fun _ => 0⟩, ok_new h, fun k hk => Nat.lt_of_lt_of_le hk hB.size, hM, rfl, rfl, rfl, rfl, ?_, by omega, by simp, ?_, ?_, fun i hi d hd => (by cases hd), fun i j d e hi hj hd => (by cases hd)⟩
  · intro i hi
    match i, hi with
    | 0, _ => rfl
    | 1, _ => rfl
    | 2, _ => rfl
    | 3, _ => rfl
    | 4, _ => rfl
    | 5, _ => rfl
    | 6, _ => rfl
    | 7, _ => rfl
    | 8, _ => rfl
    | 9, _ => rfl
    | 10, _ => rfl
    | 11, _ => rfl
    | 12, _ => rfl
    | 13, _ => rfl
    | 14, _ => rfl
    | 15, _ => rfl
    | 16, _ => rfl
    | _ + 17, h => exact absurd h (by omega)
  · refine ⟨[], (MapL.made Try.prog 3 kI hV w).same ?_, fun s => rfl⟩
    rw [hm, heap_alloc_new]
  · intro i hi
    exact OwnE.nil _ _ _ _
set_option maxRecDepth 100000 in
theorem new_any (n : Int) (w : World) (h : 1 ≤ n ∧ n ≤ 281474976710656) : Calls Try.prog 31 #[.int .i64 n] w fun e w' => ∃ M, e = .returned (.tuple #[.pointer (some ⟨M, 0, none⟩), .int .i64 0]) ∧ TabAt w' (fun k => k < w.heap.size) M ⟨n, []⟩ ∧ Below w.heap.size w w' := by
  have hB1 := (Below.refl w.heap.size w).alloc (Nat.le_refl _) (.map #[] 0)
  have hs1 : (w.alloc (.map #[] 0)).heap.size = w.heap.size + 1 := by simp
  have hB2 := hB1.alloc (by rw [hs1]; omega) (.cells (newCs n w.heap.size) 69)
  have hm := (Below.heap_alloc (w.alloc (.map #[] 0)) (.cells (newCs n w.heap.size) 69) _ (lt_heap (heap_alloc_new w (.map #[] 0)))).trans (heap_alloc_new w (.map #[] 0))
  have hM := heap_alloc_new (w.alloc (.map #[] 0)) (.cells (newCs n w.heap.size) 69)
  rw [hs1] at hM
  have HFIN : Hd (TabAt ((w.alloc (.map #[] 0)).alloc (.cells (newCs n w.heap.size) 69)) (fun k => k < w.heap.size) (w.heap.size + 1) ⟨n, []⟩ ∧ Below w.heap.size w ((w.alloc (.map #[] 0)).alloc (.cells (newCs n w.heap.size) 69))) := ⟨new_tab h hB2 hm hM (by omega), hB2⟩
  have h1 : 1 ≤ n := h.1
  have h2 : n ≤ 281474976710656 := h.2
  have d1 : decide (281474976710656 < n) = false := by simp; omega
  clear hB1 hs1 hB2 hm hM h
  have hmm := @run_makeMap Try.prog
  go_enter Try.func31, Try.ntmps31
  go_wp2_with fail
  refine bodyPost_ret (results_tmp2 Try.results31 _ _ _) rfl ?_
  exact ⟨_, rfl, HFIN.out⟩
section
variable {y : Lay} {w : World} {pr : Nat → Prop} {M : Nat} {st : St}
set_option maxRecDepth 100000 in
theorem root_any (h : TabL y w pr M st) (port tw : Int) (r : BitVec 8) :
    Calls Try.prog 28 #[.pointer (some ⟨M, 0, none⟩), .int .i64 port, .int .i64 tw, h8 r] w fun e w' => e = .returned (.tuple #[.int .i64 (rootN st port tw r), .int .i64 (rootE st port tw r)]) ∧ TabAt w' pr M (rootS st port tw r) ∧ Kept pr w w' := by
  have H := Hd.mk (is_at h.t0)
  have HT := Hd.mk h
  have BAD : ∀ e : Int, rootW port tw r = e → ¬ e = 0 → rootN st port tw r = 0 ∧ rootE st port tw r = e ∧ rootS st port tw r = st := by
    rintro e rfl he
    exact ⟨by unfold rootN; rw [if_neg he], by unfold rootE; rw [if_neg he], by unfold rootS; rw [if_neg he]⟩
  have HBAD := Hd.mk BAD
  clear BAD h
  by_cases h0 : port < 0
  · obtain ⟨e1, e2, e3⟩ := HBAD.out 2 (by unfold rootW; rw [if_pos (.inl h0)]) (by decide)
    rw [e1, e2, e3]
    clear e1 e2 e3 HBAD
    go_enter Try.func28, Try.ntmps28
    go_wp2_with fail
    refine H.out.mono ?_
    rintro e w1 ⟨rfl, rfl⟩
    go_wp2_with fail
    refine bodyPost_ret (results_tmp2 Try.results28 _ _ _) rfl ?_
    exact ⟨rfl, ⟨y, HT.out⟩, Kept.refl _ _⟩
  have h0' : 0 ≤ port := by omega
  have d0 : decide (port < 0) = false := by simp; omega
  by_cases h1 : 4294967295 < port
  · obtain ⟨e1, e2, e3⟩ := HBAD.out 2 (by unfold rootW; rw [if_pos (.inr (.inl h1))]) (by decide)
    rw [e1, e2, e3]
    have d1 : decide (4294967295 < port) = true := by simp; omega
    clear e1 e2 e3 HBAD h0
    go_enter Try.func28, Try.ntmps28
    go_wp2_with fail
    refine H.out.mono ?_
    rintro e w1 ⟨rfl, rfl⟩
    go_wp2_with fail
    refine bodyPost_ret (results_tmp2 Try.results28 _ _ _) rfl ?_
    exact ⟨rfl, ⟨y, HT.out⟩, Kept.refl _ _⟩
  have d1 : decide (4294967295 < port) = false := by simp; omega
  have hh := holder_any tw w
  cases hb : badH tw with
  | true =>
    obtain ⟨e1, e2, e3⟩ := HBAD.out 2 (by unfold rootW; rw [if_pos (.inr (.inr hb))]) (by decide)
    rw [e1, e2, e3]
    rw [hb] at hh
    have HH := Hd.mk hh
    clear e1 e2 e3 HBAD h0 h1 hb hh
    go_enter Try.func28, Try.ntmps28
    go_wp2_with fail
    refine H.out.mono ?_
    rintro e w1 ⟨rfl, rfl⟩
    go_wp2_with fail
    refine HH.out.mono ?_
    rintro e w1 ⟨rfl, rfl⟩
    go_wp2_with fail
    refine bodyPost_ret (results_tmp2 Try.results28 _ _ _) rfl ?_
    exact ⟨rfl, ⟨y, HT.out⟩, Kept.refl _ _⟩
  | false =>
    rw [hb] at hh
    have HH := Hd.mk hh
    have hm := mright_any r w
    cases hbm : badM r with
    | true =>
      obtain ⟨e1, e2, e3⟩ := HBAD.out 220 (by unfold rootW; rw [if_neg (by rw [hb]; simp; omega), if_pos hbm]) (by decide)
      rw [e1, e2, e3]
      rw [hbm] at hm
      have HM := Hd.mk hm
      clear e1 e2 e3 HBAD h0 h1 hb hh hm hbm
      go_enter Try.func28, Try.ntmps28
      go_wp2_with fail
      refine H.out.mono ?_
      rintro e w1 ⟨rfl, rfl⟩
      go_wp2_with fail
      refine HH.out.mono ?_
      rintro e w1 ⟨rfl, rfl⟩
      go_wp2_with fail
      refine HM.out.mono ?_
      rintro e w1 ⟨rfl, hB⟩
      have HB := Hd.mk hB
      clear hB
      go_wp2_with fail
      refine bodyPost_ret (results_tmp2 Try.results28 _ _ _) rfl ?_
      exact ⟨rfl, ⟨y, HT.out.below HB.out⟩, HT.out.kept HB.out⟩
    | false =>
      have e0 : rootW port tw r = 0 := by unfold rootW; rw [if_neg (by rw [hb]; simp; omega), if_neg (by rw [hbm]; simp)]
      have e1 : rootN st port tw r = addN st tw := by unfold rootN; rw [if_pos e0]
      have e2 : rootE st port tw r = addE st tw := by unfold rootE; rw [if_pos e0]
      have e3 : rootS st port tw r = addS st ⟨0, 0, port, tw, r⟩ := by unfold rootS; rw [if_pos e0]
      rw [hbm] at hm
      have HM := Hd.mk hm
      have hb2 := hb
      unfold badH at hb2
      simp at hb2
      obtain ⟨i, rfl⟩ : ∃ i : Nat, tw = (i : Int) := ⟨tw.toNat, by omega⟩
      have hr : r.toNat ≤ 15 := by unfold badM at hbm; simpa using hbm
      have HADD := Hd.mk (fun (W : World) (hB : Below w.heap.size w W) => add_any (HT.out.below hB) ⟨0, 0, port, (i : Int), r⟩ i (by omega) rfl ⟨by simp, by have := HT.out.ok.n1; simp only; omega⟩ ⟨hr, h0', by simp only; omega⟩)
      rw [e1, e2, e3]
      clear e0 e1 e2 e3 HBAD h0 h1 hb hh hm hbm hb2 hr
      go_enter Try.func28, Try.ntmps28
      go_wp2_with fail
      refine H.out.mono ?_
      rintro e w1 ⟨rfl, rfl⟩
      go_wp2_with fail
      refine HH.out.mono ?_
      rintro e w1 ⟨rfl, rfl⟩
      go_wp2_with fail
      refine HM.out.mono ?_
      rintro e w1 ⟨rfl, hB⟩
      have HB := Hd.mk hB
      clear hB
      go_wp2_with fail
      refine (HADD.out _ HB.out).mono ?_
      rintro e w2 ⟨rfl, hT2, hK2⟩
      have HT2 := Hd.mk hT2
      have HK2 := Hd.mk hK2
      clear hT2 hK2 HADD
      go_wp2_with fail
      refine bodyPost_ret (results_tmp2 Try.results28 _ _ _) rfl ?_
      exact ⟨rfl, HT2.out, (HT.out.kept HB.out).trans HK2.out⟩

theorem alloc5 {w : World} {x : Hn} : ∀ W, w.alloc (.cells #[.int .i64 x.ser, .int .i64 x.par, .int .i64 x.port, .int .i64 x.hol, h8 x.rts] 34) = W → Below w.heap.size w W ∧ W.heap[w.heap.size]? = some (.cells #[.int .i64 x.ser, .int .i64 x.par, .int .i64 x.port, .int .i64 x.hol, h8 x.rts] 34 (0, 0)) := by
  rintro W rfl
  exact ⟨(Below.refl _ _).alloc (Nat.le_refl _) _, heap_alloc_new _ _⟩
set_option maxRecDepth 100000 in
set_option maxHeartbeats 1000000 in
theorem der_any (h : TabL y w pr M st) (s tw : Int) (r : BitVec 8) (hs : -9223372036854775808 ≤ s ∧ s ≤ 9223372036854775807) :
    Calls Try.prog 25 #[.pointer (some ⟨M, 0, none⟩), .int .i64 s, .int .i64 tw, h8 r] w fun e w' => e = .returned (.tuple #[.int .i64 (derN st s tw r), .int .i64 (derE st s tw r)]) ∧ TabAt w' pr M (derS st s tw r) ∧ Kept pr w w' := by
  have hget := get_any h s hs
  have HT := Hd.mk h
  have BAD : ∀ e : Int, derW st s tw r = e → ¬ e = 0 → derN st s tw r = 0 ∧ derE st s tw r = e ∧ derS st s tw r = st := by
    rintro e rfl he
    exact ⟨by unfold derN; rw [if_neg he], by unfold derE; rw [if_neg he], by unfold derS; rw [if_neg he]⟩
  have HBAD := Hd.mk BAD
  obtain ⟨ge, hge⟩ : ∃ e, getE st s = e := ⟨_, rfl⟩
  have hge01 : ge = 0 ∨ ge = 6 := by rw [← hge]; unfold getE; split <;> simp
  obtain ⟨x, hx⟩ : ∃ x, getV st s = x := ⟨_, rfl⟩
  have HX := Hd.mk hx
  have HGE := Hd.mk hge
  rw [hge, hx] at hget
  obtain ⟨x0, x1, x2, x3, x4⟩ := x
  have hget : Calls Try.prog 26 #[.pointer (some ⟨M, 0, none⟩), .int .i64 s] w fun e w' => e = .returned (.tuple #[.agg #[.int .i64 x0, .int .i64 x1, .int .i64 x2, .int .i64 x3, h8 x4], .int .i64 ge]) ∧ Below w.heap.size w w' := hget
  have HGET := Hd.mk hget
  clear BAD h hget hge hx
  rcases hge01 with rfl | rfl
  rotate_left
  · obtain ⟨e1, e2, e3⟩ := HBAD.out 6 (by unfold derW; rw [HGE.out]; rfl) (by decide)
    rw [e1, e2, e3]
    clear e1 e2 e3 HBAD
    go_enter Try.func25, Try.ntmps25
    go_wp2_with fail
    refine HGET.out.mono ?_
    rintro e w1 ⟨rfl, hB⟩
    have HB := Hd.mk (hB.alloc hB.size (.cells #[.int .i64 x0, .int .i64 x1, .int .i64 x2, .int .i64 x3, h8 x4] 34))
    clear hB
    go_wp2_with fail
    refine bodyPost_ret (results_tmp2 Try.results25 _ _ _) rfl ?_
    exact ⟨rfl, ⟨y, HT.out.below HB.out⟩, HT.out.kept HB.out⟩
  have hh := fun W => holder_any tw W
  have CALL : ∀ w1 : World, Below w.heap.size w w1 → ∃ W2, w1.alloc (.cells #[.int .i64 x0, .int .i64 x1, .int .i64 x2, .int .i64 x3, h8 x4] 34) = W2 ∧ Below w.heap.size w W2 ∧ W2.heap[w1.heap.size]? = some (.cells #[.int .i64 x0, .int .i64 x1, .int .i64 x2, .int .i64 x3, h8 x4] 34 (0, 0)) :=
    fun w1 hB => ⟨_, rfl, hB.alloc hB.size _, heap_alloc_new _ _⟩
  have HCALL := Hd.mk CALL
  clear CALL
  cases hb : badH tw with
  | true =>
    obtain ⟨e1, e2, e3⟩ := HBAD.out 2 (by unfold derW; rw [if_pos HGE.out, if_pos hb]) (by decide)
    rw [e1, e2, e3]
    rw [hb] at hh
    have HH := Hd.mk hh
    clear e1 e2 e3 HBAD hb hh
    go_enter Try.func25, Try.ntmps25
    go_wp2_with fail
    refine HGET.out.mono ?_
    rintro e w1 ⟨rfl, hB⟩
    obtain ⟨W2, hW2, hB2, hb2⟩ := HCALL.out w1 hB
    have HB := Hd.mk hB2
    go_upto_region 2 with fail
    try rw [hW2]
    clear hB hW2 hB2 hb2 HCALL
    go_wp2_with fail
    refine (HH.out _).mono ?_
    rintro e w1 ⟨rfl, rfl⟩
    go_wp2_with fail
    refine bodyPost_ret (results_tmp2 Try.results25 _ _ _) rfl ?_
    exact ⟨rfl, ⟨y, HT.out.below HB.out⟩, HT.out.kept HB.out⟩
  | false =>
    rw [hb] at hh
    have HH := Hd.mk hh
    obtain ⟨he, hhe⟩ : ∃ e, handE x4 r = e := ⟨_, rfl⟩
    have hhand := fun W => hand_any x4 r W
    rw [hhe] at hhand
    have HHA := Hd.mk hhand
    have eW : derW st s tw r = he := by unfold derW; rw [if_pos HGE.out, if_neg (by rw [hb]; simp), HX.out]; exact hhe
    by_cases h0 : he = 0
    · have e1 : derN st s tw r = addN st tw := by unfold derN; rw [eW, if_pos h0]
      have e2 : derE st s tw r = addE st tw := by unfold derE; rw [eW, if_pos h0]
      have e3 : derS st s tw r = addS st ⟨0, s, x2, tw, r⟩ := by unfold derS; rw [eW, if_pos h0, HX.out]
      subst h0
      have hb2 := hb
      unfold badH at hb2
      simp at hb2
      obtain ⟨i, rfl⟩ : ∃ i : Nat, tw = (i : Int) := ⟨tw.toNat, by omega⟩
      have hr : r.toNat ≤ 15 := by
        unfold handE badM at hhe
        split at hhe
        · cases hhe
        · rename_i hc; simp at hc; omega
      obtain ⟨_, hxm, hxs⟩ := getV_mem HGE.out
      rw [HX.out] at hxm hxs
      have h1 := HT.out.ok.lo _ (live_mem.1 hxm)
      have h2 := HT.out.ok.ports _ (live_mem.1 hxm)
      simp only at hxs h1 h2
      have HADD := Hd.mk (fun (W : World) (hB : Below w.heap.size w W) => add_any (HT.out.below hB) ⟨0, s, x2, (i : Int), r⟩ i (by omega) rfl ⟨by simp only; omega, by simp only; omega⟩ ⟨hr, by simp only; omega, by simp only; omega⟩)
      rw [e1, e2, e3]
      clear eW e1 e2 e3 HBAD hb hh hhe hhand hb2 hr hxm hxs h1 h2
      go_enter Try.func25, Try.ntmps25
      go_wp2_with fail
      refine HGET.out.mono ?_
      rintro e w1 ⟨rfl, hB⟩
      obtain ⟨W2, hW2, hB2, hb2⟩ := HCALL.out w1 hB
      have HB := Hd.mk hB2
      go_upto_region 2 with fail
      try rw [hW2]
      have q4 := (cells_cell hb2 4).trans (show _ = some (h8 x4) from rfl)
      have HQ := Hd.mk hb2
      clear hB hW2 hB2 hb2 HCALL
      go_wp2_with fail
      refine (HH.out _).mono ?_
      rintro e w3 ⟨rfl, rfl⟩
      go_wp2_with fail
      refine (HHA.out _).mono ?_
      rintro e w3 ⟨rfl, hB3⟩
      have hq3 := (hB3.block _ (lt_heap HQ.out)).trans HQ.out
      have q2 := (cells_cell hq3 2).trans (show _ = some (.int .i64 x2) from rfl)
      have HB3 := Hd.mk (HB.out.trans (hB3.mono HB.out.size))
      clear hB3 hq3 q4 HQ
      go_wp2_with fail
      refine (HADD.out _ HB3.out).mono ?_
      rintro e w4 ⟨rfl, hT2, hK2⟩
      have HT2 := Hd.mk hT2
      have HK2 := Hd.mk hK2
      clear hT2 hK2 HADD q2
      go_wp2_with fail
      refine bodyPost_ret (results_tmp2 Try.results25 _ _ _) rfl ?_
      exact ⟨rfl, HT2.out, (HT.out.kept HB3.out).trans HK2.out⟩
    · obtain ⟨e1, e2, e3⟩ := HBAD.out he eW h0
      rw [e1, e2, e3]
      have t0 : (he == 0) = false := by simpa using h0
      have t1 : (he != 0) = true := by simpa using h0
      have t2 : decide (he = 0) = false := by simpa using h0
      clear eW e1 e2 e3 HBAD hb hh hhe hhand h0
      go_enter Try.func25, Try.ntmps25
      go_wp2_with fail
      refine HGET.out.mono ?_
      rintro e w1 ⟨rfl, hB⟩
      obtain ⟨W2, hW2, hB2, hb2⟩ := HCALL.out w1 hB
      have HB := Hd.mk hB2
      go_upto_region 2 with fail
      try rw [hW2]
      have q4 := (cells_cell hb2 4).trans (show _ = some (h8 x4) from rfl)
      clear hB hW2 hB2 hb2 HCALL
      go_wp2_with fail
      refine (HH.out _).mono ?_
      rintro e w3 ⟨rfl, rfl⟩
      go_wp2_with fail
      refine (HHA.out _).mono ?_
      rintro e w3 ⟨rfl, hB3⟩
      have HB3 := Hd.mk (HB.out.trans (hB3.mono HB.out.size))
      clear hB3 q4
      go_wp2_with fail
      refine bodyPost_ret (results_tmp2 Try.results25 _ _ _) rfl ?_
      exact ⟨rfl, ⟨y, HT.out.below HB3.out⟩, HT.out.kept HB3.out⟩
end
end Go.Proofs.Ytinagiofolmhbaa
