/- The iterator of windows: its walk. -/
import Derived.Test.YtlblpmadehikgaaB3
namespace Go.Proofs.Ytlblpmadehikgaa
open Go.RowKit Go.Shelf
attribute [local go_sem] Oper.semAt_some
set_option linter.unusedVariables false

theorem drop_cons' {α : Type} {X : List α} {k : Nat} {y : α} {r : List α} (h : X.drop k = y :: r) : ∃ hk : k < X.length, X[k] = y ∧ X.drop (k + 1) = r := by
  have hk : k < X.length := by
    rcases Nat.lt_or_ge k X.length with h1 | h1
    · exact h1
    · rw [List.drop_eq_nil_of_le h1] at h; cases h
  rw [List.drop_eq_getElem_cons hk] at h
  simp only [List.cons.injEq] at h
  exact ⟨hk, h.1, h.2⟩
theorem set2_grown (W : World) (g : Nat) (x y : Value) : W.grownBy ((W.setCell ⟨g, 0, none⟩ x).setCell ⟨g, 1, none⟩ y) (some g) := grown_trans (grown_set _ _ _ _) (grown_set _ _ _ _)
theorem set2_heap {W : World} {g : Nat} {a b : Value} {t : TypeId} (h : W.heap[g]? = some (.cells #[a, b] t (0, 0))) (x y : Value) :
    ((W.setCell ⟨g, 0, none⟩ x).setCell ⟨g, 1, none⟩ y).heap[g]? = some (.cells #[x, y] t (0, 0)) := by
  have := cells_set (o := 1) (cells_set (o := 0) h x) y
  simpa using this
theorem time_iff {t : Int} : timeB t = true ↔ 0 ≤ t ∧ t ≤ 281474976710656 := by rw [timeB, Bool.and_eq_true, decide_eq_true_eq, decide_eq_true_eq]
theorem ahead_iff {t : Int} : aheadB t = true ↔ 1 ≤ t ∧ t ≤ 1099511627776 := by rw [aheadB, Bool.and_eq_true, decide_eq_true_eq, decide_eq_true_eq]
theorem hor_iff {t : Int} : horB t = true ↔ 0 ≤ t ∧ t ≤ 281474976710657 := by rw [horB, Bool.and_eq_true, decide_eq_true_eq, decide_eq_true_eq]

set_option maxRecDepth 100000 in
set_option maxHeartbeats 4000000 in
theorem wins1 (T HZ AH L : Nat) (a : Option Addr) (c : Nat) (l S : List Int) (ah h : Int) (W0 : World) (I : Nat → Nat → World → Prop) (J : World → Prop)
    (hT : W0.heap[T]? = some (.cells #[.slice a l.length c] 24 (0, 0))) (hH : W0.heap[HZ]? = some (.cells #[.int .i64 h] 3 (0, 0))) (hA : W0.heap[AH]? = some (.cells #[.int .i64 ah] 3 (0, 0)))
    (hs : SrcI W0 (.slice a l.length c) l) (hl : l.length ≤ 100000) (hsort : S.Pairwise (· ≤ ·)) (hperm : l.Perm S) (hah : aheadB ah = true) (hh : horB h = true) (hall : ∀ t ∈ S, timeB t = true)
    (h0 : ∀ W, Below W0.heap.size W0 W → I W.heap.size 0 W)
    (hkeep : ∀ Nn k W W', I Nn k W → W.grownBy W' (some W0.heap.size) → W0.heap.size < Nn → I Nn k W')
    (hbox : ∀ Nn k W, I Nn k W → W.heap[HZ]? = some (.cells #[.int .i64 h] 3 (0, 0)) ∧ W.heap[AH]? = some (.cells #[.int .i64 ah] 3 (0, 0)) ∧ Nn ≤ W.heap.size)
    (hY : ∀ Nn k W (hk : k < (winsL ah h none S).length), I Nn k W →
      YieldAt Fence.wide 0 Try.prog L #[.agg #[.int .i64 (winsL ah h none S)[k].1, .int .i64 (winsL ah h none S)[k].2]] W
        (fun e W'' => (e = .returned (.bool true) ∧ I Nn (k + 1) W'' ∧ ∀ x, W0.heap.size ≤ x → x < Nn → W''.heap[x]? = W.heap[x]?) ∨ (e = .returned (.bool false) ∧ J W''))) :
    Calls Try.prog 47 #[.func (.yield L) #[] #[], .pointer (some ⟨T, 0, none⟩), .pointer (some ⟨HZ, 0, none⟩), .pointer (some ⟨AH, 0, none⟩)] W0 fun e W' => (∃ v, e = .returned v) ∧ ((∃ Nn, I Nn (winsL ah h none S).length W') ∨ J W') := by
  refine (callsIn_wide (n := 0)).1 ?_
  refine callsIn_of_wp Try.func47 rfl trivial ?_
  simp only [Try.ntmps47, List.size_toArray, List.length_cons, List.length_nil, Nat.reduceAdd, Nat.reduceSub, Array.replicate_succ, Array.replicate_zero, List.push_toArray, List.append_toArray, List.nil_append, List.cons_append]
  have hSl : S.length ≤ 100000 := by rw [← hperm.length_eq]; exact hl
  have HI0 := Hd.mk h0
  have HKP := Hd.mk hkeep
  have HBX := Hd.mk hbox
  have HY := Hd.mk hY
  have HT := Hd.mk hT
  have HH := Hd.mk hH
  have HA := Hd.mk hA
  have HS := Hd.mk hs
  have hb0 := cells_cell hT 0
  have hTl := lt_of_heap hT
  clear h0 hkeep hbox hY hT hH hA hs
  have hB1 : Below W0.heap.size W0 (W0.alloc (.cells #[.int .i64 0, .int .i64 0] 28)) := bl_alloc (Below.refl _ _)
  have hb1 := (hB1.cell (p := ⟨T, 0, none⟩) hTl).trans hb0
  clear hb0
  gi_wp2_with fail
  refine (callsIn_wide.2 (values_any _ _ _ _)).mono ?_
  rintro e w1 ⟨rfl, rfl⟩
  simp only [World.size_alloc]
  have hBv : ((W0.alloc (.cells #[.int .i64 0, .int .i64 0] 28)).alloc (.cells #[.slice a l.length c] 24)).heap[W0.heap.size + 1]? = some (.cells #[.slice a l.length c] 24 (0, 0)) := by
    have := World.alloc_heap_new (W0.alloc (.cells #[.int .i64 0, .int .i64 0] 28)) (.cells #[.slice a l.length c] 24)
    simpa only [World.size_alloc] using this
  have hBG : ((W0.alloc (.cells #[.int .i64 0, .int .i64 0] 28)).alloc (.cells #[.slice a l.length c] 24)).heap[W0.heap.size]? = some (.cells #[.int .i64 0, .int .i64 0] 28 (0, 0)) :=
    (Below.heap_alloc _ _ _ (by simp)).trans (World.alloc_heap_new _ _)
  have hB2 : Below W0.heap.size W0 ((W0.alloc (.cells #[.int .i64 0, .int .i64 0] 28)).alloc (.cells #[.slice a l.length c] 24)) := bl_alloc (bl_alloc (Below.refl _ _))
  have HX := Hd.mk (sorted_vals (W0.heap.size + 1) a c l S _ hBv (HS.out.below hB2) hl hsort hperm)
  obtain ⟨wv, hwv⟩ : ∃ x, ((W0.alloc (.cells #[.int .i64 0, .int .i64 0] 28)).alloc (.cells #[.slice a l.length c] 24)) = x := ⟨_, rfl⟩
  rw [hwv] at hBG hB2 HX ⊢
  have hGl := lt_of_heap hBG
  have HBG := Hd.mk hBG
  have HB2 := Hd.mk hB2
  clear hwv hBv hb1 hB1 hBG hB2
  gi_wp2_with fail
  refine (callsIn_wide.2 HX.out).mono ?_
  rintro e w2 ⟨v', rfl, hO, hB⟩
  have HO := Hd.mk hO
  have HG2 := Hd.mk ((hB.block _ hGl).trans HBG.out)
  have HB3 := Hd.mk (HB2.out.trans (hB.mono HB2.out.size))
  have HLW := Hd.mk hB.size
  clear hO hB HX HB2 HBG
  obtain ⟨a', c', rfl⟩ := HO.out.src.shape
  gi_wp2_with fail
  gi_loopw [13] (fun i W => ∃ (j k : Nat) (o : Option (Int × Int)), j ≤ S.length ∧ i = .int .i64 j ∧ k ≤ (winsL ah h none S).length ∧ Hd ((winsL ah h none S).drop k = winsL ah h o (S.drop j)) ∧ Hd (I w2.heap.size k W) ∧ Hd (W.heap[W0.heap.size]? = some (.cells #[.int .i64 (o.getD (0, 0)).1, .int .i64 (o.getD (0, 0)).2] 28 (0, 0))) ∧
      Hd (∀ x, W0.heap.size ≤ x → x < w2.heap.size → x ≠ W0.heap.size → W.heap[x]? = w2.heap[x]?) ∧ Hd (∀ w, o = some w → 0 < w.2)) (fun i _ => S.length - (intOf i).toNat)
  case atStart => exact ⟨0, 0, none, by omega, rfl, by omega, ⟨by simp⟩, ⟨HI0.out _ HB3.out⟩, HG2, ⟨fun _ _ _ _ => rfl⟩, ⟨by simp⟩⟩
  case round =>
    obtain ⟨j, k, o, hj, rfl, hk, HR, HI, HG, HK, HO2⟩ := hrel
    by_cases hlt : j < S.length
    · obtain ⟨g, cap, hv, hg, hRW, _, _⟩ := HO.out.row (by omega)
      simp only [Value.slice.injEq] at hv
      obtain ⟨rfl, -, rfl⟩ := hv
      have hx : wr.cell? ⟨g, j, none⟩ = some (.int .i64 (S.getD j 0)) := by
        have h1 := hRW.cell j hlt
        have h2 := HK.out g (by omega) hRW.lt (by omega)
        simpa only [World.cell?, h2] using h1
      have HLT := Hd.mk hlt
      have HDR : Hd (S.drop j = S.getD j 0 :: S.drop (j + 1)) := ⟨by rw [List.drop_eq_getElem_cons hlt, List.getD_eq_getElem?_getD, List.getElem?_eq_getElem hlt, Option.getD_some]⟩
      have htx : timeB (S.getD j 0) = true := hall _ (by rw [List.getD_eq_getElem?_getD, List.getElem?_eq_getElem hlt, Option.getD_some]; exact List.getElem_mem hlt)
      obtain ⟨x, hX⟩ : ∃ x, S.getD j 0 = x := ⟨_, rfl⟩
      rw [hX] at hx HDR htx
      obtain ⟨x0, x1⟩ := time_iff.1 htx
      obtain ⟨a0, a1⟩ := ahead_iff.1 hah
      obtain ⟨h0, h1⟩ := hor_iff.1 hh
      have HBW := HBX.out _ _ _ HI.out
      have cH := cells_cell HBW.1 0
      have cA := cells_cell HBW.2.1 0
      have HBWS := Hd.mk HBW
      have g0 := cells_cell HG.out 0
      have g1 := cells_cell HG.out 1
      have gf0 := cells_free HG.out 0
      have gf1 := cells_free HG.out 1
      have j0 : (0 : Int) ≤ (j : Int) := by omega
      have j1 : (j : Int) < (S.length : Int) := by omega
      clear hX htx HBW hRW hlt hj hg
      by_cases hst : h ≤ x
      · have hke : k = (winsL ah h none S).length := by
          have h1 := HR.out
          rw [HDR.out, winsL_stop hst] at h1
          have h2 := congrArg List.length h1
          rw [List.length_drop] at h2
          simp at h2
          omega
        have HKE := Hd.mk hke
        clear hke
        gi_wp2_with fail
        refine bodyPost_ret (results_none rfl _ _ _) rfl ?_
        exact ⟨⟨_, rfl⟩, .inl ⟨_, by rw [← HKE.out]; exact HI.out⟩⟩
      have hlo : x < h := by omega
      clear hst
      rcases o with _ | wd
      · simp only [Option.getD_none] at g0 g1
        have hne : ∀ W, (binOp .neq 28 (.agg #[.int .i64 0, .int .i64 0]) (.agg #[.int .i64 0, .int .i64 0])).run Try.prog W = .ok (.bool false) W := fun W => by rw [nev_w28]; rfl
        have HRN := Hd.mk ((HR.out.trans (by rw [HDR.out])).trans (winsL_new hlo rfl))
        obtain ⟨m, hm⟩ : ∃ m, min (x + ah) h = m := ⟨_, rfl⟩
        rw [hm] at HRN
        have hw : IntKind.i64.wrap (x + ah) = x + ah := IntWalk.i64_in _ ⟨by omega, by omega⟩
        have hm0 : 0 < m := by omega
        obtain ⟨hkl, hxk, hdr⟩ := drop_cons' HRN.out
        have hg2 := set2_grown wr W0.heap.size (.int .i64 x) (.int .i64 m)
        have HG2 := Hd.mk (set2_heap HG.out (.int .i64 x) (.int .i64 m))
        have hI2 := HKP.out _ _ _ _ HI.out hg2 (Nat.lt_of_lt_of_le hGl HLW.out)
        obtain ⟨fn, tmps, asg, body, hy, hR⟩ := HY.out _ _ _ hkl hI2
        rw [hxk] at hy
        have HRR := Hd.mk hR
        have HGR := Hd.mk hg2
        have HDN := Hd.mk hdr
        have HKL := Hd.mk hkl
        have HM0 := Hd.mk hm0
        clear hR hg2 hI2 hxk hdr hkl hm0
        gi_wp2_with fail
        refine HRR.out.mono ?_
        rintro e W2 (⟨rfl, hI2, hold⟩ | ⟨rfl, hJ2⟩)
        · have HI2 := Hd.mk hI2
          have HOLD := Hd.mk hold
          clear hI2 hold HRR hy
          gi_wp2_with fail
          go_roundw
          case rel =>
            have hgl := hGl
            have hlw := HLW.out
            refine ⟨j + 1, k + 1, some (x, m), HLT.out, by go_num, HKL.out, ⟨HDN.out⟩, HI2, ⟨(HOLD.out _ (Nat.le_refl _) (by omega)).trans HG2.out⟩, ⟨fun z h1 h2 h3 => ?_⟩, ⟨fun w hw => by cases hw; exact HM0.out⟩⟩
            exact (HOLD.out z h1 h2).trans ((HGR.out.block z (by have := HBWS.out.2.2; omega) (by intro e; cases e; exact h3 rfl)).trans (HK.out z h1 h2 h3))
          case measure => have := HLT.out; simp [intOf] <;> omega
        · have HJ2 := Hd.mk hJ2
          clear hJ2 HRR hy
          gi_wp2_with fail
          refine bodyPost_ret (results_none rfl _ _ _) rfl ?_
          exact ⟨⟨_, rfl⟩, .inr HJ2.out⟩
      · simp only [Option.getD_some] at g0 g1
        have hne : ∀ W, (binOp .neq 28 (.agg #[.int .i64 wd.1, .int .i64 wd.2]) (.agg #[.int .i64 0, .int .i64 0])).run Try.prog W = .ok (.bool true) W := fun W => by
          rw [nev_w28, show (wd.2 == 0) = false from beq_false_of_ne (by have := HO2.out _ rfl; omega), Bool.and_false]; rfl
        obtain ⟨p, q⟩ := wd
        simp only at g0 g1 hne
        by_cases hq : x < q
        · have HRN := Hd.mk ((HR.out.trans (by rw [HDR.out])).trans (winsL_skip (ts := S.drop (j + 1)) hlo (show stillIn (some (p, q)) x = true from decide_eq_true hq)))
          gi_wp2_with fail
          go_roundw
          case rel => exact ⟨j + 1, k, some (p, q), HLT.out, by go_num, hk, HRN, HI, HG, HK, HO2⟩
          case measure => have := HLT.out; simp [intOf] <;> omega
        · have hqn : decide (x < q) = false := decide_eq_false hq
          have HRN := Hd.mk ((HR.out.trans (by rw [HDR.out])).trans (winsL_new hlo (show stillIn (some (p, q)) x = false from decide_eq_false hq)))
          obtain ⟨m, hm⟩ : ∃ m, min (x + ah) h = m := ⟨_, rfl⟩
          rw [hm] at HRN
          have hw : IntKind.i64.wrap (x + ah) = x + ah := IntWalk.i64_in _ ⟨by omega, by omega⟩
          have hm0 : 0 < m := by omega
          obtain ⟨hkl, hxk, hdr⟩ := drop_cons' HRN.out
          have hg2 := set2_grown wr W0.heap.size (.int .i64 x) (.int .i64 m)
          have HG2 := Hd.mk (set2_heap HG.out (.int .i64 x) (.int .i64 m))
          have hI2 := HKP.out _ _ _ _ HI.out hg2 (Nat.lt_of_lt_of_le hGl HLW.out)
          obtain ⟨fn, tmps, asg, body, hy, hR⟩ := HY.out _ _ _ hkl hI2
          rw [hxk] at hy
          have HRR := Hd.mk hR
          have HGR := Hd.mk hg2
          have HDN := Hd.mk hdr
          have HKL := Hd.mk hkl
          have HM0 := Hd.mk hm0
          clear hR hg2 hI2 hxk hdr hkl hm0
          gi_wp2_with fail
          refine HRR.out.mono ?_
          rintro e W2 (⟨rfl, hI2, hold⟩ | ⟨rfl, hJ2⟩)
          · have HI2 := Hd.mk hI2
            have HOLD := Hd.mk hold
            clear hI2 hold HRR hy
            gi_wp2_with fail
            go_roundw
            case rel =>
              have hgl := hGl
              have hlw := HLW.out
              refine ⟨j + 1, k + 1, some (x, m), HLT.out, by go_num, HKL.out, ⟨HDN.out⟩, HI2, ⟨(HOLD.out _ (Nat.le_refl _) (by omega)).trans HG2.out⟩, ⟨fun z h1 h2 h3 => ?_⟩, ⟨fun w hw => by cases hw; exact HM0.out⟩⟩
              exact (HOLD.out z h1 h2).trans ((HGR.out.block z (by have := HBWS.out.2.2; omega) (by intro e; cases e; exact h3 rfl)).trans (HK.out z h1 h2 h3))
            case measure => have := HLT.out; simp [intOf] <;> omega
          · have HJ2 := Hd.mk hJ2
            clear hJ2 HRR hy
            gi_wp2_with fail
            refine bodyPost_ret (results_none rfl _ _ _) rfl ?_
            exact ⟨⟨_, rfl⟩, .inr HJ2.out⟩
    · obtain rfl : j = S.length := by omega
      have hke : k = (winsL ah h none S).length := by
        have h1 := HR.out
        rw [List.drop_length] at h1
        have h2 := congrArg List.length h1
        rw [List.length_drop] at h2
        simp [winsL] at h2
        omega
      gi_wp2_with fail
      go_end0
      exact ⟨⟨_, rfl⟩, .inl ⟨_, by rw [← hke]; exact HI.out⟩⟩
end Go.Proofs.Ytlblpmadehikgaa
