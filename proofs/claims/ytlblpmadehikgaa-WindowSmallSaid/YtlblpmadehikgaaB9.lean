/- Next, of what is right. -/
import Derived.Test.YtlblpmadehikgaaB8
namespace Go.Proofs.Ytlblpmadehikgaa
open Go.RowKit Go.Shelf
attribute [local go_sem] Oper.semAt_some
set_option linter.unusedVariables false

/-- What stands behind the return out of the loop's body. -/
structure NextJ (w : World) (D : Nat) (r : Loop) (l : List Int) (x m : Int) (W : World) : Prop where
  win : W.heap[w.heap.size + 1]? = some (.cells #[.int .i64 x, .int .i64 m] 28 (0, 0))
  ins : ∃ v, W.heap[w.heap.size + 2]? = some (.cells #[v] 24 (0, 0)) ∧ AppI W (D + 2) v (inL l m l.length)
  err : W.heap[w.heap.size + 3]? = some (.cells #[.int .i64 0] 29 (0, 0))
  dfr : W.heap[D]? = some (.deferred (some []))
  lp : W.heap[D + 1]? = some (.loop { r with state := .done, pending := some .ret })
  bel : Below w.heap.size w W

set_option maxRecDepth 100000 in
set_option maxHeartbeats 4000000 in
theorem next_ok (v : Value) (l : List Int) (ah h : Int) (w : World) (hs : SrcI w v l) (hz : wrE l ah h = 0) : Calls Try.prog 14 #[v, .int .i64 ah, .int .i64 h] w fun e w' =>
    ∃ v', e = .returned (.tuple #[.agg #[.int .i64 (nxW ah h l).1, .int .i64 (nxW ah h l).2], v', .int .i64 (nxE ah h l)]) ∧ OwnI w' w.heap.size v' (nxI ah h l) ∧ Below w.heap.size w w' := by
  have HW := Hd.mk (fun (w : World) (hs : SrcI w v l) => wrong_any v l ah h w hs)
  have HS := Hd.mk hs
  obtain ⟨a, c, rfl⟩ := hs.shape
  clear hs
  have HN : Hd (nxE ah h l = if winsV ah h l = [] then 6 else 0) := ⟨by rw [nxE, if_pos hz]⟩
  have HNW : Hd (nxW ah h l = (winsV ah h l).headD (0, 0)) := ⟨by rw [nxW, if_pos hz]⟩
  rw [hz] at HW
  have HZ := Hd.mk (wr_zero hz)
  clear hz
  obtain ⟨X, hX⟩ : ∃ X, winsV ah h l = X := ⟨_, rfl⟩
  rw [hX] at HN HNW
  have HXE := Hd.mk hX
  clear hX
  refine (callsIn_wide (n := 0)).1 ?_
  refine callsIn_of_wp_marks Try.func14 rfl trivial ?_
  simp only [Try.ntmps14, List.size_toArray, List.length_cons, List.length_nil, Nat.reduceAdd, Nat.reduceSub, Array.replicate_succ, Array.replicate_zero, List.push_toArray, List.append_toArray, List.nil_append, List.cons_append]
  gi_wp2_with fail
  obtain ⟨w0, hw0⟩ : ∃ x, ((((w.alloc (.cells #[.slice a l.length c] 24)).alloc (.cells #[.int .i64 0, .int .i64 0] 28)).alloc (.cells #[.slice none 0 0] 24)).alloc (.cells #[.int .i64 0] 29)) = x := ⟨_, rfl⟩
  obtain ⟨-, q0, q1, q2, q3⟩ := push4 w (.cells #[.slice a l.length c] 24) (.cells #[.int .i64 0, .int .i64 0] 28) (.cells #[.slice none 0 0] 24) (.cells #[.int .i64 0] 29)
  have hB0 : Below w.heap.size w w0 := by rw [← hw0]; exact bl_alloc (bl_alloc (bl_alloc (bl_alloc (Below.refl _ _))))
  have hz0 : w0.heap.size = w.heap.size + 4 := by rw [← hw0]; simp
  rw [hw0] at q0 q1 q2 q3 ⊢
  clear hw0
  refine (callsIn_wide.2 (HW.out _ (HS.out.below hB0))).mono ?_
  rintro e w1 ⟨rfl, hB⟩
  have q0' := (hB.block _ (by omega)).trans q0
  have q1' : w1.heap[w.heap.size + 1]? = _ := (hB.block _ (by omega)).trans q1
  have q2' : w1.heap[w.heap.size + 1 + 1]? = _ := (hB.block (w.heap.size + 2) (by omega)).trans q2
  have q3' : w1.heap[w.heap.size + 1 + 1 + 1]? = _ := (hB.block (w.heap.size + 3) (by omega)).trans q3
  have HB1 := Hd.mk (ch4 hB0 hB)
  have HZ1 : Hd (w.heap.size + 4 ≤ w1.heap.size) := ⟨by rw [← hz0]; exact hB.size⟩
  have HQ0 := Hd.mk q0'
  have HQ1 := Hd.mk q1'
  have HQ2 := Hd.mk q2'
  have HQ3 := Hd.mk q3'
  clear q0 q1 q2 q3 q0' q1' q2' q3' hB hB0 hz0 HW
  have c0 := cells_cell HQ0.out 0
  gi_wp2_with fail
  refine (callsIn_wide.2 (windows_any _ _ _ _ _ _)).mono ?_
  rintro e w2 ⟨rfl, hw2⟩
  have hz2 : w2.heap.size = w1.heap.size + 3 := by rw [hw2]; simp
  have HT : Hd (w2.heap[w1.heap.size]? = some (.cells #[.slice a l.length c] 24 (0, 0))) := ⟨by
    rw [hw2]; exact ((Below.heap_alloc _ _ _ (by simp; omega)).trans (Below.heap_alloc _ _ _ (by simp))).trans (World.alloc_heap_new _ _)⟩
  have HA : Hd (w2.heap[w1.heap.size + 1]? = some (.cells #[.int .i64 ah] 3 (0, 0))) := ⟨by
    rw [hw2]; exact (Below.heap_alloc _ _ _ (by simp)).trans (two_new w1 _ _)⟩
  have HH : Hd (w2.heap[w1.heap.size + 2]? = some (.cells #[.int .i64 h] 3 (0, 0))) := ⟨by
    rw [hw2]; have := World.alloc_heap_new ((w1.alloc (.cells #[.slice a l.length c] 24)).alloc (.cells #[.int .i64 ah] 3)) (.cells #[.int .i64 h] 3); simpa using this⟩
  have HB2 : Hd (Below w1.heap.size w1 w2) := ⟨by rw [hw2]; exact bl_alloc (bl_alloc (bl_alloc (Below.refl _ _)))⟩
  have HZ2 := Hd.mk hz2
  clear hw2 hz2 c0
  gi_wp2_with fail
  refine range_enter 47 #[.pointer (some ⟨w1.heap.size, 0, none⟩), .pointer (some ⟨w1.heap.size + 2, 0, none⟩), .pointer (some ⟨w1.heap.size + 1, 0, none⟩)] rfl (enters_of Try.func47 (by kernel_rfl) rfl) ?_
  intro r hr
  obtain ⟨D, hD⟩ : ∃ D, w2.heap.size = D := ⟨_, rfl⟩
  obtain ⟨W0, hW0⟩ : ∃ W0, (w2.alloc (.deferred (some []))).alloc (.loop r) = W0 := ⟨_, rfl⟩
  have hB0 : Below w2.heap.size w2 W0 := by rw [← hW0]; exact bl_alloc (bl_alloc (Below.refl _ _))
  have hd0 : W0.heap[D]? = some (.deferred (some [])) := by rw [← hW0, ← hD]; exact (Below.heap_alloc _ _ _ (by simp)).trans (World.alloc_heap_new _ _)
  have hl0 : W0.heap[D + 1]? = some (.loop r) := by rw [← hW0, ← hD]; exact two_new _ _ _
  have hs0 : W0.heap.size = D + 2 := by rw [← hW0, ← hD]; simp
  rw [hW0]
  have HD := Hd.mk hD
  have HBW0 := Hd.mk (ch4 (ch4 HB1.out HB2.out) hB0)
  have HB20 := Hd.mk (ch4 HB2.out hB0)
  have HD0 := Hd.mk hd0
  have HL0 := Hd.mk hl0
  have HS0 := Hd.mk hs0
  rw [hD]
  have hT := (hB0.block _ (lt_of_heap HT.out)).trans HT.out
  have hH := (hB0.block _ (lt_of_heap HH.out)).trans HH.out
  have hA := (hB0.block _ (lt_of_heap HA.out)).trans HA.out
  have hlt := lt_of_heap hH
  have hlz := HZ1.out
  have hdz := HZ2.out
  rw [hD] at hdz
  clear hW0 hB0 hd0 hl0
  refine (wins1 w1.heap.size (w1.heap.size + 2) (w1.heap.size + 1) (D + 1) a c l (sortV l) ah h W0 (fun Nn k W => k = 0 ∧ Below W0.heap.size W0 W ∧ W0.heap.size ≤ Nn ∧ Nn ≤ W.heap.size) (fun W => ∃ x m T, Hd (X = (x, m) :: T) ∧ NextJ w D r l x m W)
    hT hH hA (HS.out.below HBW0.out) (by have := HZ.out.1; omega) (sort_pw l) (sort_perm l) HZ.out.2.1 HZ.out.2.2.1 (fun t ht => HZ.out.2.2.2 t ((sort_perm l).mem_iff.2 ht))
    (fun W hB => ⟨rfl, hB, hB.size, Nat.le_refl _⟩)
    (fun Nn k W W' hI hg hn => ⟨hI.1, hI.2.1.trans ⟨hg.os, hg.tape, hg.output, hg.size, fun x hx => hg.block x (by have := hI.2.1.size; omega) (by intro e; cases e; omega)⟩, hI.2.2.1, Nat.le_trans hI.2.2.2 hg.size⟩)
    (fun Nn k W hI => ⟨(hI.2.1.block _ (lt_of_heap hH)).trans hH, (hI.2.1.block _ (lt_of_heap hA)).trans hA, hI.2.2.2⟩) ?_).mono ?_
  · rintro Nn k W hk ⟨rfl, hBW, hN1, hN2⟩
    clear hT hH hA
    have hXE : winsL ah h none (sortV l) = X := HXE.out
    simp only [hXE] at hk ⊢
    obtain ⟨x, m, TT, hXm, hX0⟩ : ∃ x m TT, Hd (X = (x, m) :: TT) ∧ X[0] = (x, m) := by
      cases X with
      | nil => simp at hk
      | cons p T => exact ⟨p.1, p.2, T, ⟨rfl⟩, rfl⟩
    rw [hX0]
    clear hX0 hXE
    have hlW : W.heap[D + 1]? = some (.loop r) := (hBW.block _ (by omega)).trans HL0.out
    refine yield_at hr hlW rfl ?_
    have hal : ∀ z, z < W0.heap.size → (W.alloc (.cells #[.int .i64 x, .int .i64 m] 28)).heap[z]? = W0.heap[z]? := fun z hz => (Below.heap_alloc _ _ _ (by omega)).trans (hBW.block z hz)
    have hla : (W.alloc (.cells #[.int .i64 x, .int .i64 m] 28)).heap[D + 1]? = some (.loop r) := (hal _ (by omega)).trans HL0.out
    have hsz : (busyW (W.alloc (.cells #[.int .i64 x, .int .i64 m] 28)) (D + 1) r).heap.size = W.heap.size + 1 := by simp [busyW]
    have hbu : ∀ z, z < W0.heap.size → z ≠ D + 1 → (busyW (W.alloc (.cells #[.int .i64 x, .int .i64 m] 28)) (D + 1) r).heap[z]? = W0.heap[z]? := fun z hz hne => (World.putObj_heap_other hne).trans (hal z hz)
    have hlb : (busyW (W.alloc (.cells #[.int .i64 x, .int .i64 m] 28)) (D + 1) r).heap[D + 1]? = some (.loop { r with state := .busy }) := World.putObj_heap_same (by simp; omega)
    have hnew : (busyW (W.alloc (.cells #[.int .i64 x, .int .i64 m] 28)) (D + 1) r).heap[W.heap.size]? = some (.cells #[.int .i64 x, .int .i64 m] 28 (0, 0)) := (World.putObj_heap_other (by omega)).trans (World.alloc_heap_new _ _)
    have hbel : Below w.heap.size w (busyW (W.alloc (.cells #[.int .i64 x, .int .i64 m] 28)) (D + 1) r) := putObj_below ((HBW0.out.trans (hBW.mono (by omega))).alloc (by omega) _) (by omega)
    have HLA := Hd.mk hla
    have HSZ := Hd.mk hsz
    have HBU := Hd.mk hbu
    have HLB := Hd.mk hlb
    have HNEW := Hd.mk hnew
    have HBEL := Hd.mk hbel
    have HDZ := Hd.mk hdz
    clear hal hla hsz hbu hlb hnew hbel hdz hs0
    gi_wp2_with fail
    refine ⟨HLA.out, ?_⟩
    obtain ⟨Wb, hWb⟩ : ∃ Wb, busyW (W.alloc (.cells #[.int .i64 x, .int .i64 m] 28)) (D + 1) r = Wb := ⟨_, rfl⟩
    rw [hWb] at HSZ HBU HLB HNEW HBEL ⊢
    have hdz := HDZ.out
    have hs0 := HS0.out
    have n1 := cells_cell HNEW.out 1
    have b0 : Wb.heap[w.heap.size]? = _ := (HBU.out _ (by omega) (by omega)).trans ((HB20.out.block _ (by omega)).trans HQ0.out)
    have c0 := cells_cell b0 0
    clear hWb b0 hdz hs0
    gi_wp2_with fail
    gi_loopw [11, 29] (fun v i W' => ∃ k : Nat, k ≤ l.length ∧ i = .int .i64 k ∧ AppI W' Wb.heap.size v (inL l m k) ∧ Below Wb.heap.size Wb W') (fun _ i _ => l.length - (intOf i).toNat)
    case atStart => exact ⟨0, by omega, rfl, OwnE.nil _ _ _ _, Below.refl _ _⟩
    case round =>
      obtain ⟨k, hk, rfl, hO, hB⟩ := hrel
      have HO := Hd.mk hO
      have HB := Hd.mk hB
      have hll : l.length ≤ 4096 := HZ.out.1
      have n1' := (hB.cell (p := ⟨W.heap.size, 1, none⟩) (by rw [HSZ.out]; exact Nat.lt_succ_self _)).trans n1
      clear hO hB
      by_cases hlt : k < l.length
      · obtain ⟨b, off, rfl, hb, hx⟩ := (HS.out.below (HBEL.out.trans (HB.out.mono HBEL.out.size))).at k hlt
        have hgd : l.getD k 0 = l[k] := by rw [List.getD_eq_getElem?_getD, List.getElem?_eq_getElem hlt, Option.getD_some]
        obtain ⟨t, ht⟩ : ∃ t, l[k] = t := ⟨_, rfl⟩
        rw [ht] at hx hgd
        have HGD := Hd.mk hgd
        have HLT := Hd.mk hlt
        have k0 : (0 : Int) ≤ (k : Int) := by omega
        have k1 : (k : Int) < (l.length : Int) := by omega
        clear hb ht hgd hlt hk
        by_cases htm : t < m
        · have HIN : Hd (inL l m (k + 1) = inL l m k ++ [(k : Int)]) := ⟨inL_yes (by rw [HGD.out]; exact htm)⟩
          obtain ⟨v', w2, hrun, ho2, hB2, -⟩ := push_i (k : Int) HO.out HB.out HB.out.size (by have := inL_len l m k; omega)
          have HO2 := Hd.mk ho2
          have HB2 := Hd.mk hB2
          clear ho2 hB2
          gi_wp2_with (gi_at_builtin; refine wpListIn_append_run rfl _ _ _ rfl rfl rfl hrun ?_; clear hrun)
          go_roundw
          case rel => exact ⟨k + 1, HLT.out, by go_num, by rw [HIN.out]; exact HO2.out, HB2.out⟩
          case measure => have := HLT.out; simp [intOf] <;> omega
        · have HIN : Hd (inL l m (k + 1) = inL l m k) := ⟨inL_no (by rw [HGD.out]; exact htm)⟩
          gi_wp2_with fail
          go_roundw
          case rel => exact ⟨k + 1, HLT.out, by go_num, by rw [HIN.out]; exact HO.out, HB.out⟩
          case measure => have := HLT.out; simp [intOf] <;> omega
      · obtain rfl : k = l.length := by omega
        have n0' := (HB.out.cell (p := ⟨W.heap.size, 0, none⟩) (by rw [HSZ.out]; exact Nat.lt_succ_self _)).trans (cells_cell HNEW.out 0)
        have hdz := HDZ.out
        have hs0 := HS0.out
        have b1 : wr.heap[w.heap.size + 1]? = _ := (HB.out.block _ (by rw [HSZ.out]; omega)).trans ((HBU.out _ (by omega) (by omega)).trans ((HB20.out.block _ (by omega)).trans HQ1.out))
        have b2 : wr.heap[w.heap.size + 1 + 1]? = _ := (HB.out.block _ (by rw [HSZ.out]; omega)).trans ((HBU.out _ (by omega) (by omega)).trans ((HB20.out.block _ (by omega)).trans HQ2.out))
        have b3 : wr.heap[w.heap.size + 1 + 1 + 1]? = _ := (HB.out.block _ (by rw [HSZ.out]; omega)).trans ((HBU.out _ (by omega) (by omega)).trans ((HB20.out.block _ (by omega)).trans HQ3.out))
        have c1 := cells_cell b1 0
        have c2 := cells_cell b1 1
        have c3 := cells_cell b2 0
        have c4 := cells_cell b3 0
        have f1 := cells_free b1 0
        have f2 := cells_free b1 1
        have f3 := cells_free b2 0
        have f4 := cells_free b3 0
        have BB1 := Hd.mk b1
        have BB2 := Hd.mk b2
        have BB3 := Hd.mk b3
        clear b1 b2 b3 hdz hs0
        obtain ⟨av, cv, rfl⟩ := SrcE.shape (OwnE.src HO.out)
        gi_wp2_with fail
        have hdz := HDZ.out
        have hs0 := HS0.out
        obtain ⟨r1, r2, r3⟩ := res4_get BB1.out BB2.out BB3.out (.int .i64 x) (.int .i64 m) (.slice av (inL l m l.length).length cv) (.int .i64 0)
        have rl := (res4_other wr (g := w.heap.size + 1) (z := D + 1) (.int .i64 x) (.int .i64 m) (.slice av (inL l m l.length).length cv) (.int .i64 0) (by omega) (by omega) (by omega)).trans ((HB.out.block _ (by rw [HSZ.out]; omega)).trans HLB.out)
        have rd := (res4_other wr (g := w.heap.size + 1) (z := D) (.int .i64 x) (.int .i64 m) (.slice av (inL l m l.length).length cv) (.int .i64 0) (by omega) (by omega) (by omega)).trans ((HB.out.block _ (by rw [HSZ.out]; omega)).trans ((HBU.out _ (by omega) (by omega)).trans HD0.out))
        have rb := res4_below (HBEL.out.trans (HB.out.mono HBEL.out.size)) (g := w.heap.size + 1) (by omega) (.int .i64 x) (.int .i64 m) (.slice av (inL l m l.length).length cv) (.int .i64 0)
        refine ⟨rl, rfl, x, m, ⟨TT, hXm⟩, ⟨(World.putObj_heap_other (by omega)).trans r1, ⟨_, (World.putObj_heap_other (by omega)).trans r2, ?_⟩, (World.putObj_heap_other (by omega)).trans r3, (World.putObj_heap_other (by omega)).trans rd, World.putObj_heap_same (lt_of_heap rl), putObj_below rb (by omega)⟩⟩
        have o1 : AppI wr (D + 2) (.slice av (inL l m l.length).length cv) (inL l m l.length) := AppI.lower HO.out (by rw [HSZ.out]; have := hBW.size; omega)
        have o2 := OwnE.kept o1 (grown_set wr (w.heap.size + 1) 0 (.int .i64 x)) (own_ne o1 (by omega))
        have o3 := OwnE.kept o2 (grown_set _ (w.heap.size + 1) 1 (.int .i64 m)) (own_ne o2 (by omega))
        have o4 := OwnE.kept o3 (grown_set _ (w.heap.size + 1 + 1) 0 (.slice av (inL l m l.length).length cv)) (own_ne o3 (by omega))
        have o5 := OwnE.kept o4 (grown_set _ (w.heap.size + 1 + 1 + 1) 0 (.int .i64 0)) (own_ne o4 (by omega))
        exact OwnE.kept o5 (busy_grown _ _ _) (own_ne o5 (by omega))
  · rintro e W ⟨hv, ⟨Nn, hk, hBW, -, -⟩ | ⟨x, m, T, hXm, hJ⟩⟩
    · refine ⟨hv, .ready, none, by simp, ?_, ?_⟩
      · rw [(hBW.block _ (by omega)).trans HL0.out, hr.same]
      · have hb : ∀ z, z < W0.heap.size → z ≠ D + 1 → (W.putObj (D + 1) (.loop { r with state := .exhausted, pending := none })).heap[z]? = W0.heap[z]? := fun z hz hne => (World.putObj_heap_other hne).trans (hBW.block z hz)
        have b1 : (W.putObj (D + 1) (.loop { r with state := .exhausted, pending := none })).heap[w.heap.size + 1]? = _ := (hb _ (by omega) (by omega)).trans ((HB20.out.block _ (by omega)).trans HQ1.out)
        have b2 : (W.putObj (D + 1) (.loop { r with state := .exhausted, pending := none })).heap[w.heap.size + 1 + 1]? = _ := (hb _ (by omega) (by omega)).trans ((HB20.out.block _ (by omega)).trans HQ2.out)
        have b3 : (W.putObj (D + 1) (.loop { r with state := .exhausted, pending := none })).heap[w.heap.size + 1 + 1 + 1]? = _ := (hb _ (by omega) (by omega)).trans ((HB20.out.block _ (by omega)).trans HQ3.out)
        have bd : (W.putObj (D + 1) (.loop { r with state := .exhausted, pending := none })).heap[D]? = _ := (hb _ (by omega) (by omega)).trans HD0.out
        have bb : Below w.heap.size w (W.putObj (D + 1) (.loop { r with state := .exhausted, pending := none })) := putObj_below (HBW0.out.trans (hBW.mono (by omega))) (by omega)
        generalize W.putObj (D + 1) (.loop { r with state := .exhausted, pending := none }) = W2 at b1 b2 b3 bd bb ⊢
        have hX0 : X = [] := by
          have h1 : winsL ah h none (sortV l) = X := HXE.out
          rw [h1] at hk
          exact List.length_eq_zero_iff.1 hk
        have HE : Hd (nxE ah h l = 6) := ⟨by rw [HN.out, if_pos hX0]⟩
        have HE2 : Hd (nxW ah h l = (0, 0)) := ⟨by rw [HNW.out, hX0]; rfl⟩
        have HE3 : Hd (nxI ah h l = []) := ⟨by rw [nxI, HE.out, if_neg (by decide)]⟩
        have c1 := cells_cell b1 0
        have c2 := cells_cell b1 1
        have c3 := cells_cell b2 0
        have c4 := cells_cell b3 0
        have f1 := cells_free b1 0
        have f2 := cells_free b1 1
        have f3 := cells_free b2 0
        have f4 := cells_free b3 0
        have BB1 := Hd.mk b1
        have BB2 := Hd.mk b2
        have BB3 := Hd.mk b3
        have BD := Hd.mk bd
        have BB := Hd.mk bb
        have HDZ := Hd.mk hdz
        clear b1 b2 b3 bd bb hb hT hH hA hlt hlz hdz hk hX0 hBW hs0
        simp only [Act.marked]
        gi_wp2_with fail
        have hdz := HDZ.out
        have hlz := HZ1.out
        obtain ⟨r1, r2, r3⟩ := res4_get BB1.out BB2.out BB3.out (.int .i64 0) (.int .i64 0) (.slice none 0 0) (.int .i64 6)
        have rd := (res4_other W2 (g := w.heap.size + 1) (z := D) (.int .i64 0) (.int .i64 0) (.slice none 0 0) (.int .i64 6) (by omega) (by omega) (by omega)).trans BD.out
        refine ⟨by simp, .inl ⟨_, _, rfl, run_takeDeferred rd, ?_⟩⟩
        refine ⟨_, results_win Try.results14 _ _ (w.heap.size + 1) 0 0 (.slice none 0 0) (.int .i64 6) rfl rfl rfl ((World.putObj_heap_other (by omega)).trans r1) (cells_cell ((World.putObj_heap_other (by omega)).trans r2) 0) (cells_cell ((World.putObj_heap_other (by omega)).trans r3) 0), ?_⟩
        exact ⟨_, by rw [HE.out, HE2.out], by rw [HE3.out]; exact OwnI.nil _ _, putObj_below (res4_below BB.out (by omega) _ _ _ _) (by omega)⟩
    · refine ⟨hv, .done, some .ret, by simp, hJ.lp, ?_⟩
      show (Code.ret).wpIn Fence.wide 0 Try.prog _ _ (W.putObj (D + 1) (.loop { r with state := .exhausted, pending := some .ret }))
      obtain ⟨vi, hvi, hoi⟩ := hJ.ins
      have b1 : (W.putObj (D + 1) (.loop { r with state := .exhausted, pending := some .ret })).heap[w.heap.size + 1]? = _ := (World.putObj_heap_other (by omega)).trans hJ.win
      have b2 : (W.putObj (D + 1) (.loop { r with state := .exhausted, pending := some .ret })).heap[w.heap.size + 2]? = _ := (World.putObj_heap_other (by omega)).trans hvi
      have b3 : (W.putObj (D + 1) (.loop { r with state := .exhausted, pending := some .ret })).heap[w.heap.size + 3]? = _ := (World.putObj_heap_other (by omega)).trans hJ.err
      have bd : (W.putObj (D + 1) (.loop { r with state := .exhausted, pending := some .ret })).heap[D]? = _ := (World.putObj_heap_other (by omega)).trans hJ.dfr
      have bo : AppI (W.putObj (D + 1) (.loop { r with state := .exhausted, pending := some .ret })) (D + 2) vi (inL l m l.length) := OwnE.kept hoi (busy_grown _ _ _) (own_ne hoi (by omega))
      have bb : Below w.heap.size w (W.putObj (D + 1) (.loop { r with state := .exhausted, pending := some .ret })) := putObj_below hJ.bel (by omega)
      generalize W.putObj (D + 1) (.loop { r with state := .exhausted, pending := some .ret }) = W2 at b1 b2 b3 bd bo bb ⊢
      have HE : Hd (nxE ah h l = 0) := ⟨by rw [HN.out, hXm.out, if_neg (by simp)]⟩
      have HE2 : Hd (nxW ah h l = (x, m)) := ⟨by rw [HNW.out, hXm.out]; rfl⟩
      have HE3 : Hd (nxI ah h l = inL l m l.length) := ⟨by rw [nxI, HE.out, if_pos rfl, HE2.out]⟩
      have BB1 := Hd.mk b1
      have BB2 := Hd.mk b2
      have BB3 := Hd.mk b3
      have BD := Hd.mk bd
      have BO := Hd.mk bo
      have BB := Hd.mk bb
      have HDZ := Hd.mk hdz
      clear b1 b2 b3 bd bb bo hvi hoi hT hH hA hlt hlz hdz hJ hs0
      simp only [Act.marked]
      gi_wp2_with fail
      have hdz := HDZ.out
      have hlz := HZ1.out
      refine ⟨by simp, .inl ⟨_, _, rfl, run_takeDeferred BD.out, ?_⟩⟩
      refine ⟨_, results_win Try.results14 _ _ (w.heap.size + 1) x m vi (.int .i64 0) rfl rfl rfl ((World.putObj_heap_other (by omega)).trans BB1.out) (cells_cell ((World.putObj_heap_other (by omega)).trans BB2.out) 0) (cells_cell ((World.putObj_heap_other (by omega)).trans BB3.out) 0), ?_⟩
      exact ⟨_, by rw [HE.out, HE2.out], by rw [HE3.out]; exact OwnI.of (AppI.lower (OwnE.kept BO.out (busy_grown _ _ _) (own_ne BO.out (by omega))) (by omega)), putObj_below BB.out (by omega)⟩
end Go.Proofs.Ytlblpmadehikgaa
