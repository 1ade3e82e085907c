/- Walk of picks.Order where the processes are ready ones. -/
import Derived.Test.YtmahjgffadbdcaaB2
import Derived.Sort.CutIn
namespace Go.Proofs.Ytmahjgffadbdcaa
open Go.RowKit Go.Shelf
attribute [local go_sem] Oper.semAt_some
set_option linter.unusedVariables false

theorem own_marks {W W' : World} {base : Nat} {v : Value} {xs : List Int} (h : AppI W base v xs) (hk : ∀ (g : Nat) c t f, W.heap[g]? = some (.cells c t f) → W'.heap[g]? = some (.cells c t f)) : OwnI W' base v xs := by
  have hb := fun g => app_block (g := g) h
  rcases OwnI.of h with h | ⟨g, cap, hv, hg, hs, hc, hm, hcell, hf⟩
  · exact .inl h
  · obtain ⟨c, hh⟩ := hb g (by rw [hv]; rfl)
    have hh' := hk _ _ _ _ hh
    refine .inr ⟨g, cap, hv, hg, cells_lt hh', hc, hm, fun j hj => ?_, fun j => cells_free hh' j⟩
    rw [cells_cell hh']; rw [← cells_cell hh]; exact hcell j hj

theorem four_0 (w : World) (o1 o2 o3 o4 : Obj) : ((((w.alloc o1).alloc o2).alloc o3).alloc o4).heap[w.heap.size]? = some o1 :=
  (Below.heap_alloc _ _ _ (by simp <;> omega)).trans ((Below.heap_alloc _ _ _ (by simp <;> omega)).trans ((Below.heap_alloc _ _ _ (by simp)).trans (World.alloc_heap_new _ _)))
theorem four_1 (w : World) (o1 o2 o3 o4 : Obj) : ((((w.alloc o1).alloc o2).alloc o3).alloc o4).heap[w.heap.size + 1]? = some o2 := by
  have := (Below.heap_alloc (((w.alloc o1).alloc o2).alloc o3) o4 (w.heap.size + 1) (by simp <;> omega)).trans ((Below.heap_alloc _ _ _ (by simp)).trans (two_new w o1 o2))
  exact this
theorem four_2 (w : World) (o1 o2 o3 o4 : Obj) : ((((w.alloc o1).alloc o2).alloc o3).alloc o4).heap[w.heap.size + 1 + 1]? = some o3 := by
  have := two_new (w.alloc o1) o2 o3
  rw [World.size_alloc] at this
  exact (Below.heap_alloc _ _ _ (by simp)).trans this
theorem four_3 (w : World) (o1 o2 o3 o4 : Obj) : ((((w.alloc o1).alloc o2).alloc o3).alloc o4).heap[w.heap.size + 1 + 1 + 1]? = some o4 := by
  have := two_new ((w.alloc o1).alloc o2) o3 o4
  rwa [World.size_alloc, World.size_alloc] at this
theorem four_below (w : World) (o1 o2 o3 o4 : Obj) : Below w.heap.size w ((((w.alloc o1).alloc o2).alloc o3).alloc o4) :=
  ((((Below.refl _ _).alloc (Nat.le_refl _) _).alloc (by simp) _).alloc (by simp <;> omega) _).alloc (by simp <;> omega) _
theorem four_size (w : World) (o1 o2 o3 o4 : Obj) : ((((w.alloc o1).alloc o2).alloc o3).alloc o4).heap.size = w.heap.size + 4 := by simp

theorem hide_rel {R K : Act → World → Prop} (h : ∀ a w, R a w → K a w) : ∃ RR : Act → World → Prop, (∀ a w, RR a w → K a w) ∧ Hd (∀ a w, R a w → RR a w) := ⟨R, h, ⟨fun _ _ h => h⟩⟩

set_option maxRecDepth 100000 in
set_option maxHeartbeats 4000000 in
theorem order_yes (v pv : Value) (l ps : List Int) (w : World) (h : SrcI w v l) (hp : SrcI w pv ps) (hr : rightB l = true) (hps : ps.length ≤ 65536) : Calls Try.prog 14 #[v, pv] w fun e w' =>
    ∃ v', e = .returned (.tuple #[v', .int .i64 (ordV l.length l ps).2.1, .int .i64 (ordV l.length l ps).2.2, .int .i64 0]) ∧ OwnI w' w.heap.size v' (ordV l.length l ps).1 ∧ Below w.heap.size w w' := by
  have hok : okO l = true := by rw [rightB, Bool.and_eq_true] at hr; exact hr.1
  have hasc : asc l := by rw [rightB, Bool.and_eq_true] at hr; exact of_decide_eq_true hr.2
  have hO : OkO l := of_decide_eq_true hok
  have hlen := hO.len
  have H := Hd.mk h
  have HP := Hd.mk hp
  have HOF : Hd (ofS l = l) := ⟨by rw [ofS, hok]; rfl⟩
  have HOK := Hd.mk hO
  have HASC := Hd.mk hasc
  have HR := Hd.mk hr
  have HOKB := Hd.mk hok
  obtain ⟨a, c, rfl⟩ := h.shape
  obtain ⟨pa, pc, rfl⟩ := hp.shape
  clear h hp hr hO hasc hok
  refine (callsIn_wide (n := 0)).1 ?_
  refine callsIn_of_wp_marks Try.func14 rfl trivial ?_
  simp only [Try.ntmps14, List.size_toArray, List.length_cons, List.length_nil, Nat.reduceAdd, Nat.reduceSub, Array.replicate_succ, Array.replicate_zero, List.push_toArray, List.append_toArray, List.nil_append, List.cons_append]
  gi_wp2_with fail
  refine (callsIn_wide.2 (right_any _ l _ H.out)).mono ?_
  rintro e w1 ⟨rfl, hB1⟩
  rw [HR.out]
  gi_wp2_with fail
  refine (callsIn_wide.2 (of_any _ l _ (H.out.below hB1))).mono ?_
  rintro e w2 ⟨rfl, hB2⟩
  rw [HOKB.out, HOF.out]
  have hBB := ch4 hB1 hB2
  have HBB := Hd.mk hBB
  clear hB1 hB2 hBB
  gi_wp2_with (refine wpListIn_store_row rfl 51 _ _ rfl w2.heap.size (lf l) rfl rfl 51 _ (World.alloc_heap_new _ _) rfl rfl (lf_one _) ?_)
  rw [World.setRow_alloc_new]

  obtain ⟨W1, hW1⟩ : ∃ W1, w2.alloc (.cells (lf l) 51) = W1 := ⟨_, rfl⟩
  obtain ⟨G, hG⟩ : ∃ G, w2.heap.size = G := ⟨_, rfl⟩
  have HGl : Hd (w.heap.size ≤ G) := ⟨by rw [← hG]; exact HBB.out.size⟩
  have HX : Hd (OF w G l.length l.length l [] (.slice none 0 0) [] W1) := ⟨by
    rw [← hW1, ← hG]
    exact ⟨rfl, HASC.out, HOK.out.rng, World.alloc_heap_new _ _, OwnE.nil _ _ _ _, by simp, HBB.out.alloc HBB.out.size _, Mks.nil _ _⟩⟩
  rw [hW1, hG]
  clear hW1 hG
  refine wpIn_loop (fun a' W' => ∃ u14 u15 u16 u17 u31 u32 u33 u34 u35 u36 u37 u38 u39 u40 u41 u42 u43 u44 u45 u46 u47 u48 u49 u50 u51 u52 u53 u54 u55 u56 u57 u58 u59 u60 u61 u62 u63 u64 u65, ∃ (m t u : Nat) (S out : List Int) (vo : Value) (ds : List Deferred),
      OF w G l.length m S out vo ds W' ∧ t ≤ ps.length ∧ u ≤ t ∧
      Hd (ordV l.length l ps = (out ++ (ordV m S (ps.drop t)).1, t + (ordV m S (ps.drop t)).2.1, u + (ordV m S (ps.drop t)).2.2)) ∧
      a' = { tmps := #[.slice a l.length c, .slice pa ps.length pc, undef, undef, .slice none 0 0, .int .i64 0, .int .i64 0, .int .i64 0, .pointer (some ⟨G, 0, none⟩), .bool true, vo, .int .i64 (t : Nat), .int .i64 (u : Nat), .int .i64 (m : Nat), u14, u15, u16, u17, .slice a l.length c, .bool true, .bool false, .slice pa ps.length pc, .int .i64 ps.length, .bool (decide ((65536 : Int) < ps.length)), .tuple #[.agg (lf l), .bool true], .slice a l.length c, .tuple #[.agg (lf l), .bool true], .agg (lf l), .bool true, .slice a l.length c, .int .i64 l.length, u31, u32, u33, u34, u35, u36, u37, u38, u39, u40, u41, u42, u43, u44, u45, u46, u47, u48, u49, u50, u51, u52, u53, u54, u55, u56, u57, u58, u59, u60, u61, u62, u63, u64, u65, undef, undef, undef], defers := ds })
    (fun a' _ => (intOf (a'.tmps.getD 13 undef)).toNat) ?_ ?_
  · refine ⟨_, _, _, _, _, _, _, _, _, _, _, _, _, _, _, _, _, _, _, _, _, _, _, _, _, _, _, _, _, _, _, _, _, _, _, _, _, _, _, l.length, 0, 0, l, [], .slice none 0 0, [], HX.out, by omega, by omega, ⟨by simp⟩, rfl⟩
  · rintro _ wr ⟨u14, u15, u16, u17, u31, u32, u33, u34, u35, u36, u37, u38, u39, u40, u41, u42, u43, u44, u45, u46, u47, u48, u49, u50, u51, u52, u53, u54, u55, u56, u57, u58, u59, u60, u61, u62, u63, u64, u65, m, t, u, S, out, vo, ds, hF, ht, hu, HE, rfl⟩
    rcases m with _ | n
    · have hS : S = [] := List.length_eq_zero_iff.1 hF.len
      subst hS
      have HE2 : Hd (ordV l.length l ps = (out, t, u)) := ⟨by rw [HE.out]; simp [ordV]⟩
      have HF := Hd.mk hF
      clear hF HE
      gi_wp2_with fail
      refine HF.out.mks.leaves fun W' hk hb => ?_
      refine ⟨_, results14 _ _, vo, by rw [HE2.out]; rfl, ?_, HF.out.bel.trans hb⟩
      rw [HE2.out]
      exact own_marks HF.out.own hk
    · have hSl : S.length = n + 1 := hF.len
      have hn : n + 1 ≤ 16 := by have := hF.outl; omega
      have HF := Hd.mk hF
      clear hF
      have i0 : (0 : Int) < ((n + 1 : Nat) : Int) := by omega
      obtain ⟨z, hz⟩ : ∃ z, S.headD 0 = z := ⟨_, rfl⟩
      have HZ := Hd.mk hz
      clear hz
      gi_wp2_with fail
      refine (callsIn_wide.2 (least_any G S HF.out.asc HF.out.rng _ HF.out.left)).mono ?_
      rintro e w3 ⟨rfl, hB3⟩
      rw [HZ.out]
      have HF3 : Hd (OF w G l.length (n + 1) S out vo ds w3) := ⟨HF.out.below hB3⟩
      clear hB3
      gi_upto_region 12 with fail
      rename_i K1 hK1 K0 hK0
      have HGS : Hd (G < w3.heap.size) := ⟨cells_lt HF3.out.left⟩
      have htail : ∀ a' W', (∃ u15 u16 u17 u31 u32 u33 u34 u35 u36 u37 u38 u39 u40 u41 u42 u43 u44 u45 u46 u47 u48 u49 u50 u51 u52 u53 u54 u55 u56 u57 u58 u59 u60 u61 u62 u63 u64 u65, ∃ (tk wk i q : Nat) (ds' : List Deferred), ∃ (hi : i < S.length), OF w G l.length (n + 1) S out vo ds' W' ∧ W'.heap[w3.heap.size]? = some (.cells #[.int .i64 q] 3 (0, 0)) ∧
          t + tk ≤ ps.length ∧ u + wk ≤ t + tk ∧ S[i] = q ∧ Hd (pickI S (ps.drop t) = (i, tk, wk)) ∧ a' = { tmps := #[.slice a l.length c, .slice pa ps.length pc, undef, undef, .slice none 0 0, .int .i64 0, .int .i64 0, .int .i64 0, .pointer (some ⟨G, 0, none⟩), .bool true, vo, .int .i64 ((t + tk : Nat) : Int), .int .i64 ((u + wk : Nat) : Int), .int .i64 ((n : Int) + 1), .pointer (some ⟨w3.heap.size, 0, none⟩), u15, u16, u17, .slice a l.length c, .bool true, .bool false, .slice pa ps.length pc, .int .i64 ps.length, .bool (decide ((65536 : Int) < ps.length)), .tuple #[.agg (lf l), .bool true], .slice a l.length c, .tuple #[.agg (lf l), .bool true], .agg (lf l), .bool true, .slice a l.length c, .int .i64 l.length, u31, u32, u33, u34, u35, u36, u37, u38, u39, u40, u41, u42, u43, u44, u45, u46, u47, u48, u49, u50, u51, u52, u53, u54, u55, u56, u57, u58, u59, u60, u61, u62, u63, u64, u65, undef, undef, undef], defers := ds' }) → K1 a' W' := by
        rintro _ W' ⟨u15, u16, u17, u31, u32, u33, u34, u35, u36, u37, u38, u39, u40, u41, u42, u43, u44, u45, u46, u47, u48, u49, u50, u51, u52, u53, u54, u55, u56, u57, u58, u59, u60, u61, u62, u63, u64, u65, tk, wk, i, q, ds', hi, hF', hb, ht', hu', hq, HPK, rfl⟩
        refine hK1 _ _ ?_
        clear hK1 hK0
        have hqr := HF.out.rng _ (List.getElem_mem hi)
        rw [hq] at hqr
        have hq17 : q < 17 := by omega
        have q0 : (0 : Int) ≤ (q : Int) := by omega
        have q3 : (q : Int) < 17 := by omega
        have cb := cells_cell hb 0
        have fb := cells_free hb 0
        have cG := (cells_cell hF'.left q).trans (lf_get S q hq17)
        have fG := cells_free hF'.left q
        obtain ⟨v', w2', hrun, hO2⟩ := hF'.tail HGl.out (by omega) hi hq
        have HGO := Hd.mk (ord_go HE.out HPK.out (x := (q : Int)) (by rw [List.getD_eq_getElem?_getD, List.getElem?_eq_getElem hi, Option.getD_some]; exact hq))
        have HQ := Hd.mk hq
        have HF' := Hd.mk hF'
        have HO2 := Hd.mk hO2
        have HB := Hd.mk hb
        have hgs := HGS.out
        clear hF' hO2 hb hq hqr
        rw [show (W'.setCell ⟨G, q, none⟩ (.bool false)).heap.size = W'.heap.size from by simp [World.setCell]] at hrun
        gi_wp2_with (gi_at_builtin; refine wpListIn_append_run rfl _ _ _ rfl rfl rfl hrun ?_)
        refine ⟨⟨_, _, _, _, _, _, _, _, _, _, _, _, _, _, _, _, _, _, _, _, _, _, _, _, _, _, _, _, _, _, _, _, _, _, _, _, _, _, _, n, t + tk, u + wk, S.eraseIdx i, out ++ [(q : Int)], v', ds', HO2.out, ht', hu', HGO, rfl⟩, ?_⟩
        simp [intOf]
      clear hK1
      obtain ⟨RR, htl, HRR⟩ := hide_rel htail
      clear htail
      have hcx : (w3.alloc (.cells #[.int .i64 z] 3)).heap[w3.heap.size]? = some (.cells #[.int .i64 z] 3 (0, 0)) := World.alloc_heap_new _ _
      have HCX := Hd.mk hcx
      have hz0 : 0 < S.length := by omega
      have hS0 : S.getD 0 0 = z := (head_get S).trans HZ.out
      have hzr : 1 ≤ z ∧ z ≤ 16 := by
        have := HF3.out.rng _ (List.getElem_mem hz0)
        rw [List.getD_eq_getElem?_getD, List.getElem?_eq_getElem hz0, Option.getD_some] at hS0
        rwa [hS0] at this
      obtain ⟨zq, hzq⟩ : ∃ q : Nat, z = q := ⟨z.toNat, by omega⟩
      have HS0 : Hd (S[0] = (zq : Int)) := ⟨by
        rw [List.getD_eq_getElem?_getD, List.getElem?_eq_getElem hz0, Option.getD_some] at hS0
        rw [hS0, hzq]⟩
      subst hzq
      clear hS0 hcx
      by_cases hgo : 0 < n ∧ t < ps.length
      · obtain ⟨hg1, hg2⟩ := hgo
        have hdl : decide (t < ps.length) = true := decide_eq_true hg2
        have hBw := HF3.out.bel
        obtain ⟨pb, po, rfl, hpb, hpx⟩ := (HP.out.below hBw).at t hg2
        obtain ⟨pk, hpk⟩ : ∃ x, ps[t] = x := ⟨_, rfl⟩
        rw [hpk] at hpx
        have HPK := Hd.mk hpk
        have t0 : (0 : Int) ≤ (t : Int) := by omega
        have t1 : (t : Int) < (ps.length : Int) := by omega
        have HPSM := Hd.mk hps
        have hpb' : (w3.alloc (.cells #[.int .i64 (zq : Int)] 3)).cell? ⟨pb, po + t, none⟩ = some (.int .i64 pk) := (((Below.refl _ w3).alloc (Nat.le_refl _) _).cell hpb).trans hpx
        clear hBw hpx hpk
        gi_wp2_with fail
        refine wpIn_scope_straight ?_
        gi_wp2_with fail
        refine wpIn_label ?_
        gi_wp2_with fail
        refine (callsIn_wide.2 (all_any _ _)).mono ?_
        rintro e w4 ⟨rfl, rfl⟩
        gi_wp2_with fail
        have hsz4 := four_size w3 (.cells #[.int .i64 (zq : Int)] 3) (.cells #[.int .i64 pk] 3) (.cells #[.bool false] 4) (.cells #[.pointer (some ⟨G, 0, none⟩)] 69)
        have hN0 := four_0 w3 (.cells #[.int .i64 (zq : Int)] 3) (.cells #[.int .i64 pk] 3) (.cells #[.bool false] 4) (.cells #[.pointer (some ⟨G, 0, none⟩)] 69)
        have hN1 := four_1 w3 (.cells #[.int .i64 (zq : Int)] 3) (.cells #[.int .i64 pk] 3) (.cells #[.bool false] 4) (.cells #[.pointer (some ⟨G, 0, none⟩)] 69)
        have hN2 := four_2 w3 (.cells #[.int .i64 (zq : Int)] 3) (.cells #[.int .i64 pk] 3) (.cells #[.bool false] 4) (.cells #[.pointer (some ⟨G, 0, none⟩)] 69)
        have hN3 := four_3 w3 (.cells #[.int .i64 (zq : Int)] 3) (.cells #[.int .i64 pk] 3) (.cells #[.bool false] 4) (.cells #[.pointer (some ⟨G, 0, none⟩)] 69)
        have hB34 := four_below w3 (.cells #[.int .i64 (zq : Int)] 3) (.cells #[.int .i64 pk] 3) (.cells #[.bool false] 4) (.cells #[.pointer (some ⟨G, 0, none⟩)] 69)
        clear hpb'
        generalize (((w3.alloc (.cells #[.int .i64 (zq : Int)] 3)).alloc (.cells #[.int .i64 pk] 3)).alloc (.cells #[.bool false] 4)).alloc (.cells #[.pointer (some ⟨G, 0, none⟩)] 69) = W4 at hsz4 hN0 hN1 hN2 hN3 hB34 ⊢
        have HG4 := Hd.mk ((hB34.block _ HGS.out).trans HF3.out.left)
        obtain ⟨N3, hN3e⟩ : ∃ N3, w3.heap.size = N3 := ⟨_, rfl⟩
        have HN3 := Hd.mk hN3e
        rw [hN3e] at hsz4 hN0 hN1 hN2 hN3 hB34 HGS HRR ⊢
        clear hN3e HCX
        have HSZ := Hd.mk hsz4
        have HN0 := Hd.mk hN0
        have HN1 := Hd.mk hN1
        have HN2 := Hd.mk hN2
        have HN33 := Hd.mk hN3
        have HB34 := Hd.mk hB34
        have HT := Hd.mk (show t + 1 ≤ ps.length from by omega)
        clear hsz4 hN0 hN1 hN2 hN3 hB34 hdl t0 t1
        refine range_all G (N3 + 1 + 1 + 1) S HF3.out.asc HF3.out.rng (.exit 2) rfl HG4.out HN33.out
          (fun i W => Below N3 w3 W ∧ W.heap[N3]? = some (.cells #[.int .i64 (zq : Int)] 3 (0, 0)) ∧ W.heap[N3 + 1]? = some (.cells #[.int .i64 pk] 3 (0, 0)) ∧ W.heap[N3 + 1 + 1]? = some (.cells #[.bool false] 4 (0, 0)) ∧ pk ∉ S.take i)
          (fun W => Below N3 w3 W ∧ W.heap[N3]? = some (.cells #[.int .i64 pk] 3 (0, 0)) ∧ W.heap[N3 + 1 + 1]? = some (.cells #[.bool true] 4 (0, 0)) ∧ pk ∈ S) ?_ ?_ ?_ ?_
        all_goals obtain ⟨D, hD⟩ : ∃ D, W4.heap.size = D := ⟨_, rfl⟩
        · intro o o'
          have := HSZ.out
          exact ⟨(HB34.out.alloc (by omega) _).alloc (by simp; omega) _, ((Below.heap_alloc _ _ _ (by simp; omega)).trans (Below.heap_alloc _ _ _ (by omega))).trans HN0.out,
            ((Below.heap_alloc _ _ _ (by simp; omega)).trans (Below.heap_alloc _ _ _ (by omega))).trans HN1.out, ((Below.heap_alloc _ _ _ (by simp; omega)).trans (Below.heap_alloc _ _ _ (by omega))).trans HN2.out, by simp⟩
        · rintro r hr i W hi hF ⟨hB, h0, h1, h2, hnot⟩
          have HTK := Hd.mk (take_succ_mem hi)
          have HMEM := Hd.mk (List.getElem_mem hi)
          obtain ⟨x, hx⟩ : ∃ x, S[i] = x := ⟨_, rfl⟩
          rw [hx] at HTK HMEM ⊢
          have HDS : Hd (N3 + 4 = D) := ⟨by rw [← hD, HSZ.out]⟩
          rw [hD] at hF ⊢
          refine yield_at hr hF.lp rfl ?_
          have HFR := Hd.mk hF
          have HB := Hd.mk hB
          have H0 := Hd.mk h0
          have H1 := Hd.mk h1
          have H2 := Hd.mk h2
          have HNOT := Hd.mk hnot
          clear hF hB h0 h1 h2 hnot hx hD
          gi_wp2_with fail
          refine ⟨HFR.out.lp, ?_⟩
          have hds := HDS.out
          have hgs := HGS.out
          have hlp : (busyW W (D + 1) r).heap[D + 1]? = some (.loop { r with state := .busy }) := World.putObj_heap_same (cells_lt HFR.out.lp)
          have hdf : (busyW W (D + 1) r).heap[D]? = some (.deferred (some [])) := (busy_other (by omega)).trans HFR.out.dfr
          have h0 : (busyW W (D + 1) r).heap[N3]? = some (.cells #[.int .i64 (zq : Int)] 3 (0, 0)) := (busy_other (by omega)).trans H0.out
          have h1 : (busyW W (D + 1) r).heap[N3 + 1]? = some (.cells #[.int .i64 pk] 3 (0, 0)) := (busy_other (by omega)).trans H1.out
          have h2 : (busyW W (D + 1) r).heap[N3 + 1 + 1]? = some (.cells #[.bool false] 4 (0, 0)) := (busy_other (by omega)).trans H2.out
          have hbe : Below N3 w3 (busyW W (D + 1) r) := putObj_below HB.out (by omega)
          have hbl : (busyW W (D + 1) r).heap[G]? = some (.cells (lf S) 51 (0, 0)) := (busy_other (by omega)).trans HFR.out.left
          have hbx : (busyW W (D + 1) r).heap[N3 + 1 + 1 + 1]? = some (.cells #[.pointer (some ⟨G, 0, none⟩)] 69 (0, 0)) := (busy_other (by omega)).trans HFR.out.box
          generalize busyW W (D + 1) r = Wb at hlp hdf h0 h1 h2 hbe hbl hbx ⊢
          have c0 := cells_cell h0 0
          have f0 := cells_free h0 0
          have c1 := cells_cell h1 0
          have c2 := cells_cell h2 0
          have f2 := cells_free h2 0
          have HLP := Hd.mk hlp
          have HDF := Hd.mk hdf
          have G0 := Hd.mk h0
          have G1 := Hd.mk h1
          have G2 := Hd.mk h2
          have HBE := Hd.mk hbe
          have HBL := Hd.mk hbl
          have HBX := Hd.mk hbx
          clear hlp hdf h0 h1 h2 hbe hbl hbx HFR HB H0 H1 H2 hds hgs
          by_cases hxp : x = pk
          · subst hxp
            gi_wp2_with fail
            have hds := HDS.out
            have hgs := HGS.out
            have so : ∀ {k : Nat} {o : Obj}, k ≠ N3 → k ≠ N3 + 1 + 1 → Wb.heap[k]? = some o → ((Wb.setCell ⟨N3, 0, none⟩ (.int .i64 x)).setCell ⟨N3 + 1 + 1, 0, none⟩ (.bool true)).heap[k]? = some o :=
              fun h1 h2 h => (Below.heap_setCell _ _ _ _ h2).trans ((Below.heap_setCell _ _ _ _ h1).trans h)
            have hl' := so (by omega) (by omega) HLP.out
            refine ⟨hl', .inr ⟨rfl, ?_, ?_, ?_, ?_, ?_, HMEM.out⟩⟩
            · exact (done_other (by omega)).trans (so (by omega) (by omega) HDF.out)
            · exact World.putObj_heap_same (cells_lt hl')
            · exact putObj_below ((HBE.out.setCell (Nat.le_refl _) _).setCell (by simp; omega) _) (by omega)
            · exact (done_other (by omega)).trans ((Below.heap_setCell _ _ _ _ (by simp; omega)).trans (cells_set G0.out _))
            · exact (done_other (by omega)).trans (cells_set ((Below.heap_setCell _ _ _ _ (by simp; omega)).trans G2.out) _)
          · have hd : decide (x = pk) = false := decide_eq_false hxp
            gi_wp2_with fail
            have hds := HDS.out
            have hgs := HGS.out
            refine ⟨HLP.out, .inl ⟨rfl, FrA.ready (by omega) (by omega) HBL.out HBX.out HDF.out HLP.out, putObj_below HBE.out (by omega), (ready_other (by omega)).trans G0.out, (ready_other (by omega)).trans G1.out, (ready_other (by omega)).trans G2.out, ?_⟩⟩
            rw [HTK.out]
            rintro (h | h)
            · exact hxp h.symm
            · exact HNOT.out h
        · rintro r W hF ⟨hB, h0, h1, h2, hnot⟩
          rw [List.take_length] at hnot
          rw [hD] at hF ⊢
          have HDS : Hd (N3 + 4 = D) := ⟨by rw [← hD, HSZ.out]⟩
          have hds := HDS.out
          have hdf : (W.putObj (D + 1) (.loop { r with state := .exhausted, pending := none })).heap[D]? = some (.deferred (some [])) := (World.putObj_heap_other (by omega)).trans hF.dfr
          have g0 : (W.putObj (D + 1) (.loop { r with state := .exhausted, pending := none })).heap[N3]? = some (.cells #[.int .i64 (zq : Int)] 3 (0, 0)) := (World.putObj_heap_other (by omega)).trans h0
          have g2 : (W.putObj (D + 1) (.loop { r with state := .exhausted, pending := none })).heap[N3 + 1 + 1]? = some (.cells #[.bool false] 4 (0, 0)) := (World.putObj_heap_other (by omega)).trans h2
          have hbe : Below N3 w3 (W.putObj (D + 1) (.loop { r with state := .exhausted, pending := none })) := putObj_below hB (by omega)
          generalize W.putObj (D + 1) (.loop { r with state := .exhausted, pending := none }) = Wb at hdf g0 g2 hbe ⊢
          have c2 := cells_cell g2 0
          have HPI : Hd (pickI S (ps.drop t) = (0, 1, 1)) := ⟨pick_out (by omega) hg2 (by rw [HPK.out]; exact hnot)⟩
          have HF4 : Hd (OF w G l.length (n + 1) S out vo (mark D :: ds) Wb) := ⟨by
            rw [← HN3.out] at hbe
            exact HF3.out.mark hbe (by rw [HN3.out]; omega) hdf⟩
          have G0 := Hd.mk g0
          clear hF hB h0 h1 h2 hnot hdf g0 g2 hbe hds hD
          simp only [Act.marked]
          gi_wp2_with fail
          rw [Exit.noGoto_normal]
          gi_wp2_with fail
          exact HRR.out _ _ ⟨_, _, _, _, _, _, _, _, _, _, _, _, _, _, _, _, _, _, _, _, _, _, _, _, _, _, _, _, _, _, _, _, _, _, _, _, _, _, 1, 1, 0, zq, mark D :: ds, hz0, HF4.out, G0.out, HT.out, by omega, HS0.out, HPI, rfl⟩
        · rintro r W hD1 ⟨hB, h0, h2, hin⟩
          rw [hD] at hD1 ⊢
          have HDS : Hd (N3 + 4 = D) := ⟨by rw [← hD, HSZ.out]⟩
          have hds := HDS.out
          have hdf : (W.putObj (D + 1) (.loop { r with state := .exhausted, pending := some (.exit 2) })).heap[D]? = some (.deferred (some [])) := (World.putObj_heap_other (by omega)).trans hD1
          have g0 : (W.putObj (D + 1) (.loop { r with state := .exhausted, pending := some (.exit 2) })).heap[N3]? = some (.cells #[.int .i64 pk] 3 (0, 0)) := (World.putObj_heap_other (by omega)).trans h0
          have g2 : (W.putObj (D + 1) (.loop { r with state := .exhausted, pending := some (.exit 2) })).heap[N3 + 1 + 1]? = some (.cells #[.bool true] 4 (0, 0)) := (World.putObj_heap_other (by omega)).trans h2
          have hbe : Below N3 w3 (W.putObj (D + 1) (.loop { r with state := .exhausted, pending := some (.exit 2) })) := putObj_below hB (by omega)
          generalize W.putObj (D + 1) (.loop { r with state := .exhausted, pending := some (.exit 2) }) = Wb at hdf g0 g2 hbe ⊢
          have c2 := cells_cell g2 0
          have HPI : Hd (pickI S (ps.drop t) = (S.idxOf pk, 1, 0)) := ⟨by rw [← HPK.out]; exact pick_in (by omega) hg2 (by rw [HPK.out]; exact hin)⟩
          have HF4 : Hd (OF w G l.length (n + 1) S out vo (mark D :: ds) Wb) := ⟨by
            rw [← HN3.out] at hbe
            exact HF3.out.mark hbe (by rw [HN3.out]; omega) hdf⟩
          have hpr := HF3.out.rng _ hin
          obtain ⟨pq, hpq⟩ : ∃ q : Nat, pk = q := ⟨pk.toNat, by omega⟩
          have HIL : Hd (S.idxOf pk < S.length) := ⟨List.idxOf_lt_length_of_mem hin⟩
          have HIV : Hd (S[S.idxOf pk]'HIL.out = (pq : Int)) := ⟨by rw [← hpq]; exact List.getElem_idxOf HIL.out⟩
          rw [hpq] at g0
          have G0 := Hd.mk g0
          clear hB h0 h2 hin hdf g0 g2 hbe hds hD hD1 hpr hpq
          simp only [Act.marked]
          gi_wp2_with fail
          rw [Exit.noGoto_normal]
          gi_wp2_with fail
          exact HRR.out _ _ ⟨_, _, _, _, _, _, _, _, _, _, _, _, _, _, _, _, _, _, _, _, _, _, _, _, _, _, _, _, _, _, _, _, _, _, _, _, _, _, 1, 0, S.idxOf pk, pq, mark D :: ds, HIL.out, HF4.out, G0.out, HT.out, by omega, HIV.out, HPI, rfl⟩
      · have HPI : Hd (pickI S (ps.drop t) = (0, 0, 0)) := ⟨by
          by_cases h0 : 0 < n
          · exact pick_none (by omega)
          · exact pick_few (by omega)⟩
        have HF4 : Hd (OF w G l.length (n + 1) S out vo ds (w3.alloc (.cells #[.int .i64 (zq : Int)] 3))) := ⟨HF3.out.below ((Below.refl _ _).alloc (Nat.le_refl _) _)⟩
        by_cases h0 : 0 < n
        · have h1 : decide (t < ps.length) = false := decide_eq_false (by omega)
          clear hgo
          gi_wp2_with fail
          exact HRR.out _ _ ⟨_, _, _, _, _, _, _, _, _, _, _, _, _, _, _, _, _, _, _, _, _, _, _, _, _, _, _, _, _, _, _, _, _, _, _, _, _, _, 0, 0, 0, zq, ds, hz0, HF4.out, HCX.out, by omega, by omega, HS0.out, HPI, rfl⟩
        · have h1 : n = 0 := by omega
          subst h1
          clear hgo
          gi_wp2_with fail
          exact HRR.out _ _ ⟨_, _, _, _, _, _, _, _, _, _, _, _, _, _, _, _, _, _, _, _, _, _, _, _, _, _, _, _, _, _, _, _, _, _, _, _, _, _, 0, 0, 0, zq, ds, hz0, HF4.out, HCX.out, by omega, by omega, HS0.out, HPI, rfl⟩

end Go.Proofs.Ytmahjgffadbdcaa
