/- Store. -/
import Derived.Test.YtnhkadknibinfaaA2
namespace Go.Proofs.Ytnhkadknibinfaa
open Go.RowKit
set_option linter.unusedVariables false
set_option linter.unusedSimpArgs false

/-- What a store in a cell of an owner leaves as it was. -/
theorem other_block {w w1 : World} {g : Nat} {cur : Array Value} {e : TypeId} {fr : Nat × Nat} (hb : w.heap[g]? = some (.cells cur e fr)) (hgr : w.grownBy w1 (some g)) {b : Nat} {o : Obj} (ho : w.heap[b]? = some o) (hne : ∀ c f, o ≠ .cells c e f) : w1.heap[b]? = some o := by
  rw [hgr.block b (Array.getElem?_eq_some_iff.1 ho).1 ?_, ho]
  intro h
  cases h
  rw [hb] at ho
  cases ho
  exact hne _ _ rfl

set_option maxRecDepth 100000 in
theorem store_any {y : Lay} {w : World} {pr : Nat → Prop} {M : Nat} {st : St} (h : MemL y w pr M st) (o i v : Int) :
    Calls Try.prog 24 #[.pointer (some ⟨M, 0, none⟩), .int .i64 o, .int .i64 i, .int .i64 v] w fun e w' => e = .returned (.tuple #[.int .i64 (ldV st.now o i), .int .i64 (ldE st.now o i)]) ∧ MemL y w' pr M (storeS st o i v) ∧ Kept pr w w' := by
  have H0 := load_any h o i
  by_cases hE : ldE st.now o i = 0
  · obtain ⟨x, hx, hv⟩ := ld_ok hE
    have hS : storeS st o i v = { st with now := set2 st.now (o, i) v } := by unfold storeS; rw [if_pos hE]
    rw [hE, hv] at H0 ⊢
    rw [hS]
    have hok := h.ok.store o i v
    rw [hS] at hok
    obtain ⟨r, k, hr, hk, e, ex⟩ := at2_some hx
    simp only [Prod.mk.injEq] at e
    obtain ⟨rfl, rfl⟩ := e
    obtain ⟨g, cur, hg, hpg, hb, hc, hm, hcell⟩ := h.rows.row r hr (by omega)
    obtain ⟨C, hC, hpC, cC⟩ := h.rows.at r hr
    have c1 := h.c1
    rw [hC] at c1
    rw [hg] at cC
    have ck : w.cell? ⟨g, k, none⟩ = some (.int .i64 x) := by rw [cells_cell hb, hcell k hk, ex]; rfl
    have fk : w.frozen? ⟨g, k, none⟩ = false := cells_free hb k
    have HSET := Hd.mk (h.rows.set hr hk v hg hb (cells_set hb (iv v)) (grown_cell w g k (iv v)) h.prs)
    have HB := Hd.mk hb
    have HBS := Hd.mk (cells_set (o := k) hb (iv v))
    have HM := Hd.mk h
    have HX := Hd.mk hx
    have HOK := Hd.mk hok
    have n16 := h.ok.owners
    have hl := h.ok.cells _ (List.getElem_mem hr)
    obtain ⟨n, hn⟩ : ∃ n, st.now[r].length = n := ⟨_, rfl⟩
    rw [hn] at cC hk hl
    have HR := Hd.mk hr
    obtain ⟨N, hN⟩ : ∃ n, st.now.length = n := ⟨_, rfl⟩
    have HN := Hd.mk hN
    rw [hN] at c1 n16 hr
    have HPG := Hd.mk hpg
    clear hx hv hE h hg hb hcell hn ex hS hok hC hpC hpg hN
    go_enter Try.func24, Try.ntmps24
    go_wp2_with fail
    refine H0.mono ?_
    rintro e w1 ⟨rfl, rfl⟩
    go_upto_region 5 with fail
    obtain ⟨w1, hw1⟩ : ∃ W, w.setCell ⟨g, k, none⟩ (.int .i64 v) = W := ⟨_, rfl⟩
    rw [hw1]
    have HSET1 := HSET.out
    have HBS1 := HBS.out
    have hgr := grown_cell w g k (iv v)
    simp only [iv, hw1] at HSET1 HBS1 hgr
    have hM1 := other_block HB.out hgr HM.out.bM (fun c f e => by simp at e)
    have HMK := Hd.mk (HM.out.marks.keep (w' := w1) (fun b cs fr hbb => (other_block HB.out hgr hbb (fun c f e => by simp at e)).trans hbb.symm) (fun b es cl hbb => (other_block HB.out hgr hbb (fun c f e => by simp at e)).trans hbb.symm))
    have c2 : w1.cell? ⟨M, 2, none⟩ = some (.slice y.ka st.marks.length y.kc) := by rw [cells_cell hM1]; rfl
    have HKP : Hd (Kept pr w w1) := ⟨Kept.grown hgr HM.out.prs (fun k h => by cases h; exact HPG.out)⟩
    have HM1 := Hd.mk hM1
    have HSET := Hd.mk HSET1
    have HSZ : Hd (w1.heap.size = w.heap.size) := ⟨by rw [← hw1]; simp [World.setCell]⟩
    clear HBS HBS1 HSET1 hM1 hgr hw1 cC c1 ck fk HB
    obtain ⟨m, hm⟩ : ∃ m, st.marks.length = m := ⟨_, rfl⟩
    rw [hm] at c2
    rcases m with _ | m
    · have HMM := Hd.mk hm
      clear hm
      go_wp2_with fail
      refine bodyPost_ret (results_tmp2 Try.results24 _ _ _) rfl ?_
      refine ⟨rfl, ⟨HOK.out, fun k hk => by rw [HSZ.out]; exact HM.out.prs k hk, ?_, HM.out.pM, HSET.out, ?_⟩, HKP.out⟩
      · rw [HM1.out]
        rw [show (set2 st.now ((r : Int) + 1, (k : Int)) v).length = st.now.length from shape_len (shape_set2 _ _ _)]
      · exact HMK.out.top rfl (fun _ _ _ _ => rfl) (fun _ _ => rfl) (fun j hj => by have := HMM.out; omega)
    · obtain ⟨K, hK, hpK, cK⟩ := HMK.out.at m (by omega)
      rw [hK] at c2
      obtain ⟨hpm, L, hL, hLd⟩ := HMK.out.maps m (by omega)
      have e0 : snapAt st (m + 1) = st.now := by unfold snapAt; rw [List.getElem?_eq_none (by omega)]; rfl
      rw [e0] at hLd
      have hm64 := HM.out.ok.many
      rw [hm] at hm64
      have i0 : (0 : Int) < ((m + 1 : Nat) : Int) := by omega
      have i1 : IntKind.i64.wrap (m : Int) = (m : Int) := IntWalk.i64_in _ ⟨by omega, by omega⟩
      have lM : M < w1.heap.size := World.block_lt_of_cell? w1 _ c2
      have lK : K < w1.heap.size := World.block_lt_of_cell? w1 _ cK
      have HMM := Hd.mk hm
      have HL := Hd.mk hL
      have HLD := Hd.mk hLd
      have HPM := Hd.mk hpm
      obtain ⟨B, hB⟩ : ∃ B, y.mb m = B := ⟨_, rfl⟩
      rw [hB] at cK
      have HBB := Hd.mk hB
      clear hm hL hLd hpm hpK hK e0 hB
      have hx1 : at2 st.now ((r : Int) + 1, (k : Int)) = some x := HX.out
      have hset := diff_set (s := snapAt st m) (v := v) hx1
      have hsame : at2 (snapAt st m) ((r : Int) + 1, (k : Int)) = some x → diffP (snapAt st m) st.now ((r : Int) + 1, (k : Int)) = none := by
        intro h; unfold diffP; rw [h, hx1, if_pos rfl]
      obtain ⟨sv, hsv⟩ : ∃ z, at2 (snapAt st m) ((r : Int) + 1, (k : Int)) = some z := by
        have h1 := at2_isSome (snapAt_shape HM.out.ok m) ((r : Int) + 1, (k : Int))
        rw [hx1] at h1
        exact Option.isSome_iff_exists.1 h1
      have hlk := HLD.out ((r : Int) + 1, (k : Int))
      obtain ⟨kl, hkl⟩ := key73 ((r : Int) + 1) (k : Int) (WalkArith.wf_i64 ⟨by omega, by omega⟩) (WalkArith.wf_i64 ⟨by omega, by omega⟩)
      have hsh := shape_len (shape_set2 st.now ((r : Int) + 1, (k : Int)) v)
      have hfin : ∀ w3 : World, (∀ b, b < w1.heap.size → b ≠ B → w3.heap[b]? = w1.heap[b]?) → (∃ L', MapL Try.prog 73 ik iv w3 B L' ∧ ∀ p, lk L' p = diffP (snapAt st m) (set2 st.now ((r : Int) + 1, (k : Int)) v) p) → w1.os = w3.os ∧ w1.tape = w3.tape ∧ w1.output = w3.output ∧ w1.heap.size ≤ w3.heap.size →
          MemL y w3 pr M { now := set2 st.now ((r : Int) + 1, (k : Int)) v, marks := st.marks } ∧ Kept pr w w3 := by
        intro w3 hb3 hL3 ⟨g1, g2, g3, g4⟩
        have hL1 := HL.out
        have lB : B < w1.heap.size := by rw [← HBB.out]; exact hL1.lt
        obtain ⟨es, clk, hBm, _⟩ := hL1
        rw [HBB.out] at hBm
        have cell3 : ∀ (b : Nat) cs e fr, w1.heap[b]? = some (Obj.cells cs e fr) → w3.heap[b]? = w1.heap[b]? := fun b cs e fr hbb =>
          hb3 b (Array.getElem?_eq_some_iff.1 hbb).1 (fun e => by subst e; rw [hBm] at hbb; cases hbb)
        have KP : Kept pr w1 w3 := ⟨g1.symm, g2.symm, g3.symm, g4, fun k hk => hb3 k (by rw [HSZ.out]; exact HM.out.prs k hk) (fun e => HPM.out (by rw [HBB.out, ← e]; exact hk))⟩
        refine ⟨⟨HOK.out, fun k hk => Nat.lt_of_lt_of_le (by rw [HSZ.out]; exact HM.out.prs k hk) g4, ?_, HM.out.pM, ?_, ?_⟩, HKP.out.trans KP⟩
        · rw [cell3 M _ _ _ HM1.out, HM1.out, hsh]
        · exact HSET.out.keep (fun b cs fr hbb => cell3 b cs _ fr hbb) (fun b cs fr hbb => cell3 b cs _ fr hbb)
        · refine HMK.out.top rfl (fun b cs fr hbb => cell3 b cs _ fr hbb) ?_ ?_
          · intro j hj
            have hjm : j < m := by have := HMM.out; omega
            refine hb3 _ ?_ ?_
            · obtain ⟨_, Lj, hLj, _⟩ := HMK.out.maps j (by have := HMM.out; omega)
              exact hLj.lt
            · intro e
              have := HMK.out.apart j m (by have := HMM.out; omega) (by have := HMM.out; omega) (e.trans HBB.out.symm)
              omega
          · intro j hj
            have hjm : j = m := by have := HMM.out; omega
            subst hjm
            rw [HBB.out]
            exact hL3
      have HFIN := Hd.mk hfin
      have HSETD := Hd.mk hset
      have HSV := Hd.mk hsv
      have HKL := Hd.mk hkl
      have HLK := Hd.mk hlk
      clear hx1 hset hsame hsv hlk hkl hsh hfin
      go_upto_region 7 with fail
      go_region
      -- ORDERS
      · obtain ⟨w2, hw2⟩ : ∃ W, ((w1.alloc (Obj.cells #[Value.int IntKind.i64 ((r : Int) + 1), Value.int IntKind.i64 (k : Int)] 73)).alloc (Obj.cells #[Value.map (some B)] 78)).drew = W := ⟨_, rfl⟩
        rw [hw2]
        have b2 : ∀ b, b < w1.heap.size → w2.heap[b]? = w1.heap[b]? := by
          intro b hb; rw [← hw2]
          show ((w1.alloc (Obj.cells #[Value.int IntKind.i64 ((r : Int) + 1), Value.int IntKind.i64 (k : Int)] 73)).alloc (Obj.cells #[Value.map (some B)] 78)).heap[b]? = _
          rw [heap_alloc_old _ _ (by simp; omega), heap_alloc_old _ _ hb]
        have hb0 : w2.heap[w1.heap.size]? = some (.cells #[Value.int IntKind.i64 ((r : Int) + 1), Value.int IntKind.i64 (k : Int)] 73 (0, 0)) := by
          rw [← hw2]
          show ((w1.alloc (Obj.cells #[Value.int IntKind.i64 ((r : Int) + 1), Value.int IntKind.i64 (k : Int)] 73)).alloc (Obj.cells #[Value.map (some B)] 78)).heap[w1.heap.size]? = _
          rw [heap_alloc_old _ _ (by simp), heap_alloc_new]
        have hb1 : w2.heap[w1.heap.size + 1]? = some (.cells #[Value.map (some B)] 78 (0, 0)) := by
          rw [← hw2]
          have := heap_alloc_new (w1.alloc (Obj.cells #[Value.int IntKind.i64 ((r : Int) + 1), Value.int IntKind.i64 (k : Int)] 73)) (Obj.cells #[Value.map (some B)] 78)
          simp only [World.size_alloc] at this
          exact this
        have H2 : Hd (w1.os = w2.os ∧ w1.tape = w2.tape ∧ w1.output = w2.output ∧ w1.heap.size ≤ w2.heap.size) := ⟨by rw [← hw2]; exact ⟨rfl, rfl, rfl, by simp; omega⟩⟩
        have hL2 : MapL Try.prog 73 ik iv w2 B L := by
          have := HL.out
          rw [HBB.out] at this
          exact this.same (b2 _ this.lt)
        have x0 := cells_cell hb1 0
        have p0 := cells_cell hb0 0
        have p1 := cells_cell hb0 1
        have HB2 := Hd.mk b2
        have HL2 := Hd.mk hL2
        have hlook := hL2.look keyed73 ik_inj Try.underlying76 (Try.zeroValue2 w2) _ HKL.out true
        have lB : B < w1.heap.size := by have := HL.out.lt; rw [HBB.out] at this; exact this
        clear hw2 b2 hb0 hb1 hL2
        simp only [List.getElem?_toArray, List.getElem?_cons_zero, List.getElem?_cons_succ] at x0 p0 p1
        rcases hlook with ⟨hl, hrun⟩ | ⟨at0, hl, hrun⟩
        · by_cases hxv : v = x
          · have HXV := Hd.mk hxv
            have HL0 := Hd.mk hl
            clear hl hxv
            simp only [ik, if_true] at hrun
            have t1 : (v == x) = true := by have := HXV.out; simpa using this
            have t2 : decide (v = x) = true := by have := HXV.out; simpa using this
            have t3 : (v != x) = false := by have := HXV.out; simp [this]
            go_wp2_with fail
            refine bodyPost_ret (results_tmp2 Try.results24 _ _ _) rfl ?_
            refine ⟨rfl, HFIN.out w2 (fun b hb _ => HB2.out b hb) ⟨L, HL2.out, fun p => ?_⟩ H2.out⟩
            rw [HLD.out p, HSETD.out p]
            by_cases hp : p = ((r : Int) + 1, (k : Int))
            · rw [if_pos hp, hp, ← HLK.out, HL0.out]
              have h1 := HLK.out
              rw [HL0.out] at h1
              unfold diffP at h1
              split at h1
              · rename_i h2
                rw [h2, HX.out, HXV.out, if_pos rfl]
              · rw [HSV.out] at h1; cases h1
            · rw [if_neg hp]
          · obtain ⟨w3, hr3, hL3, hg3, hs3⟩ := HL2.out.put keyed73 ik_inj Try.underlying76 _ HKL.out x
            have HXV := Hd.mk hxv
            have HL0 := Hd.mk hl
            clear hl hxv
            simp only [ik, iv, if_true] at hrun hr3
            have t1 : (v == x) = false := by have := HXV.out; simpa using this
            have t2 : decide (v = x) = false := by have := HXV.out; simpa using this
            have t3 : (v != x) = true := by have := HXV.out; simp [this]
            have HG3 := Hd.mk hg3
            have HL3 := Hd.mk hL3
            have HS3 := Hd.mk hs3
            clear hg3 hL3 hs3
            go_wp2_with fail
            refine bodyPost_ret (results_tmp2 Try.results24 _ _ _) rfl ?_
            refine ⟨rfl, HFIN.out w3 (fun b hb hne => ?_) ⟨_, HL3.out, fun p => ?_⟩ ?_⟩
            · rw [HG3.out.block b (Nat.lt_of_lt_of_le hb H2.out.2.2.2) (by simpa using hne)]; exact HB2.out b hb
            · rw [lk_put, HLD.out p, HSETD.out p]
              by_cases hp : p = ((r : Int) + 1, (k : Int))
              · rw [if_pos hp, if_pos hp]
                have h1 := HLK.out
                rw [HL0.out] at h1
                unfold diffP at h1
                split at h1
                · rename_i h2
                  rw [h2, HX.out, if_neg]
                  intro e; exact HXV.out (Option.some.inj e).symm
                · rw [HSV.out] at h1; cases h1
              · rw [if_neg hp, if_neg hp]
            · have h2 := H2.out
              exact ⟨h2.1.trans HG3.out.os.symm, h2.2.1.trans HG3.out.tape.symm, h2.2.2.1.trans HG3.out.output.symm, Nat.le_trans h2.2.2.2 HG3.out.size⟩
        · have hat : at2 (snapAt st m) ((r : Int) + 1, (k : Int)) = some at0 := by
            have h1 := HLK.out
            rw [hl] at h1
            unfold diffP at h1
            split at h1
            · cases h1
            · exact h1.symm
          by_cases hxv : v = at0
          · obtain ⟨w3, hr3, hL3, hg3, hs3⟩ := HL2.out.del (ty := 0) keyed73 ik_inj Try.underlying76 _ HKL.out
            have HXV := Hd.mk hxv
            have HAT := Hd.mk hat
            clear hl hxv hat
            simp only [ik, iv, if_true] at hrun hr3
            have t1 : (v == at0) = true := by have := HXV.out; simpa using this
            have t2 : decide (v = at0) = true := by have := HXV.out; simpa using this
            have HG3 := Hd.mk hg3
            have HL3 := Hd.mk hL3
            have HS3 := Hd.mk hs3
            clear hg3 hL3 hs3
            go_wp2_with fail
            refine bodyPost_ret (results_tmp2 Try.results24 _ _ _) rfl ?_
            refine ⟨rfl, HFIN.out w3 (fun b hb hne => ?_) ⟨_, HL3.out, fun p => ?_⟩ ?_⟩
            · rw [HG3.out.block b (Nat.lt_of_lt_of_le hb H2.out.2.2.2) (by simpa using hne)]; exact HB2.out b hb
            · rw [lk_del, HLD.out p, HSETD.out p, HAT.out, HXV.out]
              by_cases hp : p = ((r : Int) + 1, (k : Int))
              · rw [if_pos hp, if_pos hp, if_pos rfl]
              · rw [if_neg hp, if_neg hp]
            · have h2 := H2.out
              exact ⟨h2.1.trans HG3.out.os.symm, h2.2.1.trans HG3.out.tape.symm, h2.2.2.1.trans HG3.out.output.symm, Nat.le_trans h2.2.2.2 HG3.out.size⟩
          · have HXV := Hd.mk hxv
            have HAT := Hd.mk hat
            have HL0 := Hd.mk hl
            clear hl hxv hat
            simp only [ik, iv, if_true] at hrun
            have t1 : (v == at0) = false := by have := HXV.out; simpa using this
            have t2 : decide (v = at0) = false := by have := HXV.out; simpa using this
            go_wp2_with fail
            refine bodyPost_ret (results_tmp2 Try.results24 _ _ _) rfl ?_
            refine ⟨rfl, HFIN.out w2 (fun b hb _ => HB2.out b hb) ⟨L, HL2.out, fun p => ?_⟩ H2.out⟩
            rw [HLD.out p, HSETD.out p]
            by_cases hp : p = ((r : Int) + 1, (k : Int))
            · rw [if_pos hp, hp, ← HLK.out, HL0.out, HAT.out, if_neg]
              intro e; exact HXV.out (Option.some.inj e).symm
            · rw [if_neg hp]
      · obtain ⟨w2, hw2⟩ : ∃ W, ((w1.alloc (Obj.cells #[Value.map (some B)] 78)).alloc (Obj.cells #[Value.int IntKind.i64 ((r : Int) + 1), Value.int IntKind.i64 (k : Int)] 73)).drew = W := ⟨_, rfl⟩
        rw [hw2]
        have b2 : ∀ b, b < w1.heap.size → w2.heap[b]? = w1.heap[b]? := by
          intro b hb; rw [← hw2]
          show ((w1.alloc (Obj.cells #[Value.map (some B)] 78)).alloc (Obj.cells #[Value.int IntKind.i64 ((r : Int) + 1), Value.int IntKind.i64 (k : Int)] 73)).heap[b]? = _
          rw [heap_alloc_old _ _ (by simp; omega), heap_alloc_old _ _ hb]
        have hb0 : w2.heap[w1.heap.size]? = some (.cells #[Value.map (some B)] 78 (0, 0)) := by
          rw [← hw2]
          show ((w1.alloc (Obj.cells #[Value.map (some B)] 78)).alloc (Obj.cells #[Value.int IntKind.i64 ((r : Int) + 1), Value.int IntKind.i64 (k : Int)] 73)).heap[w1.heap.size]? = _
          rw [heap_alloc_old _ _ (by simp), heap_alloc_new]
        have hb1 : w2.heap[w1.heap.size + 1]? = some (.cells #[Value.int IntKind.i64 ((r : Int) + 1), Value.int IntKind.i64 (k : Int)] 73 (0, 0)) := by
          rw [← hw2]
          have := heap_alloc_new (w1.alloc (Obj.cells #[Value.map (some B)] 78)) (Obj.cells #[Value.int IntKind.i64 ((r : Int) + 1), Value.int IntKind.i64 (k : Int)] 73)
          simp only [World.size_alloc] at this
          exact this
        have H2 : Hd (w1.os = w2.os ∧ w1.tape = w2.tape ∧ w1.output = w2.output ∧ w1.heap.size ≤ w2.heap.size) := ⟨by rw [← hw2]; exact ⟨rfl, rfl, rfl, by simp; omega⟩⟩
        have hL2 : MapL Try.prog 73 ik iv w2 B L := by
          have := HL.out
          rw [HBB.out] at this
          exact this.same (b2 _ this.lt)
        have x0 := cells_cell hb0 0
        have p0 := cells_cell hb1 0
        have p1 := cells_cell hb1 1
        have HB2 := Hd.mk b2
        have HL2 := Hd.mk hL2
        have hlook := hL2.look keyed73 ik_inj Try.underlying76 (Try.zeroValue2 w2) _ HKL.out true
        have lB : B < w1.heap.size := by have := HL.out.lt; rw [HBB.out] at this; exact this
        clear hw2 b2 hb0 hb1 hL2
        simp only [List.getElem?_toArray, List.getElem?_cons_zero, List.getElem?_cons_succ] at x0 p0 p1
        rcases hlook with ⟨hl, hrun⟩ | ⟨at0, hl, hrun⟩
        · by_cases hxv : v = x
          · have HXV := Hd.mk hxv
            have HL0 := Hd.mk hl
            clear hl hxv
            simp only [ik, if_true] at hrun
            have t1 : (v == x) = true := by have := HXV.out; simpa using this
            have t2 : decide (v = x) = true := by have := HXV.out; simpa using this
            have t3 : (v != x) = false := by have := HXV.out; simp [this]
            go_wp2_with fail
            refine bodyPost_ret (results_tmp2 Try.results24 _ _ _) rfl ?_
            refine ⟨rfl, HFIN.out w2 (fun b hb _ => HB2.out b hb) ⟨L, HL2.out, fun p => ?_⟩ H2.out⟩
            rw [HLD.out p, HSETD.out p]
            by_cases hp : p = ((r : Int) + 1, (k : Int))
            · rw [if_pos hp, hp, ← HLK.out, HL0.out]
              have h1 := HLK.out
              rw [HL0.out] at h1
              unfold diffP at h1
              split at h1
              · rename_i h2
                rw [h2, HX.out, HXV.out, if_pos rfl]
              · rw [HSV.out] at h1; cases h1
            · rw [if_neg hp]
          · obtain ⟨w3, hr3, hL3, hg3, hs3⟩ := HL2.out.put keyed73 ik_inj Try.underlying76 _ HKL.out x
            have HXV := Hd.mk hxv
            have HL0 := Hd.mk hl
            clear hl hxv
            simp only [ik, iv, if_true] at hrun hr3
            have t1 : (v == x) = false := by have := HXV.out; simpa using this
            have t2 : decide (v = x) = false := by have := HXV.out; simpa using this
            have t3 : (v != x) = true := by have := HXV.out; simp [this]
            have HG3 := Hd.mk hg3
            have HL3 := Hd.mk hL3
            have HS3 := Hd.mk hs3
            clear hg3 hL3 hs3
            go_wp2_with fail
            refine bodyPost_ret (results_tmp2 Try.results24 _ _ _) rfl ?_
            refine ⟨rfl, HFIN.out w3 (fun b hb hne => ?_) ⟨_, HL3.out, fun p => ?_⟩ ?_⟩
            · rw [HG3.out.block b (Nat.lt_of_lt_of_le hb H2.out.2.2.2) (by simpa using hne)]; exact HB2.out b hb
            · rw [lk_put, HLD.out p, HSETD.out p]
              by_cases hp : p = ((r : Int) + 1, (k : Int))
              · rw [if_pos hp, if_pos hp]
                have h1 := HLK.out
                rw [HL0.out] at h1
                unfold diffP at h1
                split at h1
                · rename_i h2
                  rw [h2, HX.out, if_neg]
                  intro e; exact HXV.out (Option.some.inj e).symm
                · rw [HSV.out] at h1; cases h1
              · rw [if_neg hp, if_neg hp]
            · have h2 := H2.out
              exact ⟨h2.1.trans HG3.out.os.symm, h2.2.1.trans HG3.out.tape.symm, h2.2.2.1.trans HG3.out.output.symm, Nat.le_trans h2.2.2.2 HG3.out.size⟩
        · have hat : at2 (snapAt st m) ((r : Int) + 1, (k : Int)) = some at0 := by
            have h1 := HLK.out
            rw [hl] at h1
            unfold diffP at h1
            split at h1
            · cases h1
            · exact h1.symm
          by_cases hxv : v = at0
          · obtain ⟨w3, hr3, hL3, hg3, hs3⟩ := HL2.out.del (ty := 0) keyed73 ik_inj Try.underlying76 _ HKL.out
            have HXV := Hd.mk hxv
            have HAT := Hd.mk hat
            clear hl hxv hat
            simp only [ik, iv, if_true] at hrun hr3
            have t1 : (v == at0) = true := by have := HXV.out; simpa using this
            have t2 : decide (v = at0) = true := by have := HXV.out; simpa using this
            have HG3 := Hd.mk hg3
            have HL3 := Hd.mk hL3
            have HS3 := Hd.mk hs3
            clear hg3 hL3 hs3
            go_wp2_with fail
            refine bodyPost_ret (results_tmp2 Try.results24 _ _ _) rfl ?_
            refine ⟨rfl, HFIN.out w3 (fun b hb hne => ?_) ⟨_, HL3.out, fun p => ?_⟩ ?_⟩
            · rw [HG3.out.block b (Nat.lt_of_lt_of_le hb H2.out.2.2.2) (by simpa using hne)]; exact HB2.out b hb
            · rw [lk_del, HLD.out p, HSETD.out p, HAT.out, HXV.out]
              by_cases hp : p = ((r : Int) + 1, (k : Int))
              · rw [if_pos hp, if_pos hp, if_pos rfl]
              · rw [if_neg hp, if_neg hp]
            · have h2 := H2.out
              exact ⟨h2.1.trans HG3.out.os.symm, h2.2.1.trans HG3.out.tape.symm, h2.2.2.1.trans HG3.out.output.symm, Nat.le_trans h2.2.2.2 HG3.out.size⟩
          · have HXV := Hd.mk hxv
            have HAT := Hd.mk hat
            have HL0 := Hd.mk hl
            clear hl hxv hat
            simp only [ik, iv, if_true] at hrun
            have t1 : (v == at0) = false := by have := HXV.out; simpa using this
            have t2 : decide (v = at0) = false := by have := HXV.out; simpa using this
            go_wp2_with fail
            refine bodyPost_ret (results_tmp2 Try.results24 _ _ _) rfl ?_
            refine ⟨rfl, HFIN.out w2 (fun b hb _ => HB2.out b hb) ⟨L, HL2.out, fun p => ?_⟩ H2.out⟩
            rw [HLD.out p, HSETD.out p]
            by_cases hp : p = ((r : Int) + 1, (k : Int))
            · rw [if_pos hp, hp, ← HLK.out, HL0.out, HAT.out, if_neg]
              intro e; exact HXV.out (Option.some.inj e).symm
            · rw [if_neg hp]
  · have hS : storeS st o i v = st := by unfold storeS; rw [if_neg hE]
    have hv := ld_bad hE
    rw [hS]
    rw [hv] at H0 ⊢
    obtain ⟨ee, hee⟩ : ∃ x, ldE st.now o i = x := ⟨_, rfl⟩
    rw [hee] at H0 hE ⊢
    have HM := Hd.mk h
    clear h hee hv hS
    go_enter Try.func24, Try.ntmps24
    go_wp2_with fail
    refine H0.mono ?_
    rintro e w1 ⟨rfl, rfl⟩
    go_wp2_with fail
    refine bodyPost_ret (results_tmp2 Try.results24 _ _ _) rfl ?_
    exact ⟨rfl, HM.out, Kept.refl _ _⟩
end Go.Proofs.Ytnhkadknibinfaa
