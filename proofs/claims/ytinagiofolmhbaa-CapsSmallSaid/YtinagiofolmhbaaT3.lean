/- acts: all that a table does, beside the reference. -/
import Derived.Test.YtinagiofolmhbaaT2
import Derived.Deep.CutBlock
namespace Go.Proofs.Ytinagiofolmhbaa
open Go.RowKit
set_option linter.unusedVariables false
set_option linter.unusedSimpArgs false


theorem eight (x : BitVec 8) (h : x.toNat < 8) : x = 0#8 ∨ x = 1#8 ∨ x = 2#8 ∨ x = 3#8 ∨ x = 4#8 ∨ x = 5#8 ∨ x = 6#8 ∨ x = 7#8 := by
  have key : ∀ n : Fin 8, BitVec.ofNat 8 n = 0#8 ∨ BitVec.ofNat 8 n = 1#8 ∨ BitVec.ofNat 8 n = 2#8 ∨ BitVec.ofNat 8 n = 3#8 ∨ BitVec.ofNat 8 n = 4#8 ∨ BitVec.ofNat 8 n = 5#8 ∨ BitVec.ofNat 8 n = 6#8 ∨ BitVec.ofNat 8 n = 7#8 := by decide
  have e : BitVec.ofNat 8 x.toNat = x := by simp
  have := key ⟨x.toNat, h⟩
  simp only [e] at this
  exact this
theorem held_own2 {pr : Nat → Prop} {Wl W' Wh : World} {base : Nat} {v : Value} {l : List Int} (h : AppI W' base v l) (hb : Wl.heap.size ≤ base) (hs : W'.heap.size ≤ Wh.heap.size) : Held (grow pr Wl Wh) W' (fun W => AppI W base v l) := by
  intro W hW
  refine OwnE.same h fun g cur fr hg hv => hW.block g (.inr ?_)
  have := World.ownsRow.lt h g hv
  omega
theorem held_copy2 {pA : Nat → Prop} {WA Xb Xc Z : World} {M2 : Nat} {st : St} (h : TabAt Xc (fun k => k < Xb.heap.size) M2 st) (h1 : WA.heap.size ≤ Xb.heap.size) (hs : Xc.heap.size ≤ Z.heap.size) (hk : ∀ k, Xb.heap.size ≤ k → k < Xc.heap.size → Z.heap[k]? = Xc.heap[k]?) :
    Held (grow pA WA Z) Z (fun W => TabAt W (fun _ => False) M2 st) := by
  obtain ⟨y, h⟩ := h
  intro W hW
  refine ⟨y, h.frame (fun k hf => ?_) (fun k hk => hk.elim) (fun k hk hp => hp)⟩
  obtain ⟨f1, f2⟩ := h.foot k hf
  have f3 := Nat.le_of_not_lt f1
  exact (hW.block k (.inr ⟨Nat.le_trans h1 f3, Nat.lt_of_lt_of_le f2 hs⟩)).trans (hk k f3 f2)
theorem ActQ.first {w w1 : World} {lv : Value} {ls : List Ac} {M : Nat} {st : St} {v : Value} {nx : Int} (hm : TabAt w1 (fun k => k < w.heap.size) M st) (hB : Below w.heap.size w w1) (hr : ∀ W, RefT W v st) (hn : st.next = nx) (hl : SrcN aL w lv ls) :
    ActQ w (w1.alloc (.cells #[.int .i64 nx, v] 88)) lv ls (fun k => k < w.heap.size) w1.heap.size M st st nx v := by
  have hB2 := (Below.refl w1.heap.size w1).alloc (Nat.le_refl _) (.cells #[.int .i64 nx, v] 88)
  have hbel : Held (fun k => k < w.heap.size) (w1.alloc (.cells #[.int .i64 nx, v] 88)) (fun W => Below w.heap.size w W) := Held.below (hB.trans (hB2.mono hB.size)) (fun k hk => hk)
  refine ⟨⟨(hm.protect hB2).1.less ?_, heap_alloc_new _ _, fun h => by have := hB.size; omega⟩, fun W _ => hr W, hn, hbel.imp fun W hW => hl.below hW, hbel⟩
  rintro k (hk | rfl)
  · exact .inl hk
  · exact .inr ⟨Nat.le_refl _, by simp⟩
theorem ref_first {n : Int} (h : 1 ≤ n ∧ n ≤ 281474976710656) (W : World) : RefT W (.slice none 0 0) ⟨n, []⟩ := ⟨SrcN.nil _ _, by simp, ok_new h⟩
set_option maxRecDepth 100000 in
set_option maxHeartbeats 4000000 in
theorem acts_any {w : World} {lv : Value} {ls : List Ac} {nxt : Int} (hl : SrcN aL w lv ls) (hk : ∀ a ∈ ls, -9223372036854775808 ≤ a.ser ∧ a.ser ≤ 9223372036854775807) :
    Calls Try.prog 36 #[.int .i64 nxt, lv] w fun e w' => e = .returned (.bool true) ∧ Below w.heap.size w w' := by
  have hbl := hl.small
  obtain ⟨a, c, rfl⟩ := hl.shape
  have HL := Hd.mk hl
  have HK := Hd.mk hk
  obtain ⟨q, hq⟩ : ∃ n, ls.length = n := ⟨_, rfl⟩
  have HQ := Hd.mk hq
  rw [hq] at hbl ⊢
  clear hl hk hq
  go_enter Try.func36, Try.ntmps36
  by_cases h60 : 60 < q
  · have h60' : (60 : Int) < (q : Int) := by omega
    go_wp2_with fail
    go_ret
    exact ⟨rfl, Below.refl _ _⟩
  · have h60' : ¬ (60 : Int) < (q : Int) := by omega
    have hd60 : decide (60 < q) = false := by simp; omega
    have hd61 : decide ((60 : Int) < (q : Int)) = false := by simp; omega
    have HQ60 : Hd (q ≤ 60) := ⟨by omega⟩
    clear h60 hbl
    by_cases hbad : nxt < 1 ∨ 281474976710656 < nxt
    · have HNB := Hd.mk (new_bad nxt w hbad)
      by_cases hlo : nxt < 1
      · have d1 : decide (nxt < 1) = true := by simp; omega
        clear hbad hlo
        go_wp2_with fail
        refine HNB.out.mono ?_
        rintro e w1 ⟨rfl, rfl⟩
        go_wp2_with fail
        go_ret
        exact ⟨rfl, Below.refl _ _⟩
      · have d1 : decide (nxt < 1) = false := by simp; omega
        have d2 : decide (281474976710656 < nxt) = true := by simp; omega
        clear hbad hlo
        go_wp2_with fail
        refine HNB.out.mono ?_
        rintro e w1 ⟨rfl, rfl⟩
        go_wp2_with fail
        go_ret
        exact ⟨rfl, Below.refl _ _⟩
    · have HNR : Hd (1 ≤ nxt ∧ nxt ≤ 281474976710656) := ⟨by omega⟩
      have d1 : decide (nxt < 1) = false := by simp; omega
      have d2 : decide (281474976710656 < nxt) = false := by simp; omega
      clear hbad
      go_wp2_with fail
      refine (new_any nxt w HNR.out).mono ?_
      rintro e w1 ⟨M, rfl, hm, hB1⟩
      have hq0 := ActQ.first hm hB1 (ref_first HNR.out) rfl HL.out
      rw [HQ.out] at hq0
      have HQ0 := Hd.mk hq0
      clear hm hB1 hq0
      go_upto_region 9 with fail
      clear d1 d2 h60'
      obtain ⟨w2, hw2⟩ : ∃ W, (w1.alloc (.cells #[.int .i64 nxt, .slice none 0 0] 88)) = W := ⟨_, rfl⟩
      obtain ⟨R, hR⟩ : ∃ R, w1.heap.size = R := ⟨_, rfl⟩
      have hq0 := HQ0.out
      rw [hw2, hR] at hq0
      rw [hw2]
      try rw [hR]
      have HQ0 := Hd.mk hq0
      clear hw2 hR hq0
      go_wp2_with fail
      go_loopw [50] (fun i W => ∃ (j : Nat) (pr : Nat → Prop) (nx : Int) (v : Value) (st : St), j ≤ q ∧ i = .int .i64 j ∧ st.made.length ≤ j ∧ Hd (ActQ w W (.slice a q c) ls pr R M st st nx v)) (fun i _ => q - (intOf i).toNat)
      case atStart => exact ⟨0, _, _, _, _, by omega, rfl, by simp, HQ0⟩
      case round =>
        obtain ⟨j, pr, nx, v, st, hj, rfl, hlen, HA⟩ := hrel
        by_cases hlt : j < q
        · have hjl : j < ls.length := by rw [HQ.out]; exact hlt
          obtain ⟨b, off, hbe, _, hcells⟩ := HA.out.src.now.at j hjl
          cases hbe
          have hkd := HK.out _ (List.getElem_mem hjl)
          obtain ⟨⟨x0, x1, x2, x3, x4⟩, hx⟩ : ∃ x, ls[j] = x := ⟨_, rfl⟩
          rw [hx] at hcells hkd
          simp only at hkd
          have v0 : wr.cell? ⟨b, off + j * 5, none⟩ = some (h8 x0) := hcells 0 _ rfl
          have v1 : wr.cell? ⟨b, off + j * 5 + 1, none⟩ = some (.int .i64 x1) := hcells 1 _ rfl
          have v2 : wr.cell? ⟨b, off + j * 5 + 2, none⟩ = some (.int .i64 x2) := hcells 2 _ rfl
          have v3 : wr.cell? ⟨b, off + j * 5 + 3, none⟩ = some (.int .i64 x3) := hcells 3 _ rfl
          have v4 : wr.cell? ⟨b, off + j * 5 + 4, none⟩ = some (h8 x4) := hcells 4 _ rfl
          have k0 : (0 : Int) ≤ (j : Int) := by omega
          have k1 : (j : Int) < (q : Int) := by omega
          have HWK : Hd (IntKind.i64.wrap ((j : Int) + 1) = (j : Int) + 1) := ⟨IntWalk.i64_in _ ⟨by omega, by have := HQ60.out; omega⟩⟩
          have HLT := Hd.mk hlt
          have HSER := Hd.mk hkd
          have HLEN := Hd.mk hlen
          have HFEW : Hd (st.made.length < 1000) := ⟨by have := HQ60.out; omega⟩
          obtain ⟨va, vc, hv⟩ := HA.out.ref.now.rows.shape
          obtain ⟨vn, hvn⟩ : ∃ n, st.made.length = n := ⟨_, rfl⟩
          rw [hvn] at hv
          subst hv
          clear hjl hcells hx hkd hlt hj hlen hvn
          go_upto_region 12 with fail
          obtain ⟨WA, hWA⟩ : ∃ W, (wr.alloc (.cells #[h8 x0, .int .i64 x1, .int .i64 x2, .int .i64 x3, h8 x4] 65)) = W := ⟨_, rfl⟩
          obtain ⟨hA1, hact, _⟩ := HA.out.box (.cells #[h8 x0, .int .i64 x1, .int .i64 x2, .int .i64 x3, h8 x4] 65)
          rw [hWA] at hA1 hact
          rw [hWA]
          obtain ⟨B1, hB1⟩ : ∃ x, wr.heap.size = x := ⟨_, rfl⟩
          rw [hB1] at hact ⊢
          obtain ⟨pA, hpA⟩ : ∃ p, grow pr wr WA = p := ⟨_, rfl⟩
          rw [hpA] at hA1 hact
          have HA1 := Hd.mk hA1
          have HACT := Hd.mk hact
          clear hWA hA1 hact hB1 hpA v0 v1 v2 v3 v4 HA
          go_cut [10, 11] (fun v10 v11 wx => ∃ (M2 B2 : Nat) (p2 : Nat → Prop), v10 = .pointer (some ⟨M2, 0, none⟩) ∧ v11 = .pointer (some ⟨B2, 0, none⟩) ∧ Hd (ActQ w wx (.slice (some ⟨b, off, none⟩) q c) ls p2 R M st st nx (.slice va vn vc)) ∧ Hd (Bes p2 wx B1 ⟨x0, x1, x2, x3, x4⟩ M2 st B2 nx (.slice va vn vc)))
          case first =>
            obtain ⟨hd0, hd1⟩ := HA1.out.sys.below ((Below.refl WA.heap.size WA).drew)
            refine wp_region_held_drew (S := fun W => W.heap[R]? = some (.cells #[.int .i64 nx, .slice va vn vc] 88 (0, 0))) (by kernel_rfl) (HA1.out.sys.box) (fun hS_ => ?_)
            try dsimp only at hS_
            obtain ⟨X0, hX0⟩ : ∃ W, WA.drew = W := ⟨_, rfl⟩
            have hb0 : Below WA.heap.size WA X0 := by rw [← hX0]; exact (Below.refl _ _).drew
            rw [hX0] at hS_ ⊢
            clear hX0 hd0 hd1
            refine takeW 0 ?_ rfl (by kernel_rfl) (by kernel_rfl) (by kernel_rfl) (fun _ _ _ h => h) (by rfl) ?_ hS_ ?_
            rotate_left
            · intro w9 hSw
              try dsimp only at hSw
              go_simp
              with_reducible rfl
            try simp only [Act.put, List.setIfInBounds_toArray, List.set_cons_zero, List.set_cons_succ]
            refine takeW 2 ?_ rfl (by kernel_rfl) (by kernel_rfl) (by kernel_rfl) (fun _ _ _ h => h) (by rfl) ?_ hS_ ?_
            rotate_left
            · intro w9 hSw
              try dsimp only at hSw
              have e0 := (cells_cell hSw 0).trans (show _ = some (Value.int .i64 nx) from rfl)
              have e1 := (cells_cell hSw 1).trans (show _ = some (Value.slice va vn vc) from rfl)
              go_simp
              with_reducible rfl
            try simp only [Act.put, List.setIfInBounds_toArray, List.set_cons_zero, List.set_cons_succ]
            refine wpAnyH_ready (rs := [1, 3]) (by kernel_rfl) (by simp) (readyL rfl (fun K hK => ?_) (readyL rfl (fun K hK => ?_) AllReadyH.nil))
            · obtain ⟨hq0, _⟩ := HA1.out.below hb0
              obtain ⟨y0, hy0⟩ := hq0.no
              go_simp
              refine (copy_any hy0).mono ?_
              rintro e X1 ⟨M2, rfl, hm2, hB2⟩
              have hSn := (hB2.block R (lt_heap hS_)).trans hS_
              refine hK.out _ _ hSn (fun _ => ?_)
              clear hK K hS_ hq0 hy0
              have hS_ := hSn
              clear hSn
              try simp only [Act.put, List.setIfInBounds_toArray, List.set_cons_zero, List.set_cons_succ]
              refine wpAnyH_ready (rs := [3]) (by kernel_rfl) (by simp) (readyL rfl (fun K hK => ?_) AllReadyH.nil)
              have hSn : (X1.alloc (.cells #[.int .i64 0, .slice none 0 0] 88)).heap[R]? = _ := (Below.heap_alloc X1 (.cells #[.int .i64 0, .slice none 0 0] 88) _ (lt_heap hS_)).trans hS_
              have hBx : Below X1.heap.size X1 (X1.alloc (.cells #[.int .i64 0, .slice none 0 0] 88)) := (Below.refl _ _).alloc (Nat.le_refl _) _
              have hbx := heap_alloc_new X1 (.cells #[.int .i64 0, .slice none 0 0] 88)
              go_simp
              obtain ⟨X2, hN⟩ : ∃ W, (X1.alloc (.cells #[.int .i64 0, .slice none 0 0] 88)) = W := ⟨_, rfl⟩
              rw [hN] at hSn hBx hbx ⊢
              obtain ⟨B2, hB2e⟩ : ∃ x, X1.heap.size = x := ⟨_, rfl⟩
              have hB2s : X1.heap.size ≤ B2 := Nat.le_of_eq hB2e
              rw [hB2e] at hbx ⊢
              refine hK.out _ _ hSn (fun _ => ?_)
              clear hK K hS_ hN hB2e
              have hS_ := hSn
              clear hSn
              try simp only [Act.put, List.setIfInBounds_toArray, List.set_cons_zero, List.set_cons_succ]
              have hb1 : Below WA.heap.size WA X1 := hb0.trans (hB2.mono hb0.size)
              have hbA : Below WA.heap.size WA X2 := hb1.trans (hBx.mono hb1.size)
              have hB2w : WA.heap.size ≤ B2 := Nat.le_trans hb1.size hB2s
              have hcop := fun Z hs hk => held_copy2 (pA := pA) (WA := WA) (Z := Z) hm2 hb0.size hs hk
              have hcop2 := hcop ((X2.setCell ⟨B2, 0, none⟩ (.int .i64 nx)).setCell ⟨B2, 1, none⟩ (.slice va vn vc)) (by simp only [World.setCell, Array.size_modify]; exact hBx.size) (fun k _ h2 => (other2 (by omega) _ _).trans (hBx.block k h2))
              clear hcop
              refine takeW 4 ?_ rfl (by kernel_rfl) (by kernel_rfl) (by kernel_rfl) (fun _ _ _ h => h) (by rfl) ?_ hS_ ?_
              rotate_left
              · intro w9 hSw
                try dsimp only at hSw
                go_simp
                with_reducible rfl
              try simp only [Act.put, List.setIfInBounds_toArray, List.set_cons_zero, List.set_cons_succ]
              have hne : R ≠ B2 := by have := lt_heap HA1.out.sys.box; omega
              have FQ := Hd.mk (ActQ.pair (x := ⟨x0, x1, x2, x3, x4⟩) HA1.out HACT.out (W2 := ((X2.setCell ⟨B2, 0, none⟩ (.int .i64 nx)).setCell ⟨B2, 1, none⟩ (.slice va vn vc))) (below2 hbA hB2w _ _) hcop2 (set2 hbx _ _) hB2w)
              have hSn : ((X2.setCell ⟨B2, 0, none⟩ (.int .i64 nx)).setCell ⟨B2, 1, none⟩ (.slice va vn vc)).heap[R]? = some (.cells #[.int .i64 nx, .slice va vn vc] 88 (0, 0)) := (other2 hne _ _).trans hS_
              have q0 := cells_cell hbx 0
              have q1 := cells_cell hbx 1
              have f0 := cells_free hbx 0
              have f1 := cells_free hbx 1
              simp only [List.getElem?_toArray, List.getElem?_cons_zero, List.getElem?_cons_succ] at q0 q1
              refine wpAnyH_ready (rs := [5]) (by kernel_rfl) (by simp) (readyL rfl (fun K hK => ?_) AllReadyH.nil)
              go_simp
              refine hK.out _ _ hSn (fun _ => ?_)
              clear hK K hS_ q0 q1 f0 f1 hSn hne
              try simp only [Act.put, List.setIfInBounds_toArray, List.set_cons_zero, List.set_cons_succ]
              refine wpAnyH_done (by kernel_rfl) ?_ _
              go_wp2_with fail
              go_meet
              exact ⟨_, _, _, rfl, rfl, ⟨FQ.out.1⟩, ⟨FQ.out.2⟩⟩
            · have hSn : (X0.alloc (.cells #[.int .i64 0, .slice none 0 0] 88)).heap[R]? = _ := (Below.heap_alloc X0 (.cells #[.int .i64 0, .slice none 0 0] 88) _ (lt_heap hS_)).trans hS_
              have hBx : Below X0.heap.size X0 (X0.alloc (.cells #[.int .i64 0, .slice none 0 0] 88)) := (Below.refl _ _).alloc (Nat.le_refl _) _
              have hbx := heap_alloc_new X0 (.cells #[.int .i64 0, .slice none 0 0] 88)
              go_simp
              obtain ⟨X1, hN⟩ : ∃ W, (X0.alloc (.cells #[.int .i64 0, .slice none 0 0] 88)) = W := ⟨_, rfl⟩
              rw [hN] at hSn hBx hbx ⊢
              obtain ⟨B2, hB2e⟩ : ∃ x, X0.heap.size = x := ⟨_, rfl⟩
              have hB2s : X0.heap.size ≤ B2 := Nat.le_of_eq hB2e
              rw [hB2e] at hbx ⊢
              refine hK.out _ _ hSn (fun _ => ?_)
              clear hK K hS_ hN hB2e
              have hS_ := hSn
              clear hSn
              try simp only [Act.put, List.setIfInBounds_toArray, List.set_cons_zero, List.set_cons_succ]
              refine wpAnyH_ready (rs := [1]) (by kernel_rfl) (by simp) (readyL rfl (fun K hK => ?_) AllReadyH.nil)
              have hb1 : Below WA.heap.size WA X1 := hb0.trans (hBx.mono hb0.size)
              obtain ⟨hq0, _⟩ := HA1.out.below hb1
              obtain ⟨y0, hy0⟩ := hq0.no
              go_simp
              refine (copy_any hy0).mono ?_
              rintro e X2 ⟨M2, rfl, hm2, hB2⟩
              have hSn := (hB2.block R (lt_heap hS_)).trans hS_
              refine hK.out _ _ hSn (fun _ => ?_)
              clear hK K hS_ hq0 hy0
              have hS_ := hSn
              clear hSn
              try simp only [Act.put, List.setIfInBounds_toArray, List.set_cons_zero, List.set_cons_succ]
              have hB2l := lt_heap hbx
              have hbx := (hB2.block B2 hB2l).trans hbx
              have hbA : Below WA.heap.size WA X2 := hb1.trans (hB2.mono hb1.size)
              have hB2w : WA.heap.size ≤ B2 := Nat.le_trans hb0.size hB2s
              have hcop := fun Z hs hk => held_copy2 (pA := pA) (WA := WA) (Z := Z) hm2 hb1.size hs hk
              have hcop2 := hcop ((X2.setCell ⟨B2, 0, none⟩ (.int .i64 nx)).setCell ⟨B2, 1, none⟩ (.slice va vn vc)) (by simp only [World.setCell, Array.size_modify]; exact Nat.le_refl _) (fun k h1 _ => other2 (by omega) _ _)
              clear hcop
              refine takeW 4 ?_ rfl (by kernel_rfl) (by kernel_rfl) (by kernel_rfl) (fun _ _ _ h => h) (by rfl) ?_ hS_ ?_
              rotate_left
              · intro w9 hSw
                try dsimp only at hSw
                go_simp
                with_reducible rfl
              try simp only [Act.put, List.setIfInBounds_toArray, List.set_cons_zero, List.set_cons_succ]
              have hne : R ≠ B2 := by have := lt_heap HA1.out.sys.box; omega
              have FQ := Hd.mk (ActQ.pair (x := ⟨x0, x1, x2, x3, x4⟩) HA1.out HACT.out (W2 := ((X2.setCell ⟨B2, 0, none⟩ (.int .i64 nx)).setCell ⟨B2, 1, none⟩ (.slice va vn vc))) (below2 hbA hB2w _ _) hcop2 (set2 hbx _ _) hB2w)
              have hSn : ((X2.setCell ⟨B2, 0, none⟩ (.int .i64 nx)).setCell ⟨B2, 1, none⟩ (.slice va vn vc)).heap[R]? = some (.cells #[.int .i64 nx, .slice va vn vc] 88 (0, 0)) := (other2 hne _ _).trans hS_
              have q0 := cells_cell hbx 0
              have q1 := cells_cell hbx 1
              have f0 := cells_free hbx 0
              have f1 := cells_free hbx 1
              simp only [List.getElem?_toArray, List.getElem?_cons_zero, List.getElem?_cons_succ] at q0 q1
              refine wpAnyH_ready (rs := [5]) (by kernel_rfl) (by simp) (readyL rfl (fun K hK => ?_) AllReadyH.nil)
              go_simp
              refine hK.out _ _ hSn (fun _ => ?_)
              clear hK K hS_ q0 q1 f0 f1 hSn hne
              try simp only [Act.put, List.setIfInBounds_toArray, List.set_cons_zero, List.set_cons_succ]
              refine wpAnyH_done (by kernel_rfl) ?_ _
              go_wp2_with fail
              go_meet
              exact ⟨_, _, _, rfl, rfl, ⟨FQ.out.1⟩, ⟨FQ.out.2⟩⟩
          case rest =>
            obtain ⟨M2, B2, p2, rfl, rfl, HQ1, HBE⟩ := hcut
            have HNXT := Hd.mk HQ1.out.nxt
            have y0 := (cells_cell HBE.out.act.now 0).trans (show _ = some (h8 x0) from rfl)
            have y1 := (cells_cell HBE.out.act.now 1).trans (show _ = some (Value.int .i64 x1) from rfl)
            have y2 := (cells_cell HBE.out.act.now 2).trans (show _ = some (Value.int .i64 x2) from rfl)
            have y3 := (cells_cell HBE.out.act.now 3).trans (show _ = some (Value.int .i64 x3) from rfl)
            have y4 := (cells_cell HBE.out.act.now 4).trans (show _ = some (h8 x4) from rfl)
            go_upto_block 2 with fail
            clear y0 y1 y2 y3 y4
            have hq8 : (x0 % 8#8).toNat < 8 := by rw [BitVec.toNat_umod]; exact Nat.mod_lt _ (by decide)
            obtain ⟨q8, hq⟩ : ∃ x, x0 % 8#8 = x := ⟨_, rfl⟩
            rw [hq] at hq8 ⊢
            have HQ8 := Hd.mk hq8
            clear hq hq8
            go_cut [12, 13, 14, 15] (fun v12 v13 v14 v15 wx => ∃ (n1 e1 nx' : Int) (p3 : Nat → Prop) (v' : Value) (s1 : St), v12 = .int .i64 n1 ∧ v13 = .int .i64 n1 ∧ v14 = .int .i64 e1 ∧ v15 = .int .i64 e1 ∧ s1.made.length ≤ j + 1 ∧ Hd (ActQ w wx (.slice (some ⟨b, off, none⟩) q c) ls p3 R M s1 s1 nx' v') ∧ Hd (Bes p3 wx B1 ⟨x0, x1, x2, x3, x4⟩ M2 st B2 nx (.slice va vn vc)))
            case first =>
              have hq8 := HQ8.out
              rcases eight q8 hq8 with rfl | rfl | rfl | rfl | rfl | rfl | rfl | rfl
              · obtain ⟨n1, hn1⟩ : ∃ x, rootN st x2 x3 x4 = x := ⟨_, rfl⟩
                obtain ⟨er, he1⟩ : ∃ x, rootE st x2 x3 x4 = x := ⟨_, rfl⟩
                obtain ⟨s1, hs1⟩ : ∃ x, rootS st x2 x3 x4 = x := ⟨_, rfl⟩
                have HN1 := Hd.mk hn1
                have HE1 := Hd.mk he1
                have HS1 := Hd.mk hs1
                have HLL : Hd (s1.made.length ≤ st.made.length + 1) := ⟨by rw [← hs1]; exact root_len _ _ _ _⟩
                have HY := Hd.mk (y_root HQ1.out.sys.mem hn1 he1 hs1)
                clear hn1 he1 hs1 hq8
                have y0 := (cells_cell HBE.out.act.now 0).trans (show _ = some (h8 x0) from rfl)
                have y1 := (cells_cell HBE.out.act.now 1).trans (show _ = some (Value.int .i64 x1) from rfl)
                have y2 := (cells_cell HBE.out.act.now 2).trans (show _ = some (Value.int .i64 x2) from rfl)
                have y3 := (cells_cell HBE.out.act.now 3).trans (show _ = some (Value.int .i64 x3) from rfl)
                have y4 := (cells_cell HBE.out.act.now 4).trans (show _ = some (h8 x4) from rfl)
                go_wp2_with fail
                refine HY.out.mono ?_
                rintro e w4 ⟨rfl, hm, hs⟩
                obtain ⟨hq2, s2⟩ := HQ1.out.mut hm hs
                have HQ2 := Hd.mk hq2
                have HB2 := Hd.mk (HBE.out.step s2)
                have c0 := hq2.b0
                have c1 := hq2.b1
                have hrm := refroot_any HQ2.out.ref.now HQ2.out.nxt HFEW.out x2 x3 x4
                rw [HN1.out, HE1.out, HS1.out] at hrm
                have HRM := Hd.mk hrm
                clear hm hs hq2 s2 hrm HY y0 y1 y2 y3 y4
                have y0 := (cells_cell HB2.out.act.now 0).trans (show _ = some (h8 x0) from rfl)
                have y1 := (cells_cell HB2.out.act.now 1).trans (show _ = some (Value.int .i64 x1) from rfl)
                have y2 := (cells_cell HB2.out.act.now 2).trans (show _ = some (Value.int .i64 x2) from rfl)
                have y3 := (cells_cell HB2.out.act.now 3).trans (show _ = some (Value.int .i64 x3) from rfl)
                have y4 := (cells_cell HB2.out.act.now 4).trans (show _ = some (h8 x4) from rfl)
                go_wp2_with fail
                refine HRM.out.mono ?_
                rintro e w5 ⟨v', rfl, hp, hB⟩
                clear c0 c1 HRM y0 y1 y2 y3 y4
                have hrt := hp.ref HQ2.out.ref.now hB
                obtain ⟨f1, g1, hv'⟩ := hrt.rows.shape
                obtain ⟨Nc, hNc⟩ : ∃ n, s1.made.length = n := ⟨_, rfl⟩
                rw [hNc] at hv'
                subst hv'
                obtain ⟨hq3, s3⟩ := HQ2.out.put hB hp (nx' := s1.next) rfl
                obtain ⟨h5, _⟩ := HQ2.out.below hB
                have HQ3 := Hd.mk hq3
                have HB3 := Hd.mk (HB2.out.step s3)
                have c0 := h5.b0
                have c1 := h5.b1
                have f0 := h5.f 0
                have f1' := h5.f 1
                clear hrt hp hB hNc hq3 s3 h5
                go_wp2_with fail
                go_meet
                exact ⟨n1, er, s1.next, _, _, s1, rfl, rfl, rfl, rfl, by have := HLL.out; have := HLEN.out; omega, HQ3, HB3⟩
              · obtain ⟨n1, hn1⟩ : ∃ x, rootN st x2 x3 x4 = x := ⟨_, rfl⟩
                obtain ⟨er, he1⟩ : ∃ x, rootE st x2 x3 x4 = x := ⟨_, rfl⟩
                obtain ⟨s1, hs1⟩ : ∃ x, rootS st x2 x3 x4 = x := ⟨_, rfl⟩
                have HN1 := Hd.mk hn1
                have HE1 := Hd.mk he1
                have HS1 := Hd.mk hs1
                have HLL : Hd (s1.made.length ≤ st.made.length + 1) := ⟨by rw [← hs1]; exact root_len _ _ _ _⟩
                have HY := Hd.mk (y_root HQ1.out.sys.mem hn1 he1 hs1)
                clear hn1 he1 hs1 hq8
                have y0 := (cells_cell HBE.out.act.now 0).trans (show _ = some (h8 x0) from rfl)
                have y1 := (cells_cell HBE.out.act.now 1).trans (show _ = some (Value.int .i64 x1) from rfl)
                have y2 := (cells_cell HBE.out.act.now 2).trans (show _ = some (Value.int .i64 x2) from rfl)
                have y3 := (cells_cell HBE.out.act.now 3).trans (show _ = some (Value.int .i64 x3) from rfl)
                have y4 := (cells_cell HBE.out.act.now 4).trans (show _ = some (h8 x4) from rfl)
                go_wp2_with fail
                refine HY.out.mono ?_
                rintro e w4 ⟨rfl, hm, hs⟩
                obtain ⟨hq2, s2⟩ := HQ1.out.mut hm hs
                have HQ2 := Hd.mk hq2
                have HB2 := Hd.mk (HBE.out.step s2)
                have c0 := hq2.b0
                have c1 := hq2.b1
                have hrm := refroot_any HQ2.out.ref.now HQ2.out.nxt HFEW.out x2 x3 x4
                rw [HN1.out, HE1.out, HS1.out] at hrm
                have HRM := Hd.mk hrm
                clear hm hs hq2 s2 hrm HY y0 y1 y2 y3 y4
                have y0 := (cells_cell HB2.out.act.now 0).trans (show _ = some (h8 x0) from rfl)
                have y1 := (cells_cell HB2.out.act.now 1).trans (show _ = some (Value.int .i64 x1) from rfl)
                have y2 := (cells_cell HB2.out.act.now 2).trans (show _ = some (Value.int .i64 x2) from rfl)
                have y3 := (cells_cell HB2.out.act.now 3).trans (show _ = some (Value.int .i64 x3) from rfl)
                have y4 := (cells_cell HB2.out.act.now 4).trans (show _ = some (h8 x4) from rfl)
                go_wp2_with fail
                refine HRM.out.mono ?_
                rintro e w5 ⟨v', rfl, hp, hB⟩
                clear c0 c1 HRM y0 y1 y2 y3 y4
                have hrt := hp.ref HQ2.out.ref.now hB
                obtain ⟨f1, g1, hv'⟩ := hrt.rows.shape
                obtain ⟨Nc, hNc⟩ : ∃ n, s1.made.length = n := ⟨_, rfl⟩
                rw [hNc] at hv'
                subst hv'
                obtain ⟨hq3, s3⟩ := HQ2.out.put hB hp (nx' := s1.next) rfl
                obtain ⟨h5, _⟩ := HQ2.out.below hB
                have HQ3 := Hd.mk hq3
                have HB3 := Hd.mk (HB2.out.step s3)
                have c0 := h5.b0
                have c1 := h5.b1
                have f0 := h5.f 0
                have f1' := h5.f 1
                clear hrt hp hB hNc hq3 s3 h5
                go_wp2_with fail
                go_meet
                exact ⟨n1, er, s1.next, _, _, s1, rfl, rfl, rfl, rfl, by have := HLL.out; have := HLEN.out; omega, HQ3, HB3⟩
              · obtain ⟨n1, hn1⟩ : ∃ x, derN st x1 x3 x4 = x := ⟨_, rfl⟩
                obtain ⟨er, he1⟩ : ∃ x, derE st x1 x3 x4 = x := ⟨_, rfl⟩
                obtain ⟨s1, hs1⟩ : ∃ x, derS st x1 x3 x4 = x := ⟨_, rfl⟩
                have HN1 := Hd.mk hn1
                have HE1 := Hd.mk he1
                have HS1 := Hd.mk hs1
                have HLL : Hd (s1.made.length ≤ st.made.length + 1) := ⟨by rw [← hs1]; exact der_len _ _ _ _⟩
                have HY := Hd.mk (y_der HQ1.out.sys.mem HSER.out hn1 he1 hs1)
                clear hn1 he1 hs1 hq8
                have y0 := (cells_cell HBE.out.act.now 0).trans (show _ = some (h8 x0) from rfl)
                have y1 := (cells_cell HBE.out.act.now 1).trans (show _ = some (Value.int .i64 x1) from rfl)
                have y2 := (cells_cell HBE.out.act.now 2).trans (show _ = some (Value.int .i64 x2) from rfl)
                have y3 := (cells_cell HBE.out.act.now 3).trans (show _ = some (Value.int .i64 x3) from rfl)
                have y4 := (cells_cell HBE.out.act.now 4).trans (show _ = some (h8 x4) from rfl)
                go_wp2_with fail
                refine HY.out.mono ?_
                rintro e w4 ⟨rfl, hm, hs⟩
                obtain ⟨hq2, s2⟩ := HQ1.out.mut hm hs
                have HQ2 := Hd.mk hq2
                have HB2 := Hd.mk (HBE.out.step s2)
                have c0 := hq2.b0
                have c1 := hq2.b1
                have hrm := refder_any HQ2.out.ref.now HQ2.out.nxt HFEW.out x1 x3 x4
                rw [HN1.out, HE1.out, HS1.out] at hrm
                have HRM := Hd.mk hrm
                clear hm hs hq2 s2 hrm HY y0 y1 y2 y3 y4
                have y0 := (cells_cell HB2.out.act.now 0).trans (show _ = some (h8 x0) from rfl)
                have y1 := (cells_cell HB2.out.act.now 1).trans (show _ = some (Value.int .i64 x1) from rfl)
                have y2 := (cells_cell HB2.out.act.now 2).trans (show _ = some (Value.int .i64 x2) from rfl)
                have y3 := (cells_cell HB2.out.act.now 3).trans (show _ = some (Value.int .i64 x3) from rfl)
                have y4 := (cells_cell HB2.out.act.now 4).trans (show _ = some (h8 x4) from rfl)
                go_wp2_with fail
                refine HRM.out.mono ?_
                rintro e w5 ⟨v', rfl, hp, hB⟩
                clear c0 c1 HRM y0 y1 y2 y3 y4
                have hrt := hp.ref HQ2.out.ref.now hB
                obtain ⟨f1, g1, hv'⟩ := hrt.rows.shape
                obtain ⟨Nc, hNc⟩ : ∃ n, s1.made.length = n := ⟨_, rfl⟩
                rw [hNc] at hv'
                subst hv'
                obtain ⟨hq3, s3⟩ := HQ2.out.put hB hp (nx' := s1.next) rfl
                obtain ⟨h5, _⟩ := HQ2.out.below hB
                have HQ3 := Hd.mk hq3
                have HB3 := Hd.mk (HB2.out.step s3)
                have c0 := h5.b0
                have c1 := h5.b1
                have f0 := h5.f 0
                have f1' := h5.f 1
                clear hrt hp hB hNc hq3 s3 h5
                go_wp2_with fail
                go_meet
                exact ⟨n1, er, s1.next, _, _, s1, rfl, rfl, rfl, rfl, by have := HLL.out; have := HLEN.out; omega, HQ3, HB3⟩
              · obtain ⟨n1, hn1⟩ : ∃ x, derN st x1 x3 x4 = x := ⟨_, rfl⟩
                obtain ⟨er, he1⟩ : ∃ x, derE st x1 x3 x4 = x := ⟨_, rfl⟩
                obtain ⟨s1, hs1⟩ : ∃ x, derS st x1 x3 x4 = x := ⟨_, rfl⟩
                have HN1 := Hd.mk hn1
                have HE1 := Hd.mk he1
                have HS1 := Hd.mk hs1
                have HLL : Hd (s1.made.length ≤ st.made.length + 1) := ⟨by rw [← hs1]; exact der_len _ _ _ _⟩
                have HY := Hd.mk (y_der HQ1.out.sys.mem HSER.out hn1 he1 hs1)
                clear hn1 he1 hs1 hq8
                have y0 := (cells_cell HBE.out.act.now 0).trans (show _ = some (h8 x0) from rfl)
                have y1 := (cells_cell HBE.out.act.now 1).trans (show _ = some (Value.int .i64 x1) from rfl)
                have y2 := (cells_cell HBE.out.act.now 2).trans (show _ = some (Value.int .i64 x2) from rfl)
                have y3 := (cells_cell HBE.out.act.now 3).trans (show _ = some (Value.int .i64 x3) from rfl)
                have y4 := (cells_cell HBE.out.act.now 4).trans (show _ = some (h8 x4) from rfl)
                go_wp2_with fail
                refine HY.out.mono ?_
                rintro e w4 ⟨rfl, hm, hs⟩
                obtain ⟨hq2, s2⟩ := HQ1.out.mut hm hs
                have HQ2 := Hd.mk hq2
                have HB2 := Hd.mk (HBE.out.step s2)
                have c0 := hq2.b0
                have c1 := hq2.b1
                have hrm := refder_any HQ2.out.ref.now HQ2.out.nxt HFEW.out x1 x3 x4
                rw [HN1.out, HE1.out, HS1.out] at hrm
                have HRM := Hd.mk hrm
                clear hm hs hq2 s2 hrm HY y0 y1 y2 y3 y4
                have y0 := (cells_cell HB2.out.act.now 0).trans (show _ = some (h8 x0) from rfl)
                have y1 := (cells_cell HB2.out.act.now 1).trans (show _ = some (Value.int .i64 x1) from rfl)
                have y2 := (cells_cell HB2.out.act.now 2).trans (show _ = some (Value.int .i64 x2) from rfl)
                have y3 := (cells_cell HB2.out.act.now 3).trans (show _ = some (Value.int .i64 x3) from rfl)
                have y4 := (cells_cell HB2.out.act.now 4).trans (show _ = some (h8 x4) from rfl)
                go_wp2_with fail
                refine HRM.out.mono ?_
                rintro e w5 ⟨v', rfl, hp, hB⟩
                clear c0 c1 HRM y0 y1 y2 y3 y4
                have hrt := hp.ref HQ2.out.ref.now hB
                obtain ⟨f1, g1, hv'⟩ := hrt.rows.shape
                obtain ⟨Nc, hNc⟩ : ∃ n, s1.made.length = n := ⟨_, rfl⟩
                rw [hNc] at hv'
                subst hv'
                obtain ⟨hq3, s3⟩ := HQ2.out.put hB hp (nx' := s1.next) rfl
                obtain ⟨h5, _⟩ := HQ2.out.below hB
                have HQ3 := Hd.mk hq3
                have HB3 := Hd.mk (HB2.out.step s3)
                have c0 := h5.b0
                have c1 := h5.b1
                have f0 := h5.f 0
                have f1' := h5.f 1
                clear hrt hp hB hNc hq3 s3 h5
                go_wp2_with fail
                go_meet
                exact ⟨n1, er, s1.next, _, _, s1, rfl, rfl, rfl, rfl, by have := HLL.out; have := HLEN.out; omega, HQ3, HB3⟩
              · obtain ⟨n1, hn1⟩ : ∃ x, derN st x1 x3 x4 = x := ⟨_, rfl⟩
                obtain ⟨er, he1⟩ : ∃ x, derE st x1 x3 x4 = x := ⟨_, rfl⟩
                obtain ⟨s1, hs1⟩ : ∃ x, derS st x1 x3 x4 = x := ⟨_, rfl⟩
                have HN1 := Hd.mk hn1
                have HE1 := Hd.mk he1
                have HS1 := Hd.mk hs1
                have HLL : Hd (s1.made.length ≤ st.made.length + 1) := ⟨by rw [← hs1]; exact der_len _ _ _ _⟩
                have HY := Hd.mk (y_der HQ1.out.sys.mem HSER.out hn1 he1 hs1)
                clear hn1 he1 hs1 hq8
                have y0 := (cells_cell HBE.out.act.now 0).trans (show _ = some (h8 x0) from rfl)
                have y1 := (cells_cell HBE.out.act.now 1).trans (show _ = some (Value.int .i64 x1) from rfl)
                have y2 := (cells_cell HBE.out.act.now 2).trans (show _ = some (Value.int .i64 x2) from rfl)
                have y3 := (cells_cell HBE.out.act.now 3).trans (show _ = some (Value.int .i64 x3) from rfl)
                have y4 := (cells_cell HBE.out.act.now 4).trans (show _ = some (h8 x4) from rfl)
                go_wp2_with fail
                refine HY.out.mono ?_
                rintro e w4 ⟨rfl, hm, hs⟩
                obtain ⟨hq2, s2⟩ := HQ1.out.mut hm hs
                have HQ2 := Hd.mk hq2
                have HB2 := Hd.mk (HBE.out.step s2)
                have c0 := hq2.b0
                have c1 := hq2.b1
                have hrm := refder_any HQ2.out.ref.now HQ2.out.nxt HFEW.out x1 x3 x4
                rw [HN1.out, HE1.out, HS1.out] at hrm
                have HRM := Hd.mk hrm
                clear hm hs hq2 s2 hrm HY y0 y1 y2 y3 y4
                have y0 := (cells_cell HB2.out.act.now 0).trans (show _ = some (h8 x0) from rfl)
                have y1 := (cells_cell HB2.out.act.now 1).trans (show _ = some (Value.int .i64 x1) from rfl)
                have y2 := (cells_cell HB2.out.act.now 2).trans (show _ = some (Value.int .i64 x2) from rfl)
                have y3 := (cells_cell HB2.out.act.now 3).trans (show _ = some (Value.int .i64 x3) from rfl)
                have y4 := (cells_cell HB2.out.act.now 4).trans (show _ = some (h8 x4) from rfl)
                go_wp2_with fail
                refine HRM.out.mono ?_
                rintro e w5 ⟨v', rfl, hp, hB⟩
                clear c0 c1 HRM y0 y1 y2 y3 y4
                have hrt := hp.ref HQ2.out.ref.now hB
                obtain ⟨f1, g1, hv'⟩ := hrt.rows.shape
                obtain ⟨Nc, hNc⟩ : ∃ n, s1.made.length = n := ⟨_, rfl⟩
                rw [hNc] at hv'
                subst hv'
                obtain ⟨hq3, s3⟩ := HQ2.out.put hB hp (nx' := s1.next) rfl
                obtain ⟨h5, _⟩ := HQ2.out.below hB
                have HQ3 := Hd.mk hq3
                have HB3 := Hd.mk (HB2.out.step s3)
                have c0 := h5.b0
                have c1 := h5.b1
                have f0 := h5.f 0
                have f1' := h5.f 1
                clear hrt hp hB hNc hq3 s3 h5
                go_wp2_with fail
                go_meet
                exact ⟨n1, er, s1.next, _, _, s1, rfl, rfl, rfl, rfl, by have := HLL.out; have := HLEN.out; omega, HQ3, HB3⟩
              · obtain ⟨lr, hlr⟩ : ∃ x, belowS st x1 = x := ⟨_, rfl⟩
                obtain ⟨er, he1⟩ : ∃ x, getE st x1 = x := ⟨_, rfl⟩
                obtain ⟨s1, hs1⟩ : ∃ x, revokeS st x1 = x := ⟨_, rfl⟩
                have HLR := Hd.mk hlr
                have HE1 := Hd.mk he1
                have HS1 := Hd.mk hs1
                have HLL : Hd (s1.made.length ≤ st.made.length + 1) := ⟨by rw [← hs1]; unfold revokeS; rw [take_len]; omega⟩
                have HSN : Hd (s1.next = nx) := ⟨by rw [← hs1]; exact HQ1.out.nxt⟩
                have HRC : Hd (R < wc.heap.size) := ⟨lt_heap HQ1.out.sys.box⟩
                have HY := Hd.mk (y_revoke HQ1.out.sys.mem HSER.out hlr he1 hs1)
                clear hlr he1 hs1 hq8
                have y0 := (cells_cell HBE.out.act.now 0).trans (show _ = some (h8 x0) from rfl)
                have y1 := (cells_cell HBE.out.act.now 1).trans (show _ = some (Value.int .i64 x1) from rfl)
                have y2 := (cells_cell HBE.out.act.now 2).trans (show _ = some (Value.int .i64 x2) from rfl)
                have y3 := (cells_cell HBE.out.act.now 3).trans (show _ = some (Value.int .i64 x3) from rfl)
                have y4 := (cells_cell HBE.out.act.now 4).trans (show _ = some (h8 x4) from rfl)
                go_wp2_with fail
                refine HY.out.mono ?_
                rintro e w4 ⟨ra, rc, pq, rfl, hm, hf, hs⟩
                obtain ⟨hq2, s2⟩ := HQ1.out.mutp hm hs
                have HCT := Hd.mk hf.now
                have HQ2 := Hd.mk hq2
                have HB2 := Hd.mk (HBE.out.step s2)
                have HW4 := Hd.mk hs.kept.size
                have c0 := hq2.b0
                have c1 := hq2.b1
                have hrm := refrevoke_any HQ2.out.ref.now HQ2.out.nxt x1
                rw [HE1.out] at hrm
                have HRM := Hd.mk hrm
                clear hm hf hs hq2 s2 hrm HY y0 y1 y2 y3 y4
                have y0 := (cells_cell HB2.out.act.now 0).trans (show _ = some (h8 x0) from rfl)
                have y1 := (cells_cell HB2.out.act.now 1).trans (show _ = some (Value.int .i64 x1) from rfl)
                have y2 := (cells_cell HB2.out.act.now 2).trans (show _ = some (Value.int .i64 x2) from rfl)
                have y3 := (cells_cell HB2.out.act.now 3).trans (show _ = some (Value.int .i64 x3) from rfl)
                have y4 := (cells_cell HB2.out.act.now 4).trans (show _ = some (h8 x4) from rfl)
                go_wp2_with fail
                refine HRM.out.mono ?_
                rintro e w5 ⟨v', lv, rfl, hk, hl2, hB⟩
                rw [HLR.out] at hl2
                rw [HS1.out] at hk
                clear c0 c1 HRM y0 y1 y2 y3 y4
                have hrt := hk.now
                obtain ⟨f1, g1, hv'⟩ := hrt.rows.shape
                obtain ⟨Nc, hNc⟩ : ∃ n, s1.made.length = n := ⟨_, rfl⟩
                rw [hNc] at hv'
                subst hv'
                obtain ⟨la, lc, hlv⟩ := hl2.src.shape
                subst hlv
                obtain ⟨hq3, s3⟩ := HQ2.out.put hB (.inr hk) (nx' := nx) HSN.out
                obtain ⟨h5, _⟩ := HQ2.out.below hB
                have HQ3 := Hd.mk hq3
                have HB3 := Hd.mk (HB2.out.step s3)
                have c0 := h5.b0
                have c1 := h5.b1
                have f0 := h5.f 0
                have f1' := h5.f 1
                have hc5 := OwnE.below HCT.out hB
                have hr4 := HW4.out
                have hrc := HRC.out
                have HCT6 : Hd (AppI (putR w5 R nx (.slice f1 Nc g1)) wc.heap.size (.slice ra lr.length rc) lr) := ⟨OwnE.same hc5 fun g cur fr hg hv => by
                  have h1 := World.ownsRow.lt hc5 g hv
                  exact putR_other (by omega)⟩
                have HWT6 : Hd (AppI (putR w5 R nx (.slice f1 Nc g1)) w4.heap.size (.slice la lr.length lc) lr) := ⟨OwnE.same hl2 fun g cur fr hg hv => by
                  have h1 := World.ownsRow.lt hl2 g hv
                  exact putR_other (by omega)⟩
                clear hrt hk hl2 hB hNc hq3 s3 h5 hc5 hr4 hrc
                go_upto_region 34 with fail
                obtain ⟨w6, hw6⟩ : ∃ W, ((w5.setCell ⟨R, 0, none⟩ (.int .i64 nx)).setCell ⟨R, 1, none⟩ (.slice f1 Nc g1)) = W := ⟨_, rfl⟩
                have hw6b : putR w5 R nx (.slice f1 Nc g1) = w6 := hw6
                rw [hw6b] at HQ3 HB3 HCT6 HWT6
                rw [hw6]
                clear hw6 hw6b c0 c1 f0 f1'
                go_wp2_with fail
                refine (same_at (l := lr) (m := lr) (b := true) (by simp) (OwnE.src HCT6.out) (OwnE.src HWT6.out)).mono ?_
                rintro e w7 ⟨rfl, hB⟩
                obtain ⟨hq4, s4⟩ := HQ3.out.below hB
                have HQ4 := Hd.mk hq4
                have HB4 := Hd.mk (HB3.out.step s4)
                clear hq4 s4 hB
                go_wp2_with fail
                go_meet
                exact ⟨0, er, nx, _, _, s1, rfl, rfl, rfl, rfl, by have := HLL.out; have := HLEN.out; omega, HQ4, HB4⟩
              · obtain ⟨lr, hlr⟩ : ∃ x, belowS st x1 = x := ⟨_, rfl⟩
                obtain ⟨er, he1⟩ : ∃ x, getE st x1 = x := ⟨_, rfl⟩
                obtain ⟨s1, hs1⟩ : ∃ x, revokeS st x1 = x := ⟨_, rfl⟩
                have HLR := Hd.mk hlr
                have HE1 := Hd.mk he1
                have HS1 := Hd.mk hs1
                have HLL : Hd (s1.made.length ≤ st.made.length + 1) := ⟨by rw [← hs1]; unfold revokeS; rw [take_len]; omega⟩
                have HSN : Hd (s1.next = nx) := ⟨by rw [← hs1]; exact HQ1.out.nxt⟩
                have HRC : Hd (R < wc.heap.size) := ⟨lt_heap HQ1.out.sys.box⟩
                have HY := Hd.mk (y_revoke HQ1.out.sys.mem HSER.out hlr he1 hs1)
                clear hlr he1 hs1 hq8
                have y0 := (cells_cell HBE.out.act.now 0).trans (show _ = some (h8 x0) from rfl)
                have y1 := (cells_cell HBE.out.act.now 1).trans (show _ = some (Value.int .i64 x1) from rfl)
                have y2 := (cells_cell HBE.out.act.now 2).trans (show _ = some (Value.int .i64 x2) from rfl)
                have y3 := (cells_cell HBE.out.act.now 3).trans (show _ = some (Value.int .i64 x3) from rfl)
                have y4 := (cells_cell HBE.out.act.now 4).trans (show _ = some (h8 x4) from rfl)
                go_wp2_with fail
                refine HY.out.mono ?_
                rintro e w4 ⟨ra, rc, pq, rfl, hm, hf, hs⟩
                obtain ⟨hq2, s2⟩ := HQ1.out.mutp hm hs
                have HCT := Hd.mk hf.now
                have HQ2 := Hd.mk hq2
                have HB2 := Hd.mk (HBE.out.step s2)
                have HW4 := Hd.mk hs.kept.size
                have c0 := hq2.b0
                have c1 := hq2.b1
                have hrm := refrevoke_any HQ2.out.ref.now HQ2.out.nxt x1
                rw [HE1.out] at hrm
                have HRM := Hd.mk hrm
                clear hm hf hs hq2 s2 hrm HY y0 y1 y2 y3 y4
                have y0 := (cells_cell HB2.out.act.now 0).trans (show _ = some (h8 x0) from rfl)
                have y1 := (cells_cell HB2.out.act.now 1).trans (show _ = some (Value.int .i64 x1) from rfl)
                have y2 := (cells_cell HB2.out.act.now 2).trans (show _ = some (Value.int .i64 x2) from rfl)
                have y3 := (cells_cell HB2.out.act.now 3).trans (show _ = some (Value.int .i64 x3) from rfl)
                have y4 := (cells_cell HB2.out.act.now 4).trans (show _ = some (h8 x4) from rfl)
                go_wp2_with fail
                refine HRM.out.mono ?_
                rintro e w5 ⟨v', lv, rfl, hk, hl2, hB⟩
                rw [HLR.out] at hl2
                rw [HS1.out] at hk
                clear c0 c1 HRM y0 y1 y2 y3 y4
                have hrt := hk.now
                obtain ⟨f1, g1, hv'⟩ := hrt.rows.shape
                obtain ⟨Nc, hNc⟩ : ∃ n, s1.made.length = n := ⟨_, rfl⟩
                rw [hNc] at hv'
                subst hv'
                obtain ⟨la, lc, hlv⟩ := hl2.src.shape
                subst hlv
                obtain ⟨hq3, s3⟩ := HQ2.out.put hB (.inr hk) (nx' := nx) HSN.out
                obtain ⟨h5, _⟩ := HQ2.out.below hB
                have HQ3 := Hd.mk hq3
                have HB3 := Hd.mk (HB2.out.step s3)
                have c0 := h5.b0
                have c1 := h5.b1
                have f0 := h5.f 0
                have f1' := h5.f 1
                have hc5 := OwnE.below HCT.out hB
                have hr4 := HW4.out
                have hrc := HRC.out
                have HCT6 : Hd (AppI (putR w5 R nx (.slice f1 Nc g1)) wc.heap.size (.slice ra lr.length rc) lr) := ⟨OwnE.same hc5 fun g cur fr hg hv => by
                  have h1 := World.ownsRow.lt hc5 g hv
                  exact putR_other (by omega)⟩
                have HWT6 : Hd (AppI (putR w5 R nx (.slice f1 Nc g1)) w4.heap.size (.slice la lr.length lc) lr) := ⟨OwnE.same hl2 fun g cur fr hg hv => by
                  have h1 := World.ownsRow.lt hl2 g hv
                  exact putR_other (by omega)⟩
                clear hrt hk hl2 hB hNc hq3 s3 h5 hc5 hr4 hrc
                go_upto_region 34 with fail
                obtain ⟨w6, hw6⟩ : ∃ W, ((w5.setCell ⟨R, 0, none⟩ (.int .i64 nx)).setCell ⟨R, 1, none⟩ (.slice f1 Nc g1)) = W := ⟨_, rfl⟩
                have hw6b : putR w5 R nx (.slice f1 Nc g1) = w6 := hw6
                rw [hw6b] at HQ3 HB3 HCT6 HWT6
                rw [hw6]
                clear hw6 hw6b c0 c1 f0 f1'
                go_wp2_with fail
                refine (same_at (l := lr) (m := lr) (b := true) (by simp) (OwnE.src HCT6.out) (OwnE.src HWT6.out)).mono ?_
                rintro e w7 ⟨rfl, hB⟩
                obtain ⟨hq4, s4⟩ := HQ3.out.below hB
                have HQ4 := Hd.mk hq4
                have HB4 := Hd.mk (HB3.out.step s4)
                clear hq4 s4 hB
                go_wp2_with fail
                go_meet
                exact ⟨0, er, nx, _, _, s1, rfl, rfl, rfl, rfl, by have := HLL.out; have := HLEN.out; omega, HQ4, HB4⟩
              · obtain ⟨lr, hlr⟩ : ∃ x, closeL st x2 = x := ⟨_, rfl⟩
                obtain ⟨s1, hs1⟩ : ∃ x, closeS st x2 = x := ⟨_, rfl⟩
                have HLR := Hd.mk hlr
                have HS1 := Hd.mk hs1
                have HLL : Hd (s1.made.length ≤ st.made.length + 1) := ⟨by rw [← hs1]; unfold closeS; rw [take_len]; omega⟩
                have HSN : Hd (s1.next = nx) := ⟨by rw [← hs1]; exact HQ1.out.nxt⟩
                have HRC : Hd (R < wc.heap.size) := ⟨lt_heap HQ1.out.sys.box⟩
                have HRM := Hd.mk (refclose_any HQ1.out.ref.now HQ1.out.nxt x2)
                have c0 := HQ1.out.b0
                have c1 := HQ1.out.b1
                clear hlr hs1 hq8
                have y0 := (cells_cell HBE.out.act.now 0).trans (show _ = some (h8 x0) from rfl)
                have y1 := (cells_cell HBE.out.act.now 1).trans (show _ = some (Value.int .i64 x1) from rfl)
                have y2 := (cells_cell HBE.out.act.now 2).trans (show _ = some (Value.int .i64 x2) from rfl)
                have y3 := (cells_cell HBE.out.act.now 3).trans (show _ = some (Value.int .i64 x3) from rfl)
                have y4 := (cells_cell HBE.out.act.now 4).trans (show _ = some (h8 x4) from rfl)
                go_wp2_with fail
                refine HRM.out.mono ?_
                rintro e w4 ⟨v', lv, rfl, hk, hl2, hB⟩
                rw [HLR.out] at hl2
                rw [HS1.out] at hk
                clear c0 c1 HRM y0 y1 y2 y3 y4
                have hrt := hk.now
                obtain ⟨f1, g1, hv'⟩ := hrt.rows.shape
                obtain ⟨Nc, hNc⟩ : ∃ n, s1.made.length = n := ⟨_, rfl⟩
                rw [hNc] at hv'
                subst hv'
                obtain ⟨la, lc, hlv⟩ := hl2.src.shape
                subst hlv
                obtain ⟨hq2, s2⟩ := HQ1.out.put hB (.inr hk) (nx' := nx) HSN.out
                obtain ⟨h5, _⟩ := HQ1.out.below hB
                have HQ2 := Hd.mk hq2
                have HB2 := Hd.mk (HBE.out.step s2)
                have c0 := h5.b0
                have c1 := h5.b1
                have f0 := h5.f 0
                have f1' := h5.f 1
                have hrc := HRC.out
                have hwt : AppI (putR w4 R nx (.slice f1 Nc g1)) wc.heap.size (.slice la lr.length lc) lr := OwnE.same hl2 fun g cur fr hg hv => by
                  have h1 := World.ownsRow.lt hl2 g hv
                  exact putR_other (by omega)
                have HWT := Hd.mk (held_own2 (pr := p2) (Wl := wc) (Wh := w4) hwt (Nat.le_refl _) (Nat.le_of_eq putR_size))
                clear hrt hk hl2 hB hNc hq2 s2 h5 hrc hwt
                go_upto_region 18 with fail
                obtain ⟨w5, hw5⟩ : ∃ W, ((w4.setCell ⟨R, 0, none⟩ (.int .i64 nx)).setCell ⟨R, 1, none⟩ (.slice f1 Nc g1)) = W := ⟨_, rfl⟩
                have hw5b : putR w4 R nx (.slice f1 Nc g1) = w5 := hw5
                rw [hw5b] at HQ2 HB2 HWT
                rw [hw5]
                clear hw5 hw5b c0 c1 f0 f1'
                have HY := Hd.mk (y_close HQ2.out.sys.mem HLR.out HS1.out)
                have y0 := (cells_cell HB2.out.act.now 0).trans (show _ = some (h8 x0) from rfl)
                have y1 := (cells_cell HB2.out.act.now 1).trans (show _ = some (Value.int .i64 x1) from rfl)
                have y2 := (cells_cell HB2.out.act.now 2).trans (show _ = some (Value.int .i64 x2) from rfl)
                have y3 := (cells_cell HB2.out.act.now 3).trans (show _ = some (Value.int .i64 x3) from rfl)
                have y4 := (cells_cell HB2.out.act.now 4).trans (show _ = some (h8 x4) from rfl)
                go_wp2_with fail
                refine HY.out.mono ?_
                rintro e w6 ⟨ra, rc, pq, rfl, hm, hf, hs⟩
                obtain ⟨hq3, s3⟩ := HQ2.out.mutp hm hs
                have HCT := Hd.mk hf.now
                have HQ3 := Hd.mk hq3
                have HB3 := Hd.mk (HB2.out.step s3)
                have HWT6 := Hd.mk (HWT.out.step s3)
                clear hm hf hs hq3 s3 HY y0 y1 y2 y3 y4
                go_wp2_with fail
                refine (same_at (l := lr) (m := lr) (b := true) (by simp) (OwnE.src HCT.out) (OwnE.src HWT6.out.now)).mono ?_
                rintro e w7 ⟨rfl, hB⟩
                obtain ⟨hq4, s4⟩ := HQ3.out.below hB
                have HQ4 := Hd.mk hq4
                have HB4 := Hd.mk (HB3.out.step s4)
                clear hq4 s4 hB
                go_wp2_with fail
                go_meet
                exact ⟨0, 0, nx, _, _, s1, rfl, rfl, rfl, rfl, by have := HLL.out; have := HLEN.out; omega, HQ4, HB4⟩
            case rest =>
              obtain ⟨n1, er, nx', p3, v', s1, rfl, rfl, rfl, rfl, hl3, HQ3, HB3⟩ := hcut
              obtain ⟨f1, g1, hv'⟩ := HQ3.out.ref.now.rows.shape
              obtain ⟨Nc, hNc⟩ : ∃ n, s1.made.length = n := ⟨_, rfl⟩
              rw [hNc] at hv' hl3
              have HL3 : Hd (s1.made.length ≤ j + 1) := ⟨by rw [hNc]; exact hl3⟩
              subst hv'
              have HT1 := Hd.mk (tells_any HQ3.out.no HQ3.out.ref.now HQ3.out.nxt)
              have c0 := HQ3.out.b0
              have c1 := HQ3.out.b1
              obtain ⟨jm, hjm⟩ : ∃ x, j % 4 = x := ⟨_, rfl⟩
              have r1 : Int.tmod (j : Int) 4 = (jm : Int) := by rw [Int.tmod_eq_emod_of_nonneg (by omega)]; omega
              have r2 : (j : Int) % 4 = (jm : Int) := by omega
              have r3 : IntKind.i64.wrap (jm : Int) = (jm : Int) := IntWalk.i64_in _ ⟨by omega, by omega⟩
              obtain ⟨zb, hzb⟩ : ∃ b, ((jm : Int) == 0) = b := ⟨_, rfl⟩
              have hzc : decide ((jm : Int) = 0) = zb ∧ decide (jm = 0) = zb := by
                rw [← hzb]
                rcases Nat.eq_zero_or_pos jm with rfl | h
                · exact ⟨rfl, rfl⟩
                · rw [decide_eq_false (by omega), decide_eq_false (by omega), beq_eq_false_iff_ne.2 (by omega)]
                  exact ⟨rfl, rfl⟩
              have HR1 := Hd.mk r1
              have HR2 := Hd.mk r2
              have HR3 := Hd.mk r3
              have HZB := Hd.mk hzb
              have HZC := Hd.mk hzc
              clear hl3 hNc hjm r1 r2 r3 hzb hzc HQ1 HBE
              go_wp2_with fail
              refine HT1.out.mono ?_
              rintro e w7 ⟨rfl, hB7⟩
              obtain ⟨hq4, s4⟩ := HQ3.out.below hB7
              have HQ4 := Hd.mk hq4
              have hb4 := HB3.out.step s4
              have z0 := (cells_cell hb4.was.now 0).trans (show _ = some (Value.int .i64 nx) from rfl)
              have z1 := (cells_cell hb4.was.now 1).trans (show _ = some (Value.slice va vn vc) from rfl)
              have HT2 := Hd.mk (tells_any hb4.cop.now hb4.ref.now HNXT.out)
              have r1 := HR1.out
              have r2 := HR2.out
              have r3 := HR3.out
              clear hq4 s4 hb4 hB7 HT1 HQ3 HB3 c0 c1
              cases zb with
              | true =>
                have hzb := HZB.out
                obtain ⟨hzc, hzd⟩ := HZC.out
                go_wp2_with fail
                refine HT2.out.mono ?_
                rintro e w8 ⟨rfl, hB8⟩
                obtain ⟨hq5, s5⟩ := HQ4.out.below hB8
                have HQ5 := Hd.mk hq5
                have hwk := HWK.out
                clear hq5 s5 hB8 HT2 HQ4 z0 z1 r1 r2 r3 hzb hzc hzd
                go_wp2_with fail
                go_roundw
                case rel => exact ⟨j + 1, _, _, _, _, by have := HLT.out; omega, by go_num, HL3.out, HQ5⟩
                case measure => have := HLT.out; simp [intOf]; omega
              | false =>
                have hzb := HZB.out
                obtain ⟨hzc, hzd⟩ := HZC.out
                have hwk := HWK.out
                clear z0 z1 HT2
                go_wp2_with fail
                go_roundw
                case rel => exact ⟨j + 1, _, _, _, _, by have := HLT.out; omega, by go_num, HL3.out, HQ4⟩
                case measure => have := HLT.out; simp [intOf]; omega
        · obtain rfl : j = q := by omega
          have HT1 := Hd.mk (tells_any HA.out.no HA.out.ref.now HA.out.nxt)
          obtain ⟨f1, g1, hv'⟩ := HA.out.ref.now.rows.shape
          subst hv'
          have c0 := HA.out.b0
          have c1 := HA.out.b1
          clear hlt hj hlen
          go_wp2_with fail
          refine HT1.out.mono ?_
          rintro e w7 ⟨rfl, hB7⟩
          obtain ⟨hq4, _⟩ := HA.out.below hB7
          have HQ4 := Hd.mk hq4
          clear hq4 hB7 HT1 c0 c1
          go_wp2_with fail
          go_ret
          exact ⟨rfl, HQ4.out.bel.now⟩
end Go.Proofs.Ytinagiofolmhbaa
