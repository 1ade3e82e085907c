/- The law CellsAlone: its walk. -/
import Derived.Test.YtnhkadknibinfaaPL3
import Derived.Deep.DeepCutAuto
namespace Go.Proofs.Ytnhkadknibinfaa
open Go.RowKit
set_option linter.unusedVariables false


theorem own_at {pr : Nat → Prop} {w : World} {e base : Nat} {a : Option Addr} {c : Nat} {l : List Int} (h : Held pr w (fun W => AppI e W base (.slice a l.length c) l)) (h0 : 0 < l.length) : ∃ g, a = some ⟨g, 0, none⟩ ∧ base ≤ g ∧ g < w.heap.size := by
  rcases OwnE.cases h.now with ⟨_, h2⟩ | ⟨g, cap, hv, h1, h2, _⟩
  · rw [h2] at h0; simp at h0
  · simp only [Value.slice.injEq] at hv
    exact ⟨g, hv.1, h1, h2⟩
theorem AppI.cell {w : World} {e base g : Nat} {c : Nat} {l : List Int} (h : AppI e w base (.slice (some ⟨g, 0, none⟩) l.length c) l) (j : Nat) (hj : j < l.length) : w.cell? ⟨g, j, none⟩ = some (.int .i64 l[j]) := by
  rcases OwnE.cases h with ⟨hv, _⟩ | ⟨g', cap, hv, h1, h2, _, _, hc, _⟩
  · simp at hv
  · simp only [Value.slice.injEq, Option.some.injEq, Addr.mk.injEq] at hv
    obtain ⟨⟨rfl, _⟩, _, rfl⟩ := hv
    exact hc j hj
theorem AppI.cellO {w : World} {e base g : Nat} {c : Nat} {l : List Int} (h : AppI e w base (.slice (some ⟨g, 0, none⟩) l.length c) l) {j : Nat} {x : Int} (hx : l[j]? = some x) : w.cell? ⟨g, j, none⟩ = some (.int .i64 x) := by
  obtain ⟨hj, rfl⟩ := List.getElem?_eq_some_iff.1 hx
  exact h.cell j hj
theorem AppI.free {w : World} {e base g : Nat} {c : Nat} {l : List Int} (h : AppI e w base (.slice (some ⟨g, 0, none⟩) l.length c) l) (j : Nat) : w.frozen? ⟨g, j, none⟩ = false := by
  rcases OwnE.cases h with ⟨hv, _⟩ | ⟨g', cap, hv, h1, h2, _, _, _, hf⟩
  · simp at hv
  · simp only [Value.slice.injEq, Option.some.injEq, Addr.mk.injEq] at hv
    obtain ⟨⟨rfl, _⟩, _, rfl⟩ := hv
    exact hf j
theorem AppI.cap {w : World} {e base : Nat} {a : Option Addr} {c : Nat} {l : List Int} (h : AppI e w base (.slice a l.length c) l) : l.length ≤ c ∧ c ≤ maxLen := by
  rcases OwnE.cases h with ⟨hv, h2⟩ | ⟨g', cap, hv, h1, h2, h3, h4, _⟩
  · simp only [Value.slice.injEq] at hv
    obtain ⟨_, h5, rfl⟩ := hv
    exact ⟨by omega, by simp [maxLen]⟩
  · simp only [Value.slice.injEq] at hv
    obtain ⟨_, _, rfl⟩ := hv
    exact ⟨h3, h4⟩
/-- An own row, a cell of it written. -/
theorem AppI.set {w : World} {e base g : Nat} {c : Nat} {l : List Int} (h : AppI e w base (.slice (some ⟨g, 0, none⟩) l.length c) l) (j : Nat) (v : Int) : SrcI (w.setCell ⟨g, j, none⟩ (.int .i64 v)) (.slice (some ⟨g, 0, none⟩) l.length c) (l.set j v) := by
  obtain ⟨cur, hb⟩ := OwnE.ty h rfl
  have hcap := h.cap
  refine .inr ⟨⟨g, 0, none⟩, c, by simp, by simp; exact hcap.1, hcap.2, fun k hk => ?_⟩
  have hk' : k < l.length := by simpa using hk
  have hc := h.cell k hk'
  rw [plain_add, Nat.zero_add, cells_cell (cells_set (o := j) hb (.int .i64 v))]
  rw [cells_cell hb] at hc
  have hks : k < cur.size := (Array.getElem?_eq_some_iff.1 hc).1
  rw [Array.getElem?_setIfInBounds, List.getElem_set]
  by_cases hjk : j = k
  · subst hjk; simp [hks]
  · simp [hjk, hc]

theorem storeS_bad {st : St} {o i v : Int} (h : ¬ ldE st.now o i = 0) : storeS st o i v = st := by unfold storeS; rw [if_neg h]
theorem storeS_ok {st : St} {o i v : Int} (h : ldE st.now o i = 0) : storeS st o i v = { st with now := set2 st.now (o, i) v } := by unfold storeS; rw [if_pos h]
theorem ld_none {a : List (List Int)} {s : List Nat} (h : shape a = s) (r k : Nat) {n : Nat} (hn : s[r]? = some n) (hk : n ≤ k) : ldE a ((r : Int) + 1) (k : Int) = 212 := by
  obtain ⟨hi, hl⟩ := shape_get h r hn
  unfold ldE
  rw [if_neg (by omega), at2_nat, List.getElem?_eq_getElem hi, Option.bind_some, List.getElem?_eq_none (by omega)]; rfl
theorem ld_over {a : List (List Int)} {s : List Nat} (h : shape a = s) (o k : Int) (ho : (s.length : Int) < o) : ldE a o k = 211 := by
  have : a.length = s.length := by rw [← h]; simp [shape]
  unfold ldE; rw [if_pos (by omega)]

theorem srcI_box3 {W : World} {b : Nat} {cs : Array Value} (h : W.heap[b]? = some (.cells cs 3 (0, 0))) (l : List Int) (hl : cs = (l.map fun n : Int => Value.int .i64 n).toArray) (hm : l.length ≤ 1000 := by decide) : SrcI W (.slice (some ⟨b, 0, none⟩) l.length l.length) l :=
  .inr ⟨⟨b, 0, none⟩, l.length, rfl, Nat.le_refl _, by simp only [maxLen]; omega, fun j hj => by
    rw [plain_add, Nat.zero_add, cells_cell h, hl]; simp [hj]⟩

set_option maxRecDepth 100000 in
set_option maxHeartbeats 4000000 in
theorem alone_any {w : World} {lv : Value} {ls : List Sm} (hl : SrcS w lv ls) (ow ix : Nat) (how : ow < 256) (hix : ix < 256) (v : Int) :
    Calls Try.prog 5 #[lv, .int .u8 (ow : Int), .int .u8 (ix : Int), .int .i64 v] w fun e w' => e = .returned (.bool true) ∧ Below w.heap.size w w' := by
  have FL := Hd.mk hl
  clear hl
  go_enter Try.func5, Try.ntmps5
  go_wp2_with fail
  refine (awake_any _).mono ?_
  rintro e w1 ⟨rfl, hB0⟩
  have HB0 := Hd.mk hB0
  clear hB0
  go_wp2_with fail
  refine (made_any _).mono ?_
  rintro e w2 ⟨M, p0, rfl, hm, hp, hB1⟩
  have HM0 := Hd.mk hm
  have FB0 := Hd.mk (Held.below (HB0.out.trans (hB1.mono HB0.out.size)) (fun k hk => hp k (Nat.lt_of_lt_of_le hk HB0.out.size)))
  have FL0 := Hd.mk (FB0.out.imp fun W hW => SrcS.below FL.out hW)
  clear hm hp hB1 HB0 FL
  go_wp2_with fail
  refine (do_any HM0.out rfl FL0.out true 0).mono ?_
  rintro e w1 ⟨rfl, hm, hs⟩
  have FB_2 := Hd.mk (FB0.out.step hs)
  have Fl_2 := Hd.mk (FL0.out.step hs)
  have HM2 := Hd.mk hm
  clear FB0 FL0 HM0
  clear hs hm
  clear Fl_2
  have HSH := Hd.mk (doV_sh (marks := true) (floor := 0) _ ls (show ShOk S9 ⟨[[0, 0], [0, 0, 0], [], [0, 0, 0, 0]], []⟩ from ⟨⟨by decide, by decide, by simp, by decide⟩, rfl⟩))
  generalize doV true 0 ⟨[[0, 0], [0, 0, 0], [], [0, 0, 0, 0]], []⟩ ls = st at *
  go_wp2_with fail
  refine (x_plan HM2.out (l := [2, 3, 0, 4]) (by rw [planI_shape, HSH.out.2]; rfl)).mono ?_
  rintro e w3 ⟨a3, c3, p3, rfl, hm, hf, hs⟩
  have FNpl3 := Hd.mk hf
  clear hf
  have FB_4 := Hd.mk (FB_2.out.step hs)
  have HM4 := Hd.mk hm
  clear FB_2 HM2
  clear hs hm
  obtain ⟨gp, hgp, _, _⟩ := own_at FNpl3.out (by decide)
  subst hgp
  go_wp2_with fail
  obtain ⟨A5, hW⟩ : ∃ W, (w3.alloc (.cells #[.int .i64 2, .int .i64 3, .int .i64 0, .int .i64 4] 3)) = W := ⟨_, rfl⟩
  obtain ⟨p5, hm, hf, hs⟩ := lit_box HM4.out (.cells #[.int .i64 2, .int .i64 3, .int .i64 0, .int .i64 4] 3)
  rw [hW] at hm hf hs
  rw [hW]
  clear hW
  have FNlp5 := Hd.mk (hf.imp fun W hW => srcI_box3 hW [2, 3, 0, 4] rfl)
  clear hf
  have FB_6 := Hd.mk (FB_4.out.step hs)
  have Fpl_6 := Hd.mk (FNpl3.out.step hs)
  have HM6 := Hd.mk hm
  clear FB_4 FNpl3 HM4
  clear hs hm
  refine (equal_at44 (l := [2, 3, 0, 4]) (m := [2, 3, 0, 4]) (b := true) (by decide) (AppI.src Fpl_6.out.now) FNlp5.out.now).mono ?_
  rintro e w7 ⟨rfl, hB⟩
  obtain ⟨hm, hs⟩ := HM6.out.below hB
  clear hB
  have FB_8 := Hd.mk (FB_6.out.step hs)
  have Fpl_8 := Hd.mk (Fpl_6.out.step hs)
  have Flp_8 := Hd.mk (FNlp5.out.step hs)
  have HM8 := Hd.mk hm
  clear FB_6 Fpl_6 FNlp5 HM6
  clear hs hm
  clear Flp_8
  obtain ⟨r, hr⟩ : ∃ r, ow % 5 = r := ⟨_, rfl⟩
  obtain ⟨i, hi⟩ : ∃ i, ix % 5 = i := ⟨_, rfl⟩
  have r1 : Int.tmod (ow : Int) 5 = (r : Int) := by rw [Int.tmod_eq_emod_of_nonneg (by omega)]; omega
  have r2 : (ow : Int) % 5 = (r : Int) := by omega
  have r3 : Int.tmod (ix : Int) 5 = (i : Int) := by rw [Int.tmod_eq_emod_of_nonneg (by omega)]; omega
  have r4 : (ix : Int) % 5 = (i : Int) := by omega
  have q1 : IntKind.i64.wrap (ow : Int) = (ow : Int) := IntWalk.i64_in _ ⟨by omega, by omega⟩
  have q2 : IntKind.i64.wrap (ix : Int) = (ix : Int) := IntWalk.i64_in _ ⟨by omega, by omega⟩
  have q3 : IntKind.i64.wrap (r : Int) = (r : Int) := IntWalk.i64_in _ ⟨by omega, by omega⟩
  have q4 : IntKind.i64.wrap (i : Int) = (i : Int) := IntWalk.i64_in _ ⟨by omega, by omega⟩
  obtain ⟨oo, ho⟩ : ∃ o : Int, 1 + (r : Int) = o := ⟨_, rfl⟩
  have q5 : IntKind.i64.wrap (1 + (r : Int)) = oo := by rw [ho]; exact IntWalk.i64_in _ ⟨by omega, by omega⟩
  have q6 : IntKind.i64.wrap (oo - 1) = (r : Int) := by rw [show oo - 1 = (r : Int) by omega]; exact q3
  have r5 : r < 5 := by omega
  have i5 : i < 5 := by omega
  clear hr hi
  go_wp2_with fail
  obtain ⟨L0, hL0⟩ : ∃ L, st.now.flatten = L := ⟨_, rfl⟩
  have hl9 : L0.length = 9 := by rw [← hL0, flatten_len_eq, HSH.out.2]; rfl
  have BP := Hd.mk (FB_8.out.now.size)
  refine (x_all HM8.out hL0).mono ?_
  rintro e w9 ⟨a9, c9, p9, rfl, hm, hf, hs⟩
  have FNb09 := Hd.mk hf
  clear hf
  have FB_10 := Hd.mk (FB_8.out.step hs)
  have Fpl_10 := Hd.mk (Fpl_8.out.step hs)
  have HM10 := Hd.mk hm
  clear FB_8 Fpl_8 HM8
  clear hs hm
  obtain ⟨g0, hg0, hg0b, hg0l⟩ := own_at FNb09.out (by rw [hl9]; decide)
  subst hg0
  have HG0 := Hd.mk hg0l
  have BZ : Hd (w.heap.size ≤ g0) := ⟨by have := BP.out; have := hg0b; omega⟩
  have HL9 := Hd.mk hl9
  clear hg0l hl9
  rw [HL9.out] at FNb09 ⊢
  go_wp2_with fail
  by_cases hA : r = 4
  · have hE : ldE st.now oo (i : Int) = 211 := ld_over HSH.out.2 _ _ (by subst hA; simp [S9]; omega)
    have e1 : (4 : Int) < oo := by omega
    have hT : storeS st oo (i : Int) v = st := storeS_bad (by rw [hE]; decide)
    have hV := ld_bad (a := st.now) (o := oo) (i := (i : Int)) (by rw [hE]; decide)
    refine (y_store HM10.out (v := v) hV hE hT).mono ?_
    rintro e w11 ⟨rfl, hm, hs⟩
    have FB_12 := Hd.mk (FB_10.out.step hs)
    have Fpl_12 := Hd.mk (Fpl_10.out.step hs)
    have Fb0_12 := Hd.mk (FNb09.out.step hs)
    have HM12 := Hd.mk hm
    clear FB_10 Fpl_10 FNb09 HM10
    clear hs hm
    clear hE hT hV
    go_wp2_with fail
    refine (x_all HM12.out hL0).mono ?_
    rintro e w13 ⟨a13, c13, p13, rfl, hm, hf, hs⟩
    have FNb113 := Hd.mk hf
    clear hf
    have FB_14 := Hd.mk (FB_12.out.step hs)
    have Fpl_14 := Hd.mk (Fpl_12.out.step hs)
    have Fb0_14 := Hd.mk (Fb0_12.out.step hs)
    have HM14 := Hd.mk hm
    clear FB_12 Fpl_12 Fb0_12 HM12
    clear hs hm
    skip
    go_wp2_with fail
    refine (equal_at28 (l := L0) (m := L0) (b := true) (decide_eq_true rfl) (by have h := AppI.src Fb0_14.out.now; exact h) (by have h := AppI.src FNb113.out.now; exact h)).mono ?_
    rintro e w15 ⟨rfl, hB⟩
    obtain ⟨hm, hs⟩ := HM14.out.below hB
    clear hB
    have FB_16 := Hd.mk (FB_14.out.step hs)
    have Fpl_16 := Hd.mk (Fpl_14.out.step hs)
    have Fb0_16 := Hd.mk (Fb0_14.out.step hs)
    have Fb1_16 := Hd.mk (FNb113.out.step hs)
    have HM16 := Hd.mk hm
    clear FB_14 Fpl_14 Fb0_14 FNb113 HM14
    clear hs hm
    go_wp2_with fail
    go_ret
    exact ⟨rfl, FB_16.out.now⟩
  · obtain ⟨n, hn⟩ : ∃ n, S9[r]? = some n := ⟨_, List.getElem?_eq_getElem (by show r < 4; omega)⟩
    have hcpl := AppI.cell (l := [2, 3, 0, 4]) Fpl_10.out.now r (by show r < 4; omega)
    have hP : ([2, 3, 0, 4] : List Int)[r]'(by show r < 4; omega) = (n : Int) := by
      have : r = 0 ∨ r = 1 ∨ r = 2 ∨ r = 3 := by omega
      rcases this with rfl | rfl | rfl | rfl <;> simp [S9] at hn <;> subst hn <;> rfl
    have HPN := Hd.mk hP
    have HRN := Hd.mk hn
    have e1 : ¬ (4 : Int) < oo := by omega
    have HO : Hd (oo = (r : Int) + 1) := ⟨by omega⟩
    have r0 : (0 : Int) ≤ (r : Int) := by omega
    have rl : (r : Int) < 4 := by omega
    clear hP hcpl
    by_cases hB : n ≤ i
    · have hE : ldE st.now oo (i : Int) = 212 := by rw [HO.out]; exact ld_none HSH.out.2 r i HRN.out hB
      have e2 : (n : Int) ≤ (i : Int) := by omega
      skip
      have hT : storeS st oo (i : Int) v = st := storeS_bad (by rw [hE]; decide)
      have hV := ld_bad (a := st.now) (o := oo) (i := (i : Int)) (by rw [hE]; decide)
      refine (y_store HM10.out (v := v) hV hE hT).mono ?_
      rintro e w11 ⟨rfl, hm, hs⟩
      have FB_12 := Hd.mk (FB_10.out.step hs)
      have Fpl_12 := Hd.mk (Fpl_10.out.step hs)
      have Fb0_12 := Hd.mk (FNb09.out.step hs)
      have HM12 := Hd.mk hm
      clear FB_10 Fpl_10 FNb09 HM10
      clear hs hm
      clear hE hT hV
      go_wp2_with fail
      refine (x_all HM12.out hL0).mono ?_
      rintro e w13 ⟨a13, c13, p13, rfl, hm, hf, hs⟩
      have FNb113 := Hd.mk hf
      clear hf
      have FB_14 := Hd.mk (FB_12.out.step hs)
      have Fpl_14 := Hd.mk (Fpl_12.out.step hs)
      have Fb0_14 := Hd.mk (Fb0_12.out.step hs)
      have HM14 := Hd.mk hm
      clear FB_12 Fpl_12 Fb0_12 HM12
      clear hs hm
      have hcp := AppI.cell (l := [2, 3, 0, 4]) Fpl_14.out.now r (by show r < 4; omega)
      rw [HPN.out] at hcp
      go_wp2_with fail
      refine (equal_at28 (l := L0) (m := L0) (b := true) (decide_eq_true rfl) (by have h := AppI.src Fb0_14.out.now; exact h) (by have h := AppI.src FNb113.out.now; exact h)).mono ?_
      rintro e w15 ⟨rfl, hB⟩
      obtain ⟨hm, hs⟩ := HM14.out.below hB
      clear hB
      have FB_16 := Hd.mk (FB_14.out.step hs)
      have Fpl_16 := Hd.mk (Fpl_14.out.step hs)
      have Fb0_16 := Hd.mk (Fb0_14.out.step hs)
      have Fb1_16 := Hd.mk (FNb113.out.step hs)
      have HM16 := Hd.mk hm
      clear FB_14 Fpl_14 Fb0_14 FNb113 HM14
      clear hs hm
      go_wp2_with fail
      go_ret
      exact ⟨rfl, FB_16.out.now⟩
    · have hE : ldE st.now oo (i : Int) = 0 := by rw [HO.out]; exact ld_in HSH.out.2 r i HRN.out (by omega)
      obtain ⟨hi0, hl0⟩ := shape_get HSH.out.2 r HRN.out
      have hk0 : i < st.now[r].length := by omega
      have hoff : offV st.now r = (S9.take r).sum := offV_shape HSH.out.2 r
      obtain ⟨at_, hat⟩ : ∃ m, (S9.take r).sum + i = m := ⟨_, rfl⟩
      have hx := flatten_at st.now r i hi0 hk0
      have hst := set2_flatten v hi0 hk0
      rw [hoff, hat, hL0] at hx hst
      rw [← HO.out] at hst
      obtain ⟨old, hold⟩ : ∃ x, st.now[r][i] = x := ⟨_, rfl⟩
      rw [hold] at hx
      have hV : ldV st.now oo (i : Int) = old := by rw [HO.out, ldV, at2_get hi0 hk0, hold]; rfl
      have HATL : Hd (at_ < L0.length) := ⟨(List.getElem?_eq_some_iff.1 hx).1⟩
      have hT := storeS_ok (st := st) (o := oo) (i := (i : Int)) (v := v) hE
      have HAT := Hd.mk hat
      have HOLD := Hd.mk hx
      have HST := Hd.mk hst
      have HLD : Hd (ldE (set2 st.now (oo, (i : Int)) v) oo (i : Int) = 0 ∧ ldV (set2 st.now (oo, (i : Int)) v) oo (i : Int) = v) := ⟨by
        have hs2 := shape_set2 st.now (oo, (i : Int)) v
        refine ⟨by rw [HO.out] at hs2 ⊢; exact ld_in (hs2.trans HSH.out.2) r i HRN.out (by omega), ?_⟩
        unfold ldV
        rw [at2_set2 v (by rw [HO.out, at2_get hi0 hk0]; rfl), if_pos rfl]; rfl⟩
      have HRI : Hd (r < 4 ∧ ¬ n ≤ i) := ⟨by omega, hB⟩
      clear hx hst hat hoff hold
      refine (y_store HM10.out (v := v) hV hE hT).mono ?_
      rintro e w11 ⟨rfl, hm, hs⟩
      have HZ := Hd.mk hs.kept.size
      have FB_12 := Hd.mk (FB_10.out.step hs)
      have Fpl_12 := Hd.mk (Fpl_10.out.step hs)
      have Fb0_12 := Hd.mk (FNb09.out.step hs)
      have HM12 := Hd.mk hm
      clear FB_10 Fpl_10 FNb09 HM10
      clear hs hm
      clear hE hT hV hi0 hl0 hk0
      go_wp2_with fail
      refine (x_all HM12.out HST.out).mono ?_
      rintro e w13 ⟨a13, c13, p13, rfl, hm, hf, hs⟩
      have FNb113 := Hd.mk hf
      clear hf
      have FB_14 := Hd.mk (FB_12.out.step hs)
      have Fpl_14 := Hd.mk (Fpl_12.out.step hs)
      have Fb0_14 := Hd.mk (Fb0_12.out.step hs)
      have HM14 := Hd.mk hm
      clear FB_12 Fpl_12 Fb0_12 HM12
      clear hs hm
      rw [List.length_set, HL9.out] at FNb113 ⊢
      obtain ⟨g1, hg1, hg1b, hg1l⟩ := own_at (l := L0.set at_ v) (by have h := FNb113.out; rw [← HL9.out, ← List.length_set (i := at_) (a := v)] at h; exact h) (by rw [List.length_set, HL9.out]; decide)
      subst hg1
      have HG1 := Hd.mk hg1b
      clear hg1l hg1b
      have e2 : ¬ (n : Int) ≤ (i : Int) := by have := HRI.out; omega
      have hcp := AppI.cell (l := [2, 3, 0, 4]) Fpl_14.out.now r (by show r < 4; omega)
      rw [HPN.out] at hcp
      clear hB
      go_wp2_with fail
      go_loopw [19, 94] (fun a k W => ∃ j : Nat, j ≤ r ∧ k = .int .i64 j ∧ a = .int .i64 ((i + (S9.take j).sum : Nat) : Int) ∧ w13 = W) (fun _ k _ => r - (intOf k).toNat)
      case atStart => exact ⟨0, by omega, rfl, by simp, rfl⟩
      case round =>
        obtain ⟨j, hj, rfl, rfl, rfl⟩ := hrel
        have HJ := Hd.mk hj
        by_cases hlt : j < r
        · have HLT := Hd.mk hlt
          have hcj := AppI.cell (l := [2, 3, 0, 4]) Fpl_14.out.now j (by show j < 4; have := HRI.out; omega)
          obtain ⟨m, hm⟩ : ∃ m, S9[j]? = some m := ⟨_, List.getElem?_eq_getElem (by show j < 4; omega)⟩
          have hP : ([2, 3, 0, 4] : List Int)[j]'(by show j < 4; omega) = (m : Int) := by
            have : j = 0 ∨ j = 1 ∨ j = 2 ∨ j = 3 := by omega
            rcases this with rfl | rfl | rfl | rfl <;> simp [S9] at hm <;> subst hm <;> rfl
          rw [hP] at hcj
          have hS : (S9.take (j + 1)).sum = (S9.take j).sum + m := by
            have : j = 0 ∨ j = 1 ∨ j = 2 ∨ j = 3 := by omega
            rcases this with rfl | rfl | rfl | rfl <;> simp [S9] at hm <;> subst hm <;> rfl
          have hS9 : (S9.take (j + 1)).sum ≤ 9 := by
            have : j = 0 ∨ j = 1 ∨ j = 2 ∨ j = 3 := by omega
            rcases this with rfl | rfl | rfl | rfl <;> decide
          obtain ⟨q, hq⟩ : ∃ q, i + (S9.take j).sum = q := ⟨_, rfl⟩
          have HQ : Hd (i + (S9.take (j + 1)).sum = q + m) := ⟨by omega⟩
          rw [hq]
          have wq : IntKind.i64.wrap ((q : Int) + (m : Int)) = ((q + m : Nat) : Int) := by rw [show (q : Int) + (m : Int) = ((q + m : Nat) : Int) by omega]; exact IntWalk.i64_in _ ⟨by omega, by omega⟩
          have j0 : (0 : Int) ≤ (j : Int) := by omega
          have j1 : (j : Int) < 4 := by have := HRI.out; omega
          have j2 : (j : Int) < (r : Int) := by omega
          clear hm hP hS hS9 hq
          go_wp2_with fail
          go_roundw
          case rel => exact ⟨j + 1, by have := HLT.out; omega, by go_num, by rw [HQ.out]; simp, trivial⟩
          case measure => have := HLT.out; simp [intOf] <;> omega
        · obtain rfl : j = r := by omega
          rw [show i + (S9.take j).sum = at_ by have := HAT.out; omega]
          clear hlt
          go_wp2_with fail
          refine (y_load HM14.out HLD.out.2 HLD.out.1).mono ?_
          rintro e w15 ⟨rfl, rfl⟩
          have hc0 := AppI.cellO (l := L0) (by have h := Fb0_14.out.now; rw [← HL9.out] at h; exact h) HOLD.out
          have hc1 := AppI.cellO (l := L0.set at_ v) (j := at_) (x := v) (by have h := FNb113.out.now; rw [← HL9.out, ← List.length_set (i := at_) (a := v)] at h; exact h) (by rw [List.getElem?_set, if_pos rfl, if_pos HATL.out])
          have hf0 := AppI.free (l := L0) (by have h := Fb0_14.out.now; rw [← HL9.out] at h; exact h) at_
          have a0 : (0 : Int) ≤ (at_ : Int) := by omega
          have a9 : (at_ : Int) < 9 := by have := HATL.out; rw [HL9.out] at this; omega
          have HLB : Hd (w13.heap.size = w13.heap.size) := ⟨rfl⟩
          go_wp2_with fail
          have hwr := Fb0_14.out.now
          have hwq := FNb113.out.now
          have hne : g0 ≠ g1 := by have := HG0.out; have := HG1.out; have := HZ.out; omega
          have hS0 : SrcI (w13.setCell ⟨g0, at_, none⟩ (.int .i64 v)) (.slice (some ⟨g0, 0, none⟩) 9 c9) (L0.set at_ v) := by
            rw [← HL9.out] at hwr ⊢
            exact AppI.set hwr at_ v
          have hS1 : SrcI (w13.setCell ⟨g0, at_, none⟩ (.int .i64 v)) (.slice (some ⟨g1, 0, none⟩) 9 c13) (L0.set at_ v) :=
            AppI.src (OwnE.kept hwq (grown_cell _ g0 at_ _) (.inr (fun e => hne (Option.some.inj e).symm)))
          have hBs : Below w.heap.size w (w13.setCell ⟨g0, at_, none⟩ (.int .i64 v)) := (FB_14.out.now).setCell (by have := BZ.out; show w.heap.size ≤ g0; omega) _
          have HBS := Hd.mk hBs
          refine (equal_at28 (l := L0.set at_ v) (m := L0.set at_ v) (b := true) (decide_eq_true rfl) hS0 hS1).mono ?_
          rintro e we ⟨rfl, hBe⟩
          have HBE := Hd.mk (ch4 HBS.out hBe)
          clear hwr hwq hS0 hS1 hBs hBe
          go_wp2_with fail
          go_ret
          exact ⟨rfl, HBE.out⟩
end Go.Proofs.Ytnhkadknibinfaa
