/- pop. -/
import Derived.Test.YtnhkadknibinfaaA4
namespace Go.Proofs.Ytnhkadknibinfaa
open Go.RowKit
set_option linter.unusedVariables false
set_option linter.unusedSimpArgs false

/-- The last mark is off the row, and nothing else has been done yet. -/
structure PopAt (y : Lay) (w : World) (pr : Nat → Prop) (M : Nat) (st : St) (n : Nat) : Prop where
  prs : ∀ k, pr k → k < w.heap.size
  bM : w.heap[M]? = some (.cells #[.bool true, .slice y.ca st.now.length y.cc, .slice y.ka n y.kc] 63 (0, 0))
  pM : ¬ pr M
  rows : RowsAt y w pr st.now
  marks : MarksAt y w pr st

theorem alloc_keep {w : World} {o' : Obj} {b : Nat} {o : Obj} (h : w.heap[b]? = some o) : (w.alloc o').heap[b]? = some o := by
  rw [heap_alloc_old _ _ (Array.getElem?_eq_some_iff.1 h).1]; exact h

/-- Everything that was there is there. -/
def Ext (w w' : World) : Prop := ∀ (b : Nat) (o : Obj), w.heap[b]? = some o → w'.heap[b]? = some o
theorem Ext.rows {y : Lay} {w w' : World} {pr : Nat → Prop} {a : List (List Int)} (hx : Ext w w') (h : RowsAt y w pr a) : RowsAt y w' pr a :=
  h.keep (fun b cs fr hb => (hx b _ hb).trans hb.symm) (fun b cs fr hb => (hx b _ hb).trans hb.symm)
theorem Ext.marks {y : Lay} {w w' : World} {pr : Nat → Prop} {st : St} (hx : Ext w w') (h : MarksAt y w pr st) : MarksAt y w' pr st :=
  h.keep (fun b cs fr hb => (hx b _ hb).trans hb.symm) (fun b cs fr hb => (hx b _ hb).trans hb.symm)
theorem Ext.of {w w' : World} (h : Below w.heap.size w w') : Ext w w' := fun b o hb => (h.block b (Array.getElem?_eq_some_iff.1 hb).1).trans hb
theorem Ext.mem {y : Lay} {w w' : World} {pr : Nat → Prop} {M : Nat} {st : St} (hB : Below w.heap.size w w') (h : MemL y w pr M st) : MemL y w' pr M st :=
  ⟨h.ok, fun k hk => Nat.lt_of_lt_of_le (h.prs k hk) hB.size, Ext.of hB _ _ h.bM, h.pM, (Ext.of hB).rows h.rows, (Ext.of hB).marks h.marks⟩
theorem Ext.mem' {w w' : World} {pr : Nat → Prop} {M : Nat} {st : St} (hB : Below w.heap.size w w') (h : MemAt w pr M st) : MemAt w' pr M st := by
  obtain ⟨y, h⟩ := h; exact ⟨y, Ext.mem hB h⟩
theorem MemL.kept {y : Lay} {w w' : World} {pr : Nat → Prop} {M : Nat} {st : St} (h : MemL y w pr M st) (hB : Below w.heap.size w w') : Kept pr w w' := Kept.of hB h.prs

set_option maxRecDepth 100000 in
theorem pop_none {y : Lay} {w : World} {pr : Nat → Prop} {M : Nat} {st : St} (h : MemL y w pr M st) (hn : st.marks.length = 0) :
    Calls Try.prog 33 #[.pointer (some ⟨M, 0, none⟩)] w fun e w' => e = .returned (.tuple #[.agg #[.map none], .int .i64 213]) ∧ Below w.heap.size w w' := by
  have hB := (Below.refl w.heap.size w).alloc (Nat.le_refl _) (.cells #[.map none] 78)
  have h1 := Ext.mem hB h
  have hR := heap_alloc_new w (.cells #[.map none] 78)
  obtain ⟨wa, hwa⟩ : ∃ W, w.alloc (.cells #[.map none] 78) = W := ⟨_, rfl⟩
  rw [hwa] at h1 hB hR
  have c0 := h1.c0
  have c2 := h1.c2
  rw [hn] at c2
  have HB := Hd.mk hB
  have HR := Hd.mk hR
  have cR := cells_cell hR 0
  have fR := cells_free hR 0
  clear h h1 hn hB hR
  go_enter Try.func33, Try.ntmps33
  go_upto_region 1 with fail
  try rw [hwa]
  clear hwa
  go_wp2_with fail
  refine (is_at c0).mono ?_
  rintro e w1 ⟨rfl, rfl⟩
  go_wp2_with fail
  refine bodyPost_ret (results_cell_row2 Try.results33 _ _ w.heap.size 78 #[.map none] (0, 0) _ rfl (cells_set (o := 0) HR.out (.map none)) Try.underlying78 rfl (by kernel_rfl)) rfl ?_
  exact ⟨rfl, Below.setCell HB.out (p := ⟨w.heap.size, 0, none⟩) (Nat.le_refl _) _⟩

set_option maxRecDepth 100000 in
theorem pop_ok {y : Lay} {w : World} {pr : Nat → Prop} {M : Nat} {st : St} (h : MemL y w pr M st) {n : Nat} (hn : st.marks.length = n + 1) :
    Calls Try.prog 33 #[.pointer (some ⟨M, 0, none⟩)] w fun e w' => e = .returned (.tuple #[.agg #[.map (some (y.mb n))], .int .i64 0]) ∧ PopAt y w' pr M st n ∧ Kept pr w w' := by
  have hB := (Below.refl w.heap.size w).alloc (Nat.le_refl _) (.cells #[.map none] 78)
  have h1 := Ext.mem hB h
  have hR := heap_alloc_new w (.cells #[.map none] 78)
  obtain ⟨wa, hwa⟩ : ∃ W, w.alloc (.cells #[.map none] 78) = W := ⟨_, rfl⟩
  rw [hwa] at h1 hB hR
  have c0 := h1.c0
  have c2 := h1.c2
  rw [hn] at c2
  have m64 := h.ok.many
  rw [hn] at m64
  obtain ⟨K, hK, hpK, cK⟩ := h1.marks.at n (by omega)
  rw [hK] at c2
  obtain ⟨B, hBB⟩ : ∃ b, y.mb n = b := ⟨_, rfl⟩
  rw [hBB] at cK ⊢
  have HB := Hd.mk hB
  have HR := Hd.mk hR
  have H1 := Hd.mk h1
  have HH := Hd.mk h
  have HN := Hd.mk hn
  have HK := Hd.mk hK
  have HSZ : Hd (w.heap.size < wa.heap.size) := ⟨(Array.getElem?_eq_some_iff.1 hR).1⟩
  have cR := cells_cell hR 0
  have fR := cells_free hR 0
  have fM := cells_free h1.bM 2
  have lM : M < wa.heap.size := World.block_lt_of_cell? wa _ c0
  have lK : K < wa.heap.size := World.block_lt_of_cell? wa _ cK
  have lR : w.heap.size < wa.heap.size := HSZ.out
  have i1 : IntKind.i64.wrap (n : Int) = (n : Int) := IntWalk.i64_in _ ⟨by omega, by omega⟩
  have i2 : ¬ ((n : Int) + 1 = 0) := by omega
  have i3 : (0 : Int) ≤ (n : Int) := by omega
  have i4 : (n : Int) < (n : Int) + 1 := by omega
  clear h h1 hn hB hR hBB hK hpK
  go_enter Try.func33, Try.ntmps33
  go_upto_region 1 with fail
  try rw [hwa]
  clear hwa
  go_wp2_with fail
  refine (is_at c0).mono ?_
  rintro e w1 ⟨rfl, rfl⟩
  go_upto_region 5 with fail
  go_region
  obtain ⟨wb, hwb⟩ : ∃ W, (wa.alloc (Obj.cells #[Value.map (some B)] 78)).drew = W := ⟨_, rfl⟩
  have hx : Ext wa wb := fun b o hb => by rw [← hwb]; exact alloc_keep hb
  have hbx : wb.heap[wa.heap.size]? = some (.cells #[.map (some B)] 78 (0, 0)) := by rw [← hwb]; exact heap_alloc_new wa _
  have hBb : Below wa.heap.size wa wb := by rw [← hwb]; exact ((Below.refl wa.heap.size wa).alloc (Nat.le_refl _) _).drew
  try rw [hwb]
  clear hwb
  have c2 : wb.cell? ⟨M, 2, none⟩ = some (.slice (some ⟨K, 0, none⟩) (n + 1) y.kc) := by
    rw [cells_cell (hx _ _ H1.out.bM), HN.out, HK.out]; rfl
  have fM := cells_free (hx _ _ H1.out.bM) 2
  have lM : M < wb.heap.size := World.block_lt_of_cell? wb _ c2
  have nc : n + 1 ≤ y.kc := by
    have h1 := H1.out.marks.own
    rcases h1.cases with ⟨h, _⟩ | ⟨g, cap, h, _, _, h2, _⟩
    · rw [HN.out] at h; simp at h
    · simp only [Value.slice.injEq] at h
      have hl : (marksV y st.marks.length).length = n + 1 := by simp [marksV, HN.out]
      rw [h.2.2]; omega
  have nc2 : n ≤ y.kc := by omega
  have HX := Hd.mk hx
  have HBX := Hd.mk hbx
  have HBb := Hd.mk hBb
  clear hx hbx hBb c0 cK cR fR
  go_upto_region 6 with fail
  go_region
  obtain ⟨wc, hwc⟩ : ∃ W, (wb.setCell ⟨M, 2, none⟩ (.slice (some ⟨K, 0, none⟩) n y.kc)).drew = W := ⟨_, rfl⟩
  have hcM : wc.heap[M]? = some (.cells #[.bool true, .slice y.ca st.now.length y.cc, .slice y.ka n y.kc] 63 (0, 0)) := by
    rw [← hwc, HK.out]
    exact cells_set (o := 2) (HX.out _ _ H1.out.bM) (.slice (some ⟨K, 0, none⟩) n y.kc)
  have hcO : ∀ b, b ≠ M → wc.heap[b]? = wb.heap[b]? := fun b hb => by rw [← hwc]; exact setCell_other hb
  have hcS : wc.heap.size = wb.heap.size ∧ wc.os = wb.os ∧ wc.tape = wb.tape ∧ wc.output = wb.output := by rw [← hwc]; exact ⟨by simp [World.setCell], rfl, rfl, rfl⟩
  try rw [hwc]
  clear hwc
  have hMl : M < w.heap.size := (Array.getElem?_eq_some_iff.1 HH.out.bM).1
  have hRc : wc.heap[w.heap.size]? = some (.cells #[.map none] 78 (0, 0)) := by rw [hcO _ (by omega)]; exact HX.out _ _ HR.out
  have hXc : wc.heap[wa.heap.size]? = some (.cells #[.map (some B)] 78 (0, 0)) := by rw [hcO _ (by omega)]; exact HBX.out
  have cR := cells_cell hRc 0
  have fR := cells_free hRc 0
  have cX := cells_cell hXc 0
  have HCM := Hd.mk hcM
  have HCO := Hd.mk hcO
  have HCS := Hd.mk hcS
  have HRC := Hd.mk hRc
  have HML := Hd.mk hMl
  clear hcM hcO hcS hRc hXc hMl c2 fM lM lK lR
  simp only [List.getElem?_toArray, List.getElem?_cons_zero] at cR cX
  go_wp2_with fail
  refine bodyPost_ret (results_cell_row2 Try.results33 _ _ w.heap.size 78 #[.map (some B)] (0, 0) _ rfl (cells_set (o := 0) HRC.out (.map (some B))) Try.underlying78 rfl (by kernel_rfl)) rfl ?_
  refine ⟨rfl, ?_⟩
  obtain ⟨wd, hwd⟩ : ∃ W, wc.setCell ⟨w.heap.size, 0, none⟩ (.map (some B)) = W := ⟨_, rfl⟩
  have hd : ∀ b, b < w.heap.size → wd.heap[b]? = wc.heap[b]? := fun b hb => by rw [← hwd]; exact setCell_other (by omega)
  have hdS : wd.heap.size = wc.heap.size ∧ wd.os = wc.os ∧ wd.tape = wc.tape ∧ wd.output = wc.output := by rw [← hwd]; exact ⟨by simp [World.setCell], rfl, rfl, rfl⟩
  rw [hwd]
  have hB1 := HB.out
  have hB2 := HBb.out
  have hs1 := hB1.size
  have hs2 := hB2.size
  have hs : w.heap.size ≤ wd.heap.size := by have := hdS.1; have := HCS.out.1; omega
  have hold : ∀ (b : Nat) (o : Obj), w.heap[b]? = some o → b ≠ M → wd.heap[b]? = some o := by
    intro b o hb hbM
    have hl := (Array.getElem?_eq_some_iff.1 hb).1
    rw [hd b hl, HCO.out b hbM]
    exact HX.out _ _ (Ext.of hB1 _ _ hb)
  have hne : ∀ (b : Nat) (o : Obj), w.heap[b]? = some o → (∀ c f, o ≠ Obj.cells c 63 f) → b ≠ M := fun b o hb h63 e => by
    subst e; rw [HH.out.bM] at hb; cases hb; exact h63 _ _ rfl
  refine ⟨⟨fun k hk => Nat.lt_of_lt_of_le (HH.out.prs k hk) hs, ?_, HH.out.pM, ?_, ?_⟩, ⟨?_, ?_, ?_, hs, ?_⟩⟩
  · rw [hd M HML.out]; exact HCM.out
  · exact HH.out.rows.keep (fun b cs fr hb => (hold b _ hb (hne b _ hb (fun c f e => by simp at e))).trans hb.symm) (fun b cs fr hb => (hold b _ hb (hne b _ hb (fun c f e => by simp at e))).trans hb.symm)
  · exact HH.out.marks.keep (fun b cs fr hb => (hold b _ hb (hne b _ hb (fun c f e => by simp at e))).trans hb.symm) (fun b es cl hb => (hold b _ hb (hne b _ hb (fun c f e => by cases e))).trans hb.symm)
  · rw [hdS.2.1, HCS.out.2.1, hB2.os, hB1.os]
  · rw [hdS.2.2.1, HCS.out.2.2.1, hB2.tape, hB1.tape]
  · rw [hdS.2.2.2, HCS.out.2.2.2, hB2.output, hB1.output]
  · intro k hk
    have hk2 := HH.out.prs k hk
    have hkM : k ≠ M := fun e => HH.out.pM (e ▸ hk)
    rw [hd k hk2, HCO.out k hkM, hB2.block k (by omega), hB1.block k hk2]
end Go.Proofs.Ytnhkadknibinfaa
