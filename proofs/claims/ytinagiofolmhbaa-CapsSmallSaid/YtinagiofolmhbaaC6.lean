/- Copy. -/
import Derived.Test.YtinagiofolmhbaaB9
import Derived.Laws.Externs
import Derived.Shelf.SlMaps.Clone
import Derived.Deep.DeepCutAuto
import Derived.Deep.MidRow
import Derived.Deep.WholeRow
namespace Go.Proofs.Ytinagiofolmhbaa
open Go.RowKit
set_option linter.unusedVariables false
set_option linter.unusedSimpArgs false


set_option maxRecDepth 100000 in
theorem clone_map {w : World} {b : Nat} {es : Array MapEntry} {clock : Nat} (hb : w.heap[b]? = some (.map es clock)) :
    Calls Try.prog 38 #[.map (some b)] w fun e w' => e = .returned (.map (some w.heap.size)) ∧ w' = w.alloc (.map es clock) := by
  have hq := fun w => run_eql_map_nil_sl (P := Try.prog) w 66 _ _ (some b) Try.underlying66
  go_enter Try.func38, Try.ntmps38
  go_wp2_with fail
  rw [run_callFunc_extern Try.func55 (by kernel_rfl) (by kernel_rfl) (by kernel_rfl) (e := Extern.MapsClone.clone) (by kernel_rfl), run_maps_clone_sl w 66 hb]
  simp only [Result.andThen]
  rw [Oper.upon_value]
  go_wp2_with fail
  rw [run_typeAssert_map_sl _ 66 20 _ _ _ Try.underlying66]
  simp only [Result.andThen]
  rw [Oper.upon_value]
  go_wp2_with fail
  go_ret
  exact ⟨rfl, rfl⟩
/-- A copy of which k rows are made. -/
structure CopyT (w W : World) (M B : Nat) (st : St) (k : Nat) (y : Lay) : Prop where
  bM : W.heap[M]? = some (.cells y.cs 69 (0, 0))
  csz : y.cs.size = 20
  c0 : y.cs[0]? = some (.bool true)
  c1 : y.cs[1]? = some (.int .i64 st.next)
  c2 : y.cs[2]? = some (.map (some B))
  mb : y.mb = B
  geM : w.heap.size ≤ M
  geB : w.heap.size ≤ B
  cr : ∀ i, i < k → y.cs[3 + i]? = some (.slice (y.pa i) (placesS st i).length (y.pc i))
  map : ∃ L, MapL Try.prog 3 kI hV W B L ∧ ∀ s, lk L s = getL (liveS st) s
  rows : ∀ i, i < k → AppI W w.heap.size (.slice (y.pa i) (placesS st i).length (y.pc i)) (placesS st i)
  apart : ∀ i j d e, i < k → j < k → y.pa i = some d → y.pa j = some e → d.block = e.block → i = j
  bel : Below w.heap.size w W
theorem CopyT.tab {w W : World} {M B : Nat} {st : St} {y : Lay} (hok : Ok st) (h : CopyT w W M B st 17 y) : TabAt W (fun k => k < w.heap.size) M st := by
  refine ⟨y, hok, fun k hk => Nat.lt_of_lt_of_le hk h.bel.size, h.bM, h.csz, h.c0, h.c1, by rw [h.c2, h.mb], h.cr, by have := h.geM; omega, by have := h.geB; have := h.mb; omega, by rw [h.mb]; exact h.map, fun i hi => ?_, fun i hi d hd => ?_, h.apart⟩
  · obtain ⟨h1, h2⟩ := h.rows i hi
    rcases h2 with h2 | ⟨g, cap, cur, hv, hg, h3⟩
    · exact ⟨h1, .inl h2⟩
    · exact ⟨h1, .inr ⟨g, cap, cur, hv, Nat.zero_le _, h3⟩⟩
  · have := World.ownsRow.lt (h.rows i hi) d.block (by rw [hd]; rfl)
    omega
theorem CopyT.step {w W WX : World} {M B : Nat} {st : St} {k : Nat} {y : Lay} (h : CopyT w W M B st k y) (hk : k < 17) (hB : Below W.heap.size W WX) {ra : Option Addr} {c : Nat} (hO : AppI WX W.heap.size (.slice ra (placesS st k).length c) (placesS st k)) :
    CopyT w (WX.setCell ⟨M, 3 + k, none⟩ (.slice ra (placesS st k).length c)) M B st (k + 1) ⟨y.cs.setIfInBounds (3 + k) (.slice ra (placesS st k).length c), y.mb, fun i => if i = k then ra else y.pa i, fun i => if i = k then c else y.pc i⟩ := by
  have hMX := (hB.block M (lt_heap h.bM)).trans h.bM
  obtain ⟨W3, hW3⟩ : ∃ X, WX.setCell ⟨M, 3 + k, none⟩ (.slice ra (placesS st k).length c) = X := ⟨_, rfl⟩
  have hM3 := cells_set (o := 3 + k) hMX (.slice ra (placesS st k).length c)
  have ho3 : ∀ b, b ≠ M → W3.heap[b]? = WX.heap[b]? := fun b hb => by rw [← hW3]; exact setCell_other hb
  have hne : ∀ {g cur fr}, WX.heap[g]? = some (Obj.cells cur 3 fr) → g ≠ M := by
    intro g cur fr hg e
    rw [e, hMX] at hg; cases hg
  have hbel : Below w.heap.size w W3 := by rw [← hW3]; exact (h.bel.trans (hB.mono h.bel.size)).setCell (p := ⟨M, 3 + k, none⟩) h.geM _
  rw [hW3] at hM3 ⊢
  have hold : ∀ i, i < k → AppI WX w.heap.size (.slice (y.pa i) (placesS st i).length (y.pc i)) (placesS st i) := fun i hi => OwnE.below (h.rows i hi) hB
  refine ⟨hM3, by simpa using h.csz, ?_, ?_, ?_, h.mb, h.geM, h.geB, ?_, ?_, ?_, ?_, hbel⟩
  · rw [Array.getElem?_setIfInBounds_ne (by omega)]; exact h.c0
  · rw [Array.getElem?_setIfInBounds_ne (by omega)]; exact h.c1
  · rw [Array.getElem?_setIfInBounds_ne (by omega)]; exact h.c2
  · intro i hi
    by_cases e : i = k
    · subst e
      simp only [if_true]
      rw [Array.getElem?_setIfInBounds_self_of_lt (by rw [h.csz]; omega)]
    · simp only [e, if_false]
      rw [Array.getElem?_setIfInBounds_ne (by omega)]; exact h.cr i (by omega)
  · obtain ⟨L, hL, h2⟩ := h.map
    have hBM : B ≠ M := by
      obtain ⟨es, clock, hb, _⟩ := hL
      intro e
      rw [e, h.bM] at hb; cases hb
    exact ⟨L, hL.same ((ho3 B hBM).trans (hB.block B hL.lt)), h2⟩
  · intro i hi
    by_cases e : i = k
    · subst e
      simp only [if_true]
      have h1 := OwnE.same hO fun g cur fr hg _ => ho3 g (hne hg)
      obtain ⟨h1, h2⟩ := h1
      rcases h2 with h2 | ⟨g, cap, cur, hv, hg, h3⟩
      · exact ⟨h1, .inl h2⟩
      · exact ⟨h1, .inr ⟨g, cap, cur, hv, Nat.le_trans h.bel.size hg, h3⟩⟩
    · simp only [e, if_false]
      exact OwnE.same (hold i (by omega)) fun g cur fr hg _ => ho3 g (hne hg)
  · intro i j d e hi hj hd he hb
    have key : ∀ i, i < k → ∀ d, y.pa i = some d → ∀ e, ra = some e → d.block ≠ e.block := by
      intro i hi d hd e he hb
      have h1 := (World.ownsRow.lt (h.rows i hi) d.block (by rw [hd]; rfl)).2
      have h2 := (World.ownsRow.lt hO e.block (by rw [he]; rfl)).1
      omega
    by_cases ei : i = k <;> by_cases ej : j = k
    · omega
    · simp only [ei, ej, if_true, if_false] at hd he
      exact absurd hb.symm (key j (by omega) e he d hd)
    · simp only [ei, ej, if_true, if_false] at hd he
      exact absurd hb (key i (by omega) d hd e he)
    · simp only [ei, ej, if_false] at hd he
      exact h.apart i j d e (by omega) (by omega) hd he hb
theorem run_part30 {cs : Array Value} {off : Nat} {v : Value} (hx : cs[off]? = some v) (W : World) : (part 30 cs off).run Try.prog W = .ok v W := by
  simp [part, isAgg, run_underlying Try.underlying30, hx]
set_option maxRecDepth 100000 in
theorem size30 : ∃ i, Try.prog.info? 30 = some i ∧ i.size = 1 := ⟨_, rfl, by kernel_rfl⟩
theorem run_index67 {rl : List Value} {k : Nat} (hk : k < 17) {v : Value} (hv : rl[k]? = some v) (W : World) : (Instr.index 67 (.agg rl.toArray) (.int .i64 (k : Int))).run Try.prog W = .ok v W := by
  have h0 : (0 : Int) ≤ (k : Int) ∧ (k : Int) < 17 := ⟨by omega, by omega⟩
  have h1 : rl.toArray[k]? = some v := by simpa using hv
  have h2 := run_part30 h1 W
  have hs : (sizeOf 30).run Try.prog W = .ok 1 W := by
    obtain ⟨i, hi, hz⟩ := size30
    simp [sizeOf, typeInfo, hi, hz]
  have h3 : k < 17 := hk
  simp [Instr.index, run_underlying Try.underlying67, asIntOf, h0, hs, h3, hv, go_sem]
theorem wpList_store_new {P : Program} {ops : Array Oper} {rest : List Oper} {o : Oper} {a : Act} {w : World} {Q : Exit → Act → World → Prop} (hgd : o.guard = none) (ty : TypeId) (x y : Operand) (ho : o.op = .store ty x y)
    (c c' : Array Value) (hx : a.eval x = .pointer (some ⟨w.heap.size, 0, none⟩)) (hy : a.eval y = .agg c') (hi : (P.info? ty).map (·.size) = some c'.size) (ho2 : c.size = c'.size) (h1 : c'.all (·.oneCell') = true)
    (h : wpList P ops Q rest (a.put o.dst undef) (w.alloc (.cells c' ty))) : wpList P ops Q (o :: rest) a (w.alloc (.cells c ty)) :=
  wpList_plain hgd fun _ hK => by
    unfold Oper.wp execOp
    simp only [ho, hx, hy, Instr.storeAt, Instr.sureAddr, Sem.run_bind, Sem.run_pure, Result.andThen_ok, run_storeVar_new w ty c c' hi ho2 h1]
    exact hK _ _ h
set_option maxRecDepth 100000 in
set_option maxHeartbeats 3000000 in
theorem copy_any {y : Lay} {w : World} {pr : Nat → Prop} {M : Nat} {st : St} (h : TabL y w pr M st) :
    Calls Try.prog 13 #[.pointer (some ⟨M, 0, none⟩)] w fun e w' => ∃ M2, e = .returned (.pointer (some ⟨M2, 0, none⟩)) ∧ TabAt w' (fun k => k < w.heap.size) M2 st ∧ Below w.heap.size w w' := by
  have H := Hd.mk (is_at h.t0)
  have HT := Hd.mk h
  have hbM := h.bM
  have hsz := h.csz
  have t2 := h.t2
  have hone : y.cs.all (·.oneCell') = true := by
    rw [Array.all_eq_true]
    intro i hi
    rw [hsz] at hi
    have hv : ∀ v : Value, y.cs[i]? = some v → v.oneCell' = true → (y.cs[i]'(by rw [hsz]; exact hi)).oneCell' = true := by
      intro v hv h1
      rw [Array.getElem?_eq_getElem (by rw [hsz]; exact hi)] at hv
      rw [Option.some.inj hv]; exact h1
    by_cases h3 : i < 3
    · have : i = 0 ∨ i = 1 ∨ i = 2 := by omega
      rcases this with rfl | rfl | rfl
      · exact hv _ h.c0 rfl
      · exact hv _ h.c1 rfl
      · exact hv _ h.c2 rfl
    · obtain ⟨m, rfl⟩ : ∃ m, i = 3 + m := ⟨i - 3, by omega⟩
      exact hv _ (h.cr m (by omega)) rfl
  have hi69 : (Try.prog.info? 69).map (·.size) = some y.cs.size := by rw [hsz]; kernel_rfl
  have hsz2 : (#[.bool false, .int .i64 0, .map none, .slice none 0 0, .slice none 0 0, .slice none 0 0, .slice none 0 0, .slice none 0 0, .slice none 0 0, .slice none 0 0, .slice none 0 0, .slice none 0 0, .slice none 0 0, .slice none 0 0, .slice none 0 0, .slice none 0 0, .slice none 0 0, .slice none 0 0, .slice none 0 0, .slice none 0 0] : Array Value).size = y.cs.size := by rw [hsz]; rfl
  obtain ⟨cs, hcs⟩ : ∃ c, y.cs = c := ⟨_, rfl⟩
  rw [hcs] at hbM hi69 hsz2 hone
  have HCS := Hd.mk hcs
  have HBM := Hd.mk hbM
  have HI := Hd.mk hi69
  have HS2 := Hd.mk hsz2
  have HONE := Hd.mk hone
  clear h hsz hone hcs hbM hi69 hsz2
  go_enter Try.func13, Try.ntmps13
  go_wp2_with fail
  refine H.out.mono ?_
  rintro e w1 ⟨rfl, rfl⟩
  go_upto_region 4 with (first | (refine wpList_load_row rfl 69 _ rfl M rfl 69 cs _ _ HBM.out Try.underlying69 rfl HI.out ?_) | (refine wpList_store_new rfl 69 _ _ rfl _ cs rfl rfl HI.out HS2.out HONE.out ?_))
  obtain ⟨W3, hW3⟩ : ∃ W, w.alloc (.cells cs 69) = W := ⟨_, rfl⟩
  have hB3 : Below w.heap.size w W3 := by rw [← hW3]; exact (Below.refl _ _).alloc (Nat.le_refl _) _
  have hM3 : W3.heap[w.heap.size]? = some (.cells cs 69 (0, 0)) := by rw [← hW3]; exact heap_alloc_new _ _
  have hs3 : W3.heap.size = w.heap.size + 1 := by rw [← hW3]; simp
  obtain ⟨M2, hM2⟩ : ∃ r, w.heap.size = r := ⟨_, rfl⟩
  rw [hW3]
  rw [hM2] at hM3 hs3 ⊢
  obtain ⟨L, ⟨es, clock, hes, hrest⟩, hL⟩ := (HT.out.below hB3).map
  have HMP : Hd (∃ L : List (Int × Hn), (∀ (W : World) (b : Nat), W.heap[b]? = some (.map es clock) → MapL Try.prog 3 kI hV W b L) ∧ ∀ s, lk L s = getL (liveS st) s) := ⟨⟨L, fun W b hb => ⟨es, clock, hb, hrest⟩, hL⟩⟩
  have HES := Hd.mk hes
  have t2 := (HT.out.below hB3).t2
  obtain ⟨mb, hmb⟩ : ∃ b, y.mb = b := ⟨_, rfl⟩
  rw [hmb] at t2 hes
  have HC := Hd.mk (clone_map hes)
  have HB3 := Hd.mk hB3
  have HX3 := Hd.mk hM3
  have HS3 := Hd.mk hs3
  have HM2 := Hd.mk hM2
  have HMB := Hd.mk hmb
  clear hB3 hM3 hs3 hM2 hes hrest hL hW3 hmb
  go_wp2_with fail
  refine HC.out.mono ?_
  rintro e w4 ⟨rfl, hw4⟩
  have hB4 : Below W3.heap.size W3 w4 := by rw [hw4]; exact (Below.refl _ _).alloc (Nat.le_refl _) _
  have hmap4 : w4.heap[W3.heap.size]? = some (.map es clock) := by rw [hw4]; exact heap_alloc_new _ _
  have hs4 : w4.heap.size = M2 + 2 := by rw [hw4]; simp [HS3.out]
  rw [HS3.out] at hmap4 ⊢
  have hM4 := (hB4.block M2 (lt_heap HX3.out)).trans HX3.out
  have v2 : w4.cell? ⟨M2, 2, none⟩ = some (.map (some mb)) := (cells_cell hM4 2).trans (by rw [← HMB.out, ← HCS.out]; exact HT.out.c2)
  have f2 := cells_free hM4 2
  have HB4 := Hd.mk ((HB3.out.trans (hB4.mono HB3.out.size)))
  have HX4 := Hd.mk hM4
  have HP4 := Hd.mk hmap4
  have HS4 := Hd.mk hs4
  clear hw4 hB4 hmap4 hs4 hM4 t2
  go_upto_region 5 with fail
  obtain ⟨W5, hW5⟩ : ∃ W, w4.setCell ⟨M2, 2, none⟩ (.map (some (M2 + 1))) = W := ⟨_, rfl⟩
  have hM5 := cells_set (o := 2) HX4.out (.map (some (M2 + 1)))
  rw [hW5] at hM5 ⊢
  have ho5 : ∀ b, b ≠ M2 → W5.heap[b]? = w4.heap[b]? := fun b hb => by rw [← hW5]; exact setCell_other hb
  have hB5 : Below w.heap.size w W5 := by rw [← hW5]; exact HB4.out.setCell (p := ⟨M2, 2, none⟩) (Nat.le_of_eq HM2.out) _
  have hcp : CopyT w W5 M2 (M2 + 1) st 0 ⟨cs.setIfInBounds 2 (.map (some (M2 + 1))), M2 + 1, y.pa, y.pc⟩ := by
    obtain ⟨L, h1, h2⟩ := HMP.out
    have hsz : cs.size = 20 := by rw [← HCS.out]; exact HT.out.csz
    refine ⟨hM5, by simpa using hsz, ?_, ?_, ?_, rfl, Nat.le_of_eq HM2.out, by have := HM2.out; omega, fun i hi => by omega, ⟨L, h1 W5 (M2 + 1) ((ho5 _ (by omega)).trans HP4.out), h2⟩, fun i hi => by omega, fun i j d e hi => by omega, hB5⟩
    · show (cs.setIfInBounds 2 _)[0]? = _
      rw [Array.getElem?_setIfInBounds_ne (by omega), ← HCS.out]; exact HT.out.c0
    · show (cs.setIfInBounds 2 _)[1]? = _
      rw [Array.getElem?_setIfInBounds_ne (by omega), ← HCS.out]; exact HT.out.c1
    · show (cs.setIfInBounds 2 _)[2]? = _
      rw [Array.getElem?_setIfInBounds_self_of_lt (by omega)]
  obtain ⟨rl, hrl⟩ : ∃ l : List Value, (List.range 17).map (fun i => Value.slice (y.pa i) (placesS st i).length (y.pc i)) = l := ⟨_, rfl⟩
  have hrng : W5.rangeAt M 3 rl := by
    intro j v hv
    rw [← hrl, List.getElem?_map] at hv
    by_cases hj : j < 17
    · rw [List.getElem?_range hj] at hv
      simp only [Option.map_some, Option.some.injEq] at hv
      rw [← hv]
      exact ((HT.out.below hB5).tr j hj)
    · rw [List.getElem?_eq_none (by simpa using hj)] at hv
      cases hv
  have hrs : rl.length = 17 := by rw [← hrl]; simp
  have hil : (Try.prog.info? 67).map (·.size) = some rl.length := by rw [hrs]; kernel_rfl
  have hrk : ∀ k, k < 17 → rl[k]? = some (.slice (y.pa k) (placesS st k).length (y.pc k)) := by
    intro k hk
    rw [← hrl, List.getElem?_map, List.getElem?_range hk]; rfl
  have HCP := Hd.mk hcp
  have HRNG := Hd.mk hrng
  have HIL := Hd.mk hil
  have HRK := Hd.mk hrk
  have HRS := Hd.mk hrs
  clear hW5 hM5 ho5 hB5 hcp hrl hrng hil hrk hrs v2 f2
  go_upto_region 6 with (first | (refine wpList_load_mid rfl 67 _ rfl M 3 rfl rl _ HRNG.out Try.underlying67 rfl HIL.out ?_))
  go_wp2_with fail
  go_loopw [22] (fun i W => ∃ k : Nat, k ≤ 17 ∧ i = .int .i64 k ∧ Hd (∃ y', CopyT w W M2 (M2 + 1) st k y')) (fun i _ => 17 - (intOf i).toNat)
  case atStart => exact ⟨0, by omega, rfl, ⟨⟨_, HCP.out⟩⟩⟩
  case round =>
    obtain ⟨k, hk, rfl, HR⟩ := hrel
    obtain ⟨y', hcy⟩ := HR.out
    have HCY := Hd.mk hcy
    clear hcy
    by_cases hlt : k < 17
    · have hrk := HRK.out k hlt
      have k0 : (0 : Int) ≤ (k : Int) := by omega
      have k1 : (k : Int) < 17 := by omega
      have HLT := Hd.mk hlt
      clear hlt hk
      have hTW := HT.out.below HCY.out.bel
      have hrow := hTW.rows k HLT.out
      obtain ⟨pl, hpl⟩ : ∃ l, placesS st k = l := ⟨_, rfl⟩
      have hlen : pl.length ≤ 256 := by rw [← hpl]; exact HT.out.ok.places k
      have hstep := fun (WX : World) hB (ra : Option Addr) (c : Nat) hO => HCY.out.step HLT.out (WX := WX) hB (ra := ra) (c := c) hO
      rw [hpl] at hrow hrk hstep
      have HCL := Hd.mk (clone_app _ pl wr (OwnE.src hrow) (by omega))
      have HST := Hd.mk hstep
      have hix := run_index67 HLT.out hrk wr
      obtain ⟨old, hold⟩ : ∃ v, y'.cs[3 + k]? = some v := ⟨_, Array.getElem?_eq_getElem (by rw [HCY.out.csz]; have := HLT.out; omega)⟩
      have HOLD := Hd.mk hold
      have HK := Hd.mk (And.intro k0 k1)
      obtain ⟨pa, hpa⟩ : ∃ a, y.pa k = a := ⟨_, rfl⟩
      obtain ⟨pc, hpc⟩ : ∃ a, y.pc k = a := ⟨_, rfl⟩
      rw [hpa, hpc] at hix HCL
      clear hrk hTW hrow hpl hlen hstep hold hpa hpc
      go_upto_region 8 with fail
      go_wp2_with fail
      refine HCL.out.mono ?_
      rintro e w5 ⟨v5, rfl, hO5, hB5⟩
      obtain ⟨ra, rc, rfl⟩ := (OwnE.src hO5).shape
      have hM5 := (hB5.block M2 (lt_heap HCY.out.bM)).trans HCY.out.bM
      have c5 : w5.cell? ⟨M2, 3 + k, none⟩ = some old := (cells_cell hM5 (3 + k)).trans HOLD.out
      have f5 := cells_free hM5 (3 + k)
      have HF := Hd.mk (HST.out w5 hB5 ra rc hO5)
      clear hO5 hB5 hM5
      go_wp2_with fail
      go_roundw
      case rel => exact ⟨k + 1, by have := HLT.out; omega, by go_num, ⟨⟨_, HF.out⟩⟩⟩
      case measure => have := HLT.out; simp [intOf]; omega
    · obtain rfl : k = 17 := by omega
      clear hlt hk
      go_wp2_with fail
      go_ret
      exact ⟨M2, rfl, HCY.out.tab HT.out.ok, HCY.out.bel⟩

end Go.Proofs.Ytinagiofolmhbaa
