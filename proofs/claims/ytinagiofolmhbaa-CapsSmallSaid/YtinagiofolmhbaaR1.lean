/- The reference: rows of six cells; Live, Places. -/
import Derived.Test.YtinagiofolmhbaaB9
namespace Go.Proofs.Ytinagiofolmhbaa
open Go.RowKit
set_option linter.unusedVariables false
set_option linter.unusedSimpArgs false


def rL : Lays (Hn × Bool) := ⟨6, fun x => [.int .i64 x.1.ser, .int .i64 x.1.par, .int .i64 x.1.port, .int .i64 x.1.hol, .int .i64 (n8 x.1.rts), .bool x.2], fun _ => rfl, by
  intro x u hu
  simp at hu
  rcases hu with rfl | rfl | rfl | rfl | rfl | rfl <;> rfl⟩
set_option maxRecDepth 100000 in
theorem info104 : ∃ i z, Try.prog.info? 104 = some i ∧ i.zero = some z ∧ z.cells.size = 6 ∧ i.size = 6 ∧ i.bytes = 48 :=
  ⟨_, _, rfl, rfl, by kernel_rfl, by kernel_rfl, by kernel_rfl⟩
theorem push_r {w : World} {base : Nat} {v : Value} {xs : List (Hn × Bool)} (x : Hn × Bool) (h : OwnN rL w base 104 v xs) (hb : base ≤ w.heap.size) (hl : xs.length ≤ 100000) :
    ∃ v' w', (Builtin.append_ #[86, 86] 86 #[v, .slice (some ⟨w.heap.size, 0, none⟩) 1 1]).run Try.prog (w.alloc (.cells #[.int .i64 x.1.ser, .int .i64 x.1.par, .int .i64 x.1.port, .int .i64 x.1.hol, .int .i64 (n8 x.1.rts), .bool x.2] 104)) = .ok v' w' ∧ OwnN rL w' base 104 v' (xs ++ [x]) ∧ ∀ {w0 : World}, Below base w0 w → Below base w0 w' := by
  obtain ⟨i, z, hi, hz, hzs, hsz, hby⟩ := info104
  have hh := h.alloc (.cells #[.int .i64 x.1.ser, .int .i64 x.1.par, .int .i64 x.1.port, .int .i64 x.1.hol, .int .i64 (n8 x.1.rts), .bool x.2] 104)
  obtain ⟨v', w', hr, ho, hg⟩ := OwnN.push (P := Try.prog) 86 i z 48 Try.underlying86 hi hz hsz hby hzs (by decide) hh (by simp; omega) x (heap_alloc_new w _) (by simp only [maxLen]; omega) (by omega)
  exact ⟨v', w', hr, ho, fun hB => OwnN.grown hh (hB.alloc hb _) (by simp; omega) hg⟩
set_option maxRecDepth 100000 in
set_option maxHeartbeats 1000000 in
theorem live_ref {nx : Int} {v : Value} {l : List (Hn × Bool)} {w : World} (h : SrcN rL w v l) (hl : l.length ≤ 100000) : Calls Try.prog 69 #[.agg #[.int .i64 nx, v]] w fun e w' => ∃ v', e = .returned v' ∧ OwnN rL w' w.heap.size 104 v' (l.filter (fun x => !x.2)) ∧ Below w.heap.size w w' := by
  obtain ⟨a, c, rfl⟩ := h.shape
  obtain ⟨n, hn⟩ : ∃ n, l.length = n := ⟨_, rfl⟩
  have HN := Hd.mk hn
  have HLN := Hd.mk (show n ≤ 100000 by omega)
  have HL := Hd.mk h
  rw [hn]
  clear h hl hn
  go_enter Try.func69, Try.ntmps69
  go_upto_region 1 with fail
  obtain ⟨W0, hW0⟩ : ∃ W, (w.alloc (.cells #[.int .i64 nx, .slice a n c] 88)) = W := ⟨_, rfl⟩
  have hb0 : W0.heap[w.heap.size]? = some (.cells #[.int .i64 nx, .slice a n c] 88 (0, 0)) := by rw [← hW0]; exact heap_alloc_new _ _
  have hB0 : Below w.heap.size w W0 := by rw [← hW0]; exact (Below.refl _ _).alloc (Nat.le_refl _) _
  rw [hW0]
  have HB0 := Hd.mk hB0
  have HX0 := Hd.mk hb0
  clear hW0 hb0 hB0
  go_wp2_with fail
  have H0 : Hd (OwnN rL W0 W0.heap.size 104 (.slice none 0 0) ((l.take 0).filter (fun x => !x.2))) := ⟨OwnN.nil _ _ _ _⟩
  go_loopw [3, 4] (fun v i W => ∃ k : Nat, k ≤ n ∧ i = .int .i64 k ∧ Hd (OwnN rL W W0.heap.size 104 v ((l.take k).filter (fun x => !x.2))) ∧ Hd (Below W0.heap.size W0 W)) (fun _ i _ => n - (intOf i).toNat)
  case atStart => exact ⟨0, by omega, rfl, H0, ⟨Below.refl _ _⟩⟩
  case round =>
    obtain ⟨k, hk, rfl, HR, HBW⟩ := hrel
    obtain ⟨av, cv, rfl⟩ := HR.out.shape
    have hb := (HBW.out.block w.heap.size (lt_heap HX0.out)).trans HX0.out
    have t1 := (cells_cell hb 1).trans (show _ = some (.slice a n c) from rfl)
    clear hb
    by_cases hlt : k < n
    · have hkl : k < l.length := by rw [HN.out]; exact hlt
      obtain ⟨b, off, hbe, _, hc⟩ := (HL.out.below (HB0.out.trans (HBW.out.mono HB0.out.size))).at k hkl
      cases hbe
      have hsuc := List.take_succ_eq_append_getElem hkl
      obtain ⟨⟨⟨x0, x1, x2, x3, x4⟩, x5⟩, hx⟩ : ∃ x, l[k] = x := ⟨_, rfl⟩
      rw [hx] at hc hsuc
      have v0 : wr.cell? ⟨b, off + k * 6, none⟩ = some (.int .i64 x0) := hc 0 _ rfl
      have v1 : wr.cell? ⟨b, off + k * 6 + 1, none⟩ = some (.int .i64 x1) := hc 1 _ rfl
      have v2 : wr.cell? ⟨b, off + k * 6 + 2, none⟩ = some (.int .i64 x2) := hc 2 _ rfl
      have v3 : wr.cell? ⟨b, off + k * 6 + 3, none⟩ = some (.int .i64 x3) := hc 3 _ rfl
      have v4 : wr.cell? ⟨b, off + k * 6 + 4, none⟩ = some (.int .i64 (n8 x4)) := hc 4 _ rfl
      have v5 : wr.cell? ⟨b, off + k * 6 + 5, none⟩ = some (.bool x5) := hc 5 _ rfl
      have k0 : (0 : Int) ≤ (k : Int) := by omega
      have k1 : (k : Int) < (n : Int) := by omega
      have HWK : Hd (IntKind.i64.wrap ((k : Int) + 1) = (k : Int) + 1) := ⟨IntWalk.i64_in _ ⟨by have := HLN.out; omega, by have := HLN.out; omega⟩⟩
      have HLT := Hd.mk hlt
      have hml : ((l.take k).filter (fun x => !x.2)).length ≤ 100000 := Nat.le_trans (List.length_filter_le _ _) (by rw [List.length_take]; have := HLN.out; omega)
      have HSUC := Hd.mk hsuc
      clear hlt hkl hk hx hc hsuc
      rcases (by cases x5 <;> simp : x5 = true ∨ x5 = false) with hx5 | hx5
      · have hfs : (l.take (k + 1)).filter (fun x => !x.2) = (l.take k).filter (fun x => !x.2) := by rw [HSUC.out, List.filter_append]; simp [hx5]
        have HFS := Hd.mk hfs
        have hwk := HWK.out
        clear hfs hml
        subst hx5
        go_wp2_with fail
        go_roundw
        case rel => exact ⟨k + 1, by have := HLT.out; omega, by go_num, ⟨by rw [HFS.out]; exact HR.out⟩, HBW⟩
        case measure => have := HLT.out; simp [intOf]; omega
      · have hfs : (l.take (k + 1)).filter (fun x => !x.2) = (l.take k).filter (fun x => !x.2) ++ [(⟨x0, x1, x2, x3, x4⟩, x5)] := by rw [HSUC.out, List.filter_append]; simp [hx5]
        obtain ⟨v', w', hr, ho, hg⟩ := push_r (⟨x0, x1, x2, x3, x4⟩, x5) HR.out HBW.out.size hml
        have HFS := Hd.mk hfs
        have HO' := Hd.mk ho
        have HB' := Hd.mk (hg HBW.out)
        have hwk := HWK.out
        generalize ((l.take k).filter (fun x => !x.2)).length = m at hr ⊢
        clear hfs ho hg hml
        subst hx5
        go_wp2_with (at_builtin; refine wpList_append_run rfl _ _ _ rfl rfl rfl hr ?_; clear hr)
        go_roundw
        case rel => exact ⟨k + 1, by have := HLT.out; omega, by go_num, ⟨by rw [HFS.out]; exact HO'.out⟩, HB'⟩
        case measure => have := HLT.out; simp [intOf]; omega
    · obtain rfl : k = n := by omega
      have hfin := HR.out
      rw [List.take_of_length_le (by rw [HN.out]; omega)] at hfin
      rw [List.take_of_length_le (by rw [HN.out]; omega)]
      have HF := Hd.mk (OwnN.lower hfin HB0.out.size)
      clear hfin hlt hk
      go_wp2_with fail
      refine bodyPost_ret (results_tmp Try.results69 _ _ _) rfl ?_
      exact ⟨_, rfl, HF.out, HB0.out.trans (HBW.out.mono HB0.out.size)⟩
set_option maxRecDepth 100000 in
set_option maxHeartbeats 1000000 in
theorem places_ref {nx : Int} {v : Value} {l : List (Hn × Bool)} {w : World} (who : Int) (h : SrcN rL w v l) (hl : l.length ≤ 100000) : Calls Try.prog 72 #[.agg #[.int .i64 nx, v], .int .i64 who] w fun e w' => ∃ v', e = .returned v' ∧ OwnN rL w' w.heap.size 104 v' (l.filter (fun x => decide (x.1.hol = who))) ∧ Below w.heap.size w w' := by
  obtain ⟨a, c, rfl⟩ := h.shape
  obtain ⟨n, hn⟩ : ∃ n, l.length = n := ⟨_, rfl⟩
  have HN := Hd.mk hn
  have HLN := Hd.mk (show n ≤ 100000 by omega)
  have HL := Hd.mk h
  rw [hn]
  clear h hl hn
  go_enter Try.func72, Try.ntmps72
  go_upto_region 1 with fail
  obtain ⟨W0, hW0⟩ : ∃ W, (w.alloc (.cells #[.int .i64 nx, .slice a n c] 88)) = W := ⟨_, rfl⟩
  have hb0 : W0.heap[w.heap.size]? = some (.cells #[.int .i64 nx, .slice a n c] 88 (0, 0)) := by rw [← hW0]; exact heap_alloc_new _ _
  have hB0 : Below w.heap.size w W0 := by rw [← hW0]; exact (Below.refl _ _).alloc (Nat.le_refl _) _
  rw [hW0]
  have HB0 := Hd.mk hB0
  have HX0 := Hd.mk hb0
  clear hW0 hb0 hB0
  go_wp2_with fail
  have H0 : Hd (OwnN rL W0 W0.heap.size 104 (.slice none 0 0) ((l.take 0).filter (fun x => decide (x.1.hol = who)))) := ⟨OwnN.nil _ _ _ _⟩
  go_loopw [5, 6] (fun v i W => ∃ k : Nat, k ≤ n ∧ i = .int .i64 k ∧ Hd (OwnN rL W W0.heap.size 104 v ((l.take k).filter (fun x => decide (x.1.hol = who)))) ∧ Hd (Below W0.heap.size W0 W)) (fun _ i _ => n - (intOf i).toNat)
  case atStart => exact ⟨0, by omega, rfl, H0, ⟨Below.refl _ _⟩⟩
  case round =>
    obtain ⟨k, hk, rfl, HR, HBW⟩ := hrel
    obtain ⟨av, cv, rfl⟩ := HR.out.shape
    have hb := (HBW.out.block w.heap.size (lt_heap HX0.out)).trans HX0.out
    have t1 := (cells_cell hb 1).trans (show _ = some (.slice a n c) from rfl)
    clear hb
    by_cases hlt : k < n
    · have hkl : k < l.length := by rw [HN.out]; exact hlt
      obtain ⟨b, off, hbe, _, hc⟩ := (HL.out.below (HB0.out.trans (HBW.out.mono HB0.out.size))).at k hkl
      cases hbe
      have hsuc := List.take_succ_eq_append_getElem hkl
      obtain ⟨⟨⟨x0, x1, x2, x3, x4⟩, x5⟩, hx⟩ : ∃ x, l[k] = x := ⟨_, rfl⟩
      rw [hx] at hc hsuc
      have v0 : wr.cell? ⟨b, off + k * 6, none⟩ = some (.int .i64 x0) := hc 0 _ rfl
      have v1 : wr.cell? ⟨b, off + k * 6 + 1, none⟩ = some (.int .i64 x1) := hc 1 _ rfl
      have v2 : wr.cell? ⟨b, off + k * 6 + 2, none⟩ = some (.int .i64 x2) := hc 2 _ rfl
      have v3 : wr.cell? ⟨b, off + k * 6 + 3, none⟩ = some (.int .i64 x3) := hc 3 _ rfl
      have v4 : wr.cell? ⟨b, off + k * 6 + 4, none⟩ = some (.int .i64 (n8 x4)) := hc 4 _ rfl
      have v5 : wr.cell? ⟨b, off + k * 6 + 5, none⟩ = some (.bool x5) := hc 5 _ rfl
      have k0 : (0 : Int) ≤ (k : Int) := by omega
      have k1 : (k : Int) < (n : Int) := by omega
      have HWK : Hd (IntKind.i64.wrap ((k : Int) + 1) = (k : Int) + 1) := ⟨IntWalk.i64_in _ ⟨by have := HLN.out; omega, by have := HLN.out; omega⟩⟩
      have HLT := Hd.mk hlt
      have hml : ((l.take k).filter (fun x => decide (x.1.hol = who))).length ≤ 100000 := Nat.le_trans (List.length_filter_le _ _) (by rw [List.length_take]; have := HLN.out; omega)
      have HSUC := Hd.mk hsuc
      clear hlt hkl hk hx hc hsuc
      by_cases hw : ¬ x3 = who
      · have hfs : (l.take (k + 1)).filter (fun x => decide (x.1.hol = who)) = (l.take k).filter (fun x => decide (x.1.hol = who)) := by rw [HSUC.out, List.filter_append]; simp [hw]
        have HFS := Hd.mk hfs
        have hwk := HWK.out
        clear hfs hml
        have d1 : decide (x3 = who) = false := decide_eq_false hw
        have d2 : (x3 == who) = false := by simpa using hw
        clear hw
        go_wp2_with fail
        go_roundw
        case rel => exact ⟨k + 1, by have := HLT.out; omega, by go_num, ⟨by rw [HFS.out]; exact HR.out⟩, HBW⟩
        case measure => have := HLT.out; simp [intOf]; omega
      · have hfs : (l.take (k + 1)).filter (fun x => decide (x.1.hol = who)) = (l.take k).filter (fun x => decide (x.1.hol = who)) ++ [(⟨x0, x1, x2, x3, x4⟩, x5)] := by rw [HSUC.out, List.filter_append]; simp [Decidable.not_not.1 hw]
        obtain ⟨v', w', hr, ho, hg⟩ := push_r (⟨x0, x1, x2, x3, x4⟩, x5) HR.out HBW.out.size hml
        have HFS := Hd.mk hfs
        have HO' := Hd.mk ho
        have HB' := Hd.mk (hg HBW.out)
        have hwk := HWK.out
        generalize ((l.take k).filter (fun x => decide (x.1.hol = who))).length = m at hr ⊢
        clear hfs ho hg hml
        obtain rfl : x3 = who := Decidable.not_not.1 hw
        clear hw
        go_wp2_with (at_builtin; refine wpList_append_run rfl _ _ _ rfl rfl rfl hr ?_; clear hr)
        go_roundw
        case rel => exact ⟨k + 1, by have := HLT.out; omega, by go_num, ⟨by rw [HFS.out]; exact HO'.out⟩, HB'⟩
        case measure => have := HLT.out; simp [intOf]; omega
    · obtain rfl : k = n := by omega
      have hfin := HR.out
      rw [List.take_of_length_le (by rw [HN.out]; omega)] at hfin
      rw [List.take_of_length_le (by rw [HN.out]; omega)]
      have HF := Hd.mk (OwnN.lower hfin HB0.out.size)
      clear hfin hlt hk
      go_wp2_with fail
      refine bodyPost_ret (results_tmp Try.results72 _ _ _) rfl ?_
      exact ⟨_, rfl, HF.out, HB0.out.trans (HBW.out.mono HB0.out.size)⟩

end Go.Proofs.Ytinagiofolmhbaa
