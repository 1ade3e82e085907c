/- Walks of picks.of and Right. -/
import Derived.Test.YtmahjgffadbdcaaA1
namespace Go.Proofs.Ytmahjgffadbdcaa
open Go.RowKit
set_option linter.unusedVariables false

theorem take_succ_mem {l : List Int} {k : Nat} (h : k < l.length) (p : Int) : p ∈ l.take (k + 1) ↔ p = l[k] ∨ p ∈ l.take k := by
  rw [List.take_succ_eq_append_getElem h, List.mem_append, List.mem_singleton, or_comm]
theorem ok_take_succ {l : List Int} {k : Nat} (h : k < l.length) (hO : OkO (l.take k)) (h1 : 1 ≤ l[k]) (h2 : l[k] ≤ 16) (h3 : l[k] ∉ l.take k) : OkO (l.take (k + 1)) := by
  refine ⟨fun p hp => ?_, ?_⟩
  · rcases (take_succ_mem h p).1 hp with rfl | hp
    · exact ⟨h1, h2⟩
    · exact hO.rng p hp
  · rw [List.take_succ_eq_append_getElem h, List.nodup_append]
    refine ⟨hO.nd, by simp, ?_⟩
    rintro a ha b hb rfl
    rw [List.mem_singleton] at hb
    exact h3 (hb ▸ ha)
theorem ok_bad {l : List Int} {k : Nat} (h : k < l.length) (hb : ¬ (1 ≤ l[k] ∧ l[k] ≤ 16) ∨ l[k] ∈ l.take k) : okO l = false := by
  refine decide_eq_false fun hO => ?_
  rcases hb with hb | hb
  · exact hb (hO.rng _ (List.getElem_mem h))
  · obtain ⟨j, hj, e⟩ := List.mem_iff_getElem.1 hb
    rw [List.length_take] at hj
    rw [List.getElem_take] at e
    have := List.pairwise_iff_getElem.1 hO.nd j k (by omega) h (by omega)
    exact this e
def ofS (l : List Int) : List Int := if okO l then l else []
theorem two_new (w : World) (o o2 : Obj) : ((w.alloc o).alloc o2).heap[w.heap.size + 1]? = some o2 := by
  have := World.alloc_heap_new (w.alloc o) o2
  rwa [World.size_alloc] at this
theorem cells_lt {w : World} {g : Nat} {o : Obj} (h : w.heap[g]? = some o) : g < w.heap.size := (Array.getElem?_eq_some_iff.1 h).1

theorem has_add {S T : List Int} {q : Nat} (h : ∀ p, p ∈ T ↔ p = (q : Int) ∨ p ∈ S) (j : Nat) : hasB T j = if j = q then true else hasB S j := by
  by_cases hj : j = q
  · rw [if_pos hj, hasB, decide_eq_true_eq, h]; exact .inl (by rw [hj])
  · rw [if_neg hj, hasB, hasB, decide_eq_decide, h]
    exact ⟨fun h => h.elim (fun e => absurd (Int.ofNat_inj.1 e) hj) id, .inr⟩
theorem has_del {S T : List Int} {q : Nat} (h : ∀ p, p ∈ T ↔ p ∈ S ∧ p ≠ (q : Int)) (j : Nat) : hasB T j = if j = q then false else hasB S j := by
  by_cases hj : j = q
  · rw [if_pos hj, hasB, decide_eq_false_iff_not, h]; exact fun h => h.2 (by rw [hj])
  · rw [if_neg hj, hasB, hasB, decide_eq_decide, h]
    exact ⟨fun h => h.1, fun h' => ⟨h', fun e => hj (Int.ofNat_inj.1 e)⟩⟩

set_option maxRecDepth 100000 in
set_option maxHeartbeats 1000000 in
theorem of_any (v : Value) (l : List Int) (w : World) (h : SrcI w v l) : Calls Try.prog 31 #[v] w fun e w' => e = .returned (.tuple #[.agg (lf (ofS l)), .bool (okO l)]) ∧ Below w.heap.size w w' := by
  have hsm := h.small
  obtain ⟨a, c, rfl⟩ := h.shape
  have H := Hd.mk h
  clear h
  go_enter Try.func31, Try.ntmps31
  go_wp2_with fail
  go_loopw [9] (fun i W => ∃ k : Nat, k ≤ l.length ∧ i = .int .i64 k ∧ Hd (OkO (l.take k)) ∧ Hd (W.heap[w.heap.size]? = some (.cells (lf []) 51 (0, 0))) ∧ Hd (W.heap[w.heap.size + 1]? = some (.cells (lf (l.take k)) 51 (0, 0))) ∧ Below w.heap.size w W) (fun i _ => l.length - (intOf i).toNat)
  case atStart => exact ⟨0, by omega, rfl, ⟨by simpa using OkO.nil⟩, ⟨(Below.heap_alloc _ _ _ (by simp)).trans (World.alloc_heap_new w _)⟩, ⟨two_new w _ _⟩, ((Below.refl _ _).alloc (Nat.le_refl _) _).alloc (by simp) _⟩
  case round =>
    obtain ⟨k, hk, rfl, HO, HR, HX, hB⟩ := hrel
    by_cases hlt : k < l.length
    · obtain ⟨b, off, rfl, hb, hx⟩ := (H.out.below hB).at k hlt
      have hbad := Hd.mk (ok_bad hlt)
      have htk := Hd.mk (ok_take_succ hlt HO.out)
      have hmem := Hd.mk (take_succ_mem hlt)
      obtain ⟨p, hp⟩ : ∃ p, l[k] = p := ⟨_, rfl⟩
      rw [hp] at hx hbad htk hmem
      clear hp
      by_cases h1 : 1 ≤ p ∧ p ≤ 16
      · obtain ⟨q, rfl⟩ : ∃ q : Nat, p = q := ⟨p.toNat, by omega⟩
        have hq17 : q < 17 := by omega
        have q0 : (0 : Int) ≤ (q : Int) := by omega
        have q1 : (1 : Int) ≤ (q : Int) := by omega
        have q2 : (q : Int) ≤ 16 := by omega
        have q3 : (q : Int) < 17 := by omega
        have d1 : decide ((q : Int) < 1) = false := by simp; omega
        have d2 : decide ((16 : Int) < (q : Int)) = false := by simp; omega
        have hc := (cells_cell HX.out q).trans (lf_get _ q hq17)
        have hf := cells_free HX.out q
        cases e : hasB (l.take k) q
        · rw [e] at hc
          have HT : Hd (OkO (l.take (k + 1))) := ⟨htk.out q1 q2 (by simpa [hasB] using e)⟩
          have HL : Hd ((lf (l.take k)).setIfInBounds q (.bool true) = lf (l.take (k + 1))) := ⟨lf_set q hq17 true (has_add hmem.out)⟩
          clear hbad htk hmem e
          go_wp2_with fail
          go_roundw
          case rel => exact ⟨k + 1, by omega, by go_num, HT, ⟨(Below.heap_setCell _ _ _ _ (by simp)).trans HR.out⟩, ⟨by rw [← HL.out]; exact cells_set HX.out _⟩, hB.setCell (by simp) _⟩
          case measure => simp [intOf]; omega
        · rw [e] at hc
          have hin : (q : Int) ∈ l.take k := by simpa [hasB] using e
          have HE : Hd (okO l = false ∧ lf (ofS l) = lf []) := ⟨hbad.out (.inr hin), by rw [ofS, hbad.out (.inr hin)]; rfl⟩
          clear hbad htk hmem e hin
          go_wp2_with (refine wpList_store_row rfl 51 _ _ rfl w.heap.size (lf []) rfl rfl 51 (lf []) HR.out rfl rfl (lf_one _) ?_)
          refine bodyPost_ret (results_cell_row2 Try.results31 _ _ _ 51 (lf []) (0, 0) _ rfl (setRow_heap _ _ _ _ _ _ HR.out) Try.underlying51 rfl (by kernel_rfl)) rfl ?_
          exact ⟨by rw [HE.out.1, HE.out.2]; rfl, below_setRow hB (Nat.le_refl _) _⟩
      · by_cases h2 : p < 1
        · have d1 : decide (p < 1) = true := decide_eq_true h2
          have HE : Hd (okO l = false ∧ lf (ofS l) = lf []) := ⟨hbad.out (.inl h1), by rw [ofS, hbad.out (.inl h1)]; rfl⟩
          clear hbad htk hmem h1
          go_wp2_with (refine wpList_store_row rfl 51 _ _ rfl w.heap.size (lf []) rfl rfl 51 (lf []) HR.out rfl rfl (lf_one _) ?_)
          refine bodyPost_ret (results_cell_row2 Try.results31 _ _ _ 51 (lf []) (0, 0) _ rfl (setRow_heap _ _ _ _ _ _ HR.out) Try.underlying51 rfl (by kernel_rfl)) rfl ?_
          exact ⟨by rw [HE.out.1, HE.out.2]; rfl, below_setRow hB (Nat.le_refl _) _⟩
        · have d1 : decide (p < 1) = false := decide_eq_false h2
          have d2 : decide ((16 : Int) < p) = true := decide_eq_true (by omega)
          have HE : Hd (okO l = false ∧ lf (ofS l) = lf []) := ⟨hbad.out (.inl h1), by rw [ofS, hbad.out (.inl h1)]; rfl⟩
          clear hbad htk hmem h1
          go_wp2_with (refine wpList_store_row rfl 51 _ _ rfl w.heap.size (lf []) rfl rfl 51 (lf []) HR.out rfl rfl (lf_one _) ?_)
          refine bodyPost_ret (results_cell_row2 Try.results31 _ _ _ 51 (lf []) (0, 0) _ rfl (setRow_heap _ _ _ _ _ _ HR.out) Try.underlying51 rfl (by kernel_rfl)) rfl ?_
          exact ⟨by rw [HE.out.1, HE.out.2]; rfl, below_setRow hB (Nat.le_refl _) _⟩
    · obtain rfl : k = l.length := by omega
      have HX' := HX.out
      rw [List.take_length] at HX'
      have HX2 := Hd.mk HX'
      have HE : Hd (okO l = true ∧ lf (ofS l) = lf l) := ⟨by
        have := HO.out
        rw [List.take_length] at this
        have e : okO l = true := decide_eq_true this
        exact ⟨e, by rw [ofS, e]; rfl⟩⟩
      clear HX' HX HO
      go_wp2_with (first | refine wpList_load_row rfl 51 _ rfl (w.heap.size + 1) rfl 51 (lf l) (0, 0) _ HX2.out Try.underlying51 rfl (by kernel_rfl) ?_ | refine wpList_store_row rfl 51 _ _ rfl w.heap.size (lf l) rfl rfl 51 (lf []) HR.out rfl rfl (lf_one _) ?_)
      refine bodyPost_ret (results_cell_row2 Try.results31 _ _ _ 51 (lf l) (0, 0) _ rfl (setRow_heap _ _ _ _ _ _ HR.out) Try.underlying51 rfl (by kernel_rfl)) rfl ?_
      exact ⟨by rw [HE.out.1, HE.out.2]; rfl, below_setRow hB (Nat.le_refl _) _⟩

/-- Ready processes: an order that increases. -/
def rightB (l : List Int) : Bool := okO l && decide (asc l)
set_option maxRecDepth 100000 in
set_option maxHeartbeats 1000000 in
theorem right_any (v : Value) (l : List Int) (w : World) (h : SrcI w v l) : Calls Try.prog 28 #[v] w fun e w' => e = .returned (.bool (rightB l)) ∧ Below w.heap.size w w' := by
  have H := Hd.mk h
  obtain ⟨a, c, rfl⟩ := h.shape
  clear h
  go_enter Try.func28, Try.ntmps28
  go_wp2_with fail
  refine (of_any _ l _ H.out).mono ?_
  rintro e w1 ⟨rfl, hB⟩
  cases ho : okO l
  · have HO := Hd.mk ho
    clear ho
    go_wp2_with (refine wpList_store_row rfl 51 _ _ rfl w1.heap.size (lf (ofS l)) rfl rfl 51 (lf []) (World.alloc_heap_new _ _) rfl rfl (lf_one _) ?_)
    rw [World.setRow_alloc_new]
    go_ret
    exact ⟨by rw [rightB, HO.out]; rfl, hB.alloc hB.size _⟩
  · have HO := Hd.mk ho
    have HOK : Hd (OkO l) := ⟨of_decide_eq_true ho⟩
    clear ho
    have HB1 := Hd.mk (hB.alloc hB.size (.cells (lf (ofS l)) 51))
    go_wp2_with (refine wpList_store_row rfl 51 _ _ rfl w1.heap.size (lf (ofS l)) rfl rfl 51 (lf []) (World.alloc_heap_new _ _) rfl rfl (lf_one _) ?_)
    rw [World.setRow_alloc_new]
    refine (sorted_any _ l _ (H.out.below HB1.out) HOK.out).mono ?_
    rintro e w2 ⟨rfl, hB2⟩
    have HB2 := Hd.mk (ch4 HB1.out hB2)
    clear hB hB2
    go_wp2_with fail
    go_ret
    exact ⟨by rw [rightB, HO.out]; rfl, HB2.out⟩
end Go.Proofs.Ytmahjgffadbdcaa
