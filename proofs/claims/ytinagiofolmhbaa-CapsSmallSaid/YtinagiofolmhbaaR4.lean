/- The reference: has, take, Revoke, Close. -/
import Derived.Test.YtinagiofolmhbaaR3
namespace Go.Proofs.Ytinagiofolmhbaa
open Go.RowKit
set_option linter.unusedVariables false
set_option linter.unusedSimpArgs false


set_option maxRecDepth 100000 in
theorem refhasI_any {v : Value} {l : List Int} {w : World} (h : SrcI w v l) (x : Int) : Calls Try.prog 89 #[v, .int .i64 x] w fun e w' => e = .returned (.bool (l.contains x)) ∧ w = w' := by
  have hsm := h.small
  have HS := Hd.mk h
  obtain ⟨a, c, rfl⟩ := h.shape
  obtain ⟨n, hn⟩ : ∃ n, l.length = n := ⟨_, rfl⟩
  have HN := Hd.mk hn
  rw [hn] at hsm ⊢
  have HSM := Hd.mk hsm
  clear h hn hsm
  go_enter Try.func89, Try.ntmps89
  go_wp2_with fail
  go_loopw [5] (fun i W => ∃ k : Nat, k ≤ n ∧ i = .int .i64 k ∧ W = w ∧ Hd (∀ j (hj : j < l.length), j < k → ¬ l[j] = x)) (fun i _ => n - (intOf i).toNat)
  case atStart => exact ⟨0, by omega, rfl, rfl, ⟨fun j hj h => by omega⟩⟩
  case round =>
    obtain ⟨k, hk, rfl, rfl, HNO⟩ := hrel
    by_cases hlt : k < n
    · have hkl : k < l.length := by rw [HN.out]; exact hlt
      obtain ⟨b, off, hbe, _, hc⟩ := HS.out.at k hkl
      cases hbe
      obtain ⟨z, hz⟩ : ∃ z, l[k] = z := ⟨_, rfl⟩
      rw [hz] at hc
      have v0 : wr.cell? ⟨b, off + k, none⟩ = some (.int .i64 z) := hc
      have k0 : (0 : Int) ≤ (k : Int) := by omega
      have k1 : (k : Int) < (n : Int) := by omega
      have hwk : IntKind.i64.wrap ((k : Int) + 1) = (k : Int) + 1 := IntWalk.i64_in _ ⟨by omega, by have := HSM.out; omega⟩
      have HLT := Hd.mk hlt
      have HZ := Hd.mk hz
      clear hc hz hlt hk
      by_cases he : z = x
      · subst he
        have HF : Hd (l.contains z = true) := ⟨by rw [List.contains_iff_mem, ← HZ.out]; exact List.getElem_mem _⟩
        go_wp2_with fail
        refine bodyPost_ret (results_tmp Try.results89 _ _ _) rfl ?_
        exact ⟨by rw [HF.out]; rfl, rfl⟩
      · have d1 : decide (z = x) = false := decide_eq_false he
        have d2 : (z == x) = false := by simpa using he
        have HNO' : Hd (∀ j (hj : j < l.length), j < k + 1 → ¬ l[j] = x) := ⟨fun j hj h => by
          by_cases e : j = k
          · subst e; rw [HZ.out]; exact he
          · exact HNO.out j hj (by omega)⟩
        clear he
        go_wp2_with fail
        go_roundw
        case rel => exact ⟨k + 1, by have := HLT.out; omega, by go_num, trivial, HNO'⟩
        case measure => have := HLT.out; simp [intOf]; omega
    · obtain rfl : k = n := by omega
      have HF : Hd (l.contains x = false) := ⟨by
        cases hc : l.contains x with
        | false => rfl
        | true =>
          obtain ⟨j, hj, e⟩ := List.mem_iff_getElem.1 (List.contains_iff_mem.1 hc)
          exact absurd e (HNO.out j hj (by rw [← HN.out]; exact hj))⟩
      clear hlt hk
      go_wp2_with fail
      refine bodyPost_ret (results_tmp Try.results89 _ _ _) rfl ?_
      exact ⟨by rw [HF.out]; rfl, rfl⟩

/-! ### A row whose cells can be turned -/
def CurR (W : World) (base : Nat) (v : Value) (xs : List (Hn × Bool)) : Prop :=
  (xs = [] ∧ ∃ a c, v = .slice a 0 c ∧ (a = none → c = 0)) ∨ ∃ g c cur, v = .slice (some ⟨g, 0, none⟩) xs.length c ∧ xs.length ≤ c ∧ c ≤ maxLen ∧ base ≤ g ∧ W.heap[g]? = some (.cells cur 104 (0, 0)) ∧ ∀ j (hj : j < xs.length) r, r < 6 → cur[j * 6 + r]? = (rL.cs xs[j])[r]?
theorem CurR.ofOwn {W : World} {base : Nat} {v : Value} {xs : List (Hn × Bool)} (h : OwnN rL W base 104 v xs) : CurR W base v xs := by
  obtain ⟨a, c, rfl⟩ := h.shape
  by_cases h0 : 0 < xs.length
  · obtain ⟨g, cur, rfl, hg, hh, hc⟩ := h.cur h0
    have hs := h.src
    rcases hs with ⟨rfl, _⟩ | ⟨b, off, c', hv, h1, h2, _⟩
    · simp at h0
    · simp only [Value.slice.injEq] at hv
      obtain ⟨_, _, rfl⟩ := hv
      exact .inr ⟨g, c, cur, rfl, h1, h2, hg, hh, fun j hj r hr => hc j hj r hr⟩
  · have : xs = [] := List.length_eq_zero_iff.1 (by omega)
    subst this
    rcases h.src with ⟨_, a', c', hv, ha⟩ | ⟨b, off, c', hv, h1, h2, _⟩
    · exact .inl ⟨rfl, a', c', hv, ha⟩
    · simp only [Value.slice.injEq, List.length_nil] at hv
      obtain ⟨rfl, _, rfl⟩ := hv
      exact .inl ⟨rfl, _, _, rfl, fun e => by cases e⟩
theorem CurR.src {W : World} {base : Nat} {v : Value} {xs : List (Hn × Bool)} (h : CurR W base v xs) : SrcN rL W v xs := by
  rcases h with ⟨rfl, a, c, rfl, ha⟩ | ⟨g, c, cur, rfl, h1, h2, hg, hh, hc⟩
  · exact .inl ⟨rfl, a, c, rfl, ha⟩
  · refine .inr ⟨g, 0, c, rfl, h1, h2, lt_heap hh, fun j hj r u hr => ?_⟩
    have hr6 : r < 6 := by
      have := (List.getElem?_eq_some_iff.1 hr).1
      rw [rL.len] at this
      exact this
    rw [cells_cell hh]
    have e := hc j hj r hr6
    rw [hr] at e
    rw [← e]
    congr 1
    show 0 + j * 6 + r = j * 6 + r
    omega
theorem CurR.same {W W' : World} {base : Nat} {v : Value} {xs : List (Hn × Bool)} (h : CurR W base v xs) (hk : ∀ k, base ≤ k → k < W.heap.size → W'.heap[k]? = W.heap[k]?) : CurR W' base v xs := by
  rcases h with h | ⟨g, c, cur, rfl, h1, h2, hg, hh, hc⟩
  · exact .inl h
  · exact .inr ⟨g, c, cur, rfl, h1, h2, hg, (hk g hg (lt_heap hh)).trans hh, hc⟩
theorem rL_gone (x : Hn × Bool) (r : Nat) (hr : r < 6) : (rL.cs (x.1, true))[r]? = if r = 5 then some (.bool true) else (rL.cs x)[r]? := by
  match r, hr with
  | 0, _ => rfl
  | 1, _ => rfl
  | 2, _ => rfl
  | 3, _ => rfl
  | 4, _ => rfl
  | 5, _ => rfl
theorem CurR.gone {W : World} {base : Nat} {g n c : Nat} {xs : List (Hn × Bool)} (h : CurR W base (.slice (some ⟨g, 0, none⟩) n c) xs) {k : Nat} (hk : k < xs.length) :
    CurR (W.setCell ⟨g, k * 6 + 5, none⟩ (.bool true)) base (.slice (some ⟨g, 0, none⟩) n c) (xs.set k (xs[k].1, true)) ∧ W.frozen? ⟨g, k * 6 + 5, none⟩ = false ∧ base ≤ g := by
  rcases h with ⟨rfl, _⟩ | ⟨g', c', cur, hv, h1, h2, hg, hh, hc⟩
  · simp at hk
  · simp only [Value.slice.injEq, Option.some.injEq, Addr.mk.injEq] at hv
    obtain ⟨⟨rfl, _, _⟩, rfl, rfl⟩ := hv
    refine ⟨.inr ⟨g, c, _, by simp, by simpa using h1, h2, hg, cells_set (o := k * 6 + 5) hh (.bool true), fun j hj r hr => ?_⟩, cells_free hh _, hg⟩
    have hj' : j < xs.length := by simpa using hj
    have hlast : k * 6 + 5 < cur.size := by
      have := hc k hk 5 (by omega)
      have h5 : (rL.cs xs[k])[5]? = some (.bool xs[k].2) := rfl
      rw [h5] at this
      exact (Array.getElem?_eq_some_iff.1 this).1
    rw [Array.getElem?_setIfInBounds]
    by_cases e : j = k
    · subst e
      rw [List.getElem_set_self, rL_gone _ r hr]
      by_cases e5 : r = 5
      · subst e5; simp [hlast]
      · rw [if_neg (by omega), if_neg e5, hc j hj' r hr]
    · rw [if_neg (by omega), List.getElem_set_ne (by omega), hc j hj' r hr]
def gonF (p : List Int) (x : Hn × Bool) : Hn × Bool := (x.1, x.2 || p.contains x.1.ser)
def gonK (p : List Int) (l : List (Hn × Bool)) (k : Nat) : List (Hn × Bool) := (l.take k).map (gonF p) ++ l.drop k
theorem gonK_len (p : List Int) (l : List (Hn × Bool)) (k : Nat) : (gonK p l k).length = l.length := by
  unfold gonK
  rw [List.length_append, List.length_map, List.length_take, List.length_drop]
  omega
theorem gonK_at {p : List Int} {l : List (Hn × Bool)} {k : Nat} (hk : k < l.length) (hk2 : k < (gonK p l k).length) : (gonK p l k)[k] = l[k] := by
  have hl : ((l.take k).map (gonF p)).length = k := by rw [List.length_map, List.length_take]; omega
  have h1 : (gonK p l k)[k]? = some l[k] := by
    unfold gonK
    rw [List.getElem?_append_right (by omega), hl]
    simp [hk]
  rw [List.getElem?_eq_getElem hk2] at h1
  exact Option.some.inj h1
theorem gonK_succ {p : List Int} {l : List (Hn × Bool)} {k : Nat} (hk : k < l.length) : gonK p l (k + 1) = (gonK p l k).set k (gonF p l[k]) := by
  unfold gonK
  have hl : ((l.take k).map (gonF p)).length = k := by rw [List.length_map, List.length_take]; omega
  rw [List.take_succ_eq_append_getElem hk, List.map_append, List.set_append_right _ _ (by omega), hl, List.append_assoc, List.drop_eq_getElem_cons hk, Nat.sub_self]
  rfl
theorem gonK_same {p : List Int} {l : List (Hn × Bool)} {k : Nat} (hk : k < l.length) (h : p.contains l[k].1.ser = false) : gonK p l (k + 1) = gonK p l k := by
  rw [gonK_succ hk]
  have h1 := gonK_at (p := p) hk (by rw [gonK_len]; exact hk)
  have h2 : gonF p l[k] = l[k] := by unfold gonF; rw [h]; simp
  rw [h2, ← h1]
  exact List.set_getElem_self _
theorem gonK_all (p : List Int) (l : List (Hn × Bool)) : gonK p l l.length = l.map (gonF p) := by unfold gonK; simp
theorem gonK_zero (p : List Int) (l : List (Hn × Bool)) : gonK p l 0 = l := by unfold gonK; simp
/-- The rows stand while what was laid since `base` stands. -/
def RefK (base : Nat) (w : World) (v : Value) (st : St) : Prop := ∀ W' : World, (∀ k, base ≤ k → k < w.heap.size → W'.heap[k]? = w.heap[k]?) → RefT W' v st
theorem RefK.now {base : Nat} {w : World} {v : Value} {st : St} (h : RefK base w v st) : RefT w v st := h w (fun _ _ _ => rfl)
theorem RefK.lift {base base' : Nat} {w w' : World} {v : Value} {st : St} (h : RefK base w v st) (hb : base' ≤ base) (hs : w.heap.size ≤ w'.heap.size) (hk : ∀ k, base ≤ k → k < w.heap.size → w'.heap[k]? = w.heap[k]?) : RefK base' w' v st :=
  fun W' hW => h W' fun k h1 h2 => (hW k (by omega) (by omega)).trans (hk k h1 h2)
/-- What a call gives back: the table it was given, or a new one. -/
def RefP (base : Nat) (v : Value) (st : St) (w' : World) (v' : Value) (st' : St) : Prop := (v' = v ∧ st' = st) ∨ RefK base w' v' st'
theorem RefP.lift {base base' : Nat} {w w' : World} {v v' : Value} {st st' : St} (h : RefP base v st w v' st') (hb : base' ≤ base) (hs : w.heap.size ≤ w'.heap.size) (hk : ∀ k, base ≤ k → k < w.heap.size → w'.heap[k]? = w.heap[k]?) : RefP base' v st w' v' st' := by
  rcases h with h | h
  · exact .inl h
  · exact .inr (h.lift hb hs hk)
theorem RefP.ref {base : Nat} {w0 w : World} {v v' : Value} {st st' : St} (h : RefP base v st w v' st') (h0 : RefT w0 v st) (hB : Below w0.heap.size w0 w) : RefT w v' st' := by
  rcases h with ⟨rfl, rfl⟩ | h
  · exact h0.below hB
  · exact h.now
theorem size88 : (Try.prog.info? 88).map (·.size) = some 2 := by kernel_rfl
theorem set2 {W : World} {b e : Nat} {z0 z1 : Value} (h : W.heap[b]? = some (.cells #[z0, z1] e (0, 0))) (a0 a1 : Value) :
    ((W.setCell ⟨b, 0, none⟩ a0).setCell ⟨b, 1, none⟩ a1).heap[b]? = some (.cells #[a0, a1] e (0, 0)) := cells_set (o := 1) (cells_set (o := 0) h a0) a1
theorem below2 {B : Nat} {w W : World} (h : Below B w W) {b : Nat} (hb : B ≤ b) (a0 a1 : Value) : Below B w ((W.setCell ⟨b, 0, none⟩ a0).setCell ⟨b, 1, none⟩ a1) :=
  (h.setCell (p := ⟨b, 0, none⟩) hb _).setCell (p := ⟨b, 1, none⟩) hb _
theorem other2 {W : World} {b k : Nat} (hk : k ≠ b) (a0 a1 : Value) : ((W.setCell ⟨b, 0, none⟩ a0).setCell ⟨b, 1, none⟩ a1).heap[k]? = W.heap[k]? :=
  (setCell_other hk).trans (setCell_other hk)
set_option maxRecDepth 100000 in
set_option maxHeartbeats 2000000 in
theorem reftake_any {st : St} {v sv : Value} {w : World} (h : RefT w v st) {nx : Int} (hnx : st.next = nx) {p : List Int} (hp : SrcI w sv p) :
    Calls Try.prog 68 #[.agg #[.int .i64 nx, v], sv] w fun e w' => ∃ v', e = .returned (.agg #[.int .i64 nx, v']) ∧ RefK w.heap.size w' v' (takeS st p) ∧ Below w.heap.size w w' := by
  obtain ⟨a, c, rfl⟩ := h.rows.shape
  have HL := Hd.mk h
  have HSV := Hd.mk hp
  obtain ⟨pa, pc, rfl⟩ := hp.shape
  obtain ⟨n, hn⟩ : ∃ n, st.made.length = n := ⟨_, rfl⟩
  obtain ⟨pn, hpn⟩ : ∃ n, p.length = n := ⟨_, rfl⟩
  have HN := Hd.mk hn
  have HPN := Hd.mk hpn
  have hn2 : n ≤ 1000 := by rw [← hn]; exact h.few
  have HN2 := Hd.mk hn2
  rw [hn, hpn]
  clear h hnx hn hn2 hp hpn
  obtain ⟨W0, hW0⟩ : ∃ W, ((w.alloc (.cells #[.int .i64 nx, .slice a n c] 88)).alloc (.cells #[.int .i64 0, .slice none 0 0] 88)) = W := ⟨_, rfl⟩
  have hs1 : (w.alloc (.cells #[.int .i64 nx, .slice a n c] 88)).heap.size = w.heap.size + 1 := by simp
  have hB0 : Below w.heap.size w W0 := by rw [← hW0]; exact ((Below.refl _ _).alloc (Nat.le_refl _) _).alloc (by rw [hs1]; omega) _
  have hx0 : W0.heap[w.heap.size]? = some (.cells #[.int .i64 nx, .slice a n c] 88 (0, 0)) := by rw [← hW0]; exact (Below.heap_alloc _ _ _ (lt_heap (heap_alloc_new w _))).trans (heap_alloc_new w _)
  have hr0 : W0.heap[w.heap.size + 1]? = some (.cells #[.int .i64 0, .slice none 0 0] 88 (0, 0)) := by rw [← hW0, ← hs1]; exact heap_alloc_new _ _
  -- the copy of the rows
  obtain ⟨W1, hW1⟩ : ∃ W, W0.alloc (.cells #[] 104) = W := ⟨_, rfl⟩
  have hB1 : Below W0.heap.size W0 W1 := by rw [← hW1]; exact (Below.refl _ _).alloc (Nat.le_refl _) _
  have ho1 : OwnN rL W1 W0.heap.size 104 (.slice (some ⟨W0.heap.size, 0, none⟩) 0 0) [] := by rw [← hW1]; exact OwnN.made rL W0 W0.heap.size 104 (Nat.le_refl _)
  obtain ⟨i_, z_, hi_, hz_, hzs_, hsz_, hby_⟩ := info104
  have hrows := (HL.out.rows.below hB0).below hB1
  rw [HN.out] at hrows
  obtain ⟨v', W2, hr, ho, hg⟩ := OwnN.append (P := Try.prog) 86 i_ z_ 48 Try.underlying86 hi_ hz_ hsz_ hby_ hzs_ (by decide) ho1 hB1.size hrows (by have := HL.out.few; simp only [maxLen, List.length_nil]; omega) (by have := HL.out.few; simp only [List.length_nil]; omega)
  rw [List.nil_append] at ho
  have hB2 := ho1.grown hB1 hB1.size hg
  obtain ⟨av, cv, rfl⟩ := ho.shape
  rw [HN.out] at ho hr
  have hx2 := (hB2.block w.heap.size (lt_heap hx0)).trans hx0
  have hr2 := (hB2.block (w.heap.size + 1) (lt_heap hr0)).trans hr0
  have hlt1 : w.heap.size + 1 < W0.heap.size := lt_heap hr0
  -- the box's cell turned
  obtain ⟨W3, hW3⟩ : ∃ W, W2.setCell ⟨w.heap.size, 1, none⟩ (.slice av n cv) = W := ⟨_, rfl⟩
  have hx3 : W3.heap[w.heap.size]? = some (.cells #[.int .i64 nx, .slice av n cv] 88 (0, 0)) := by rw [← hW3]; exact cells_set (o := 1) hx2 _
  have hr3 : W3.heap[w.heap.size + 1]? = some (.cells #[.int .i64 0, .slice none 0 0] 88 (0, 0)) := by rw [← hW3]; exact (setCell_other (by omega)).trans hr2
  have hc3 : CurR W3 W0.heap.size (.slice av n cv) st.made := by
    rw [← hW3]
    exact CurR.same (CurR.ofOwn ho) (fun k hk _ => setCell_other (by omega))
  have hB3 : Below w.heap.size w W3 := by rw [← hW3]; exact (hB0.trans (hB2.mono hB0.size)).setCell (p := ⟨w.heap.size, 1, none⟩) (Nat.le_refl _) _
  have HX3 := Hd.mk hx3
  have HR3 := Hd.mk hr3
  have HC3 : Hd (CurR W3 W0.heap.size (.slice av n cv) (gonK p st.made 0)) := ⟨by rw [gonK_zero]; exact hc3⟩
  have HB3 := Hd.mk hB3
  have HLT1 := Hd.mk hlt1
  have q1 : W2.cell? ⟨w.heap.size, 1, none⟩ = some (.slice a n c) := cells_cell hx2 1
  have f1 := cells_free hx2 1
  have t1 : W1.cell? ⟨w.heap.size, 1, none⟩ = some (.slice a n c) := cells_cell ((hB1.block w.heap.size (lt_heap hx0)).trans hx0) 1
  have HW0 := Hd.mk hW0
  have HW1 := Hd.mk hW1
  have HW3 := Hd.mk hW3
  rw [← hW1] at hr t1
  clear hW0 hs1 hB0 hx0 hr0 hW1 hB1 ho1 hi_ hz_ hzs_ hsz_ hby_ hrows ho hg hB2 hx2 hr2 hlt1 hW3 hx3 hr3 hc3 hB3
  go_enter Try.func68, Try.ntmps68
  go_upto_region 1 with fail
  rw [HW0.out]
  clear HW0
  go_wp2_with (at_builtin; refine wpList_append_run rfl _ _ _ rfl rfl rfl hr ?_; clear hr)
  clear q1 f1 t1
  rw [HW3.out]
  go_loopw [5] (fun i W => ∃ k : Nat, k ≤ n ∧ i = .int .i64 k ∧ Hd (CurR W W0.heap.size (.slice av n cv) (gonK p st.made k)) ∧ Hd (W.heap[w.heap.size]? = some (.cells #[.int .i64 nx, .slice av n cv] 88 (0, 0))) ∧ Hd (W.heap[w.heap.size + 1]? = some (.cells #[.int .i64 0, .slice none 0 0] 88 (0, 0))) ∧ Hd (Below w.heap.size w W)) (fun i _ => n - (intOf i).toNat)
  case atStart => exact ⟨0, by omega, rfl, HC3, HX3, HR3, HB3⟩
  case round =>
    obtain ⟨k, hk, rfl, HC, HX, HR, HB⟩ := hrel
    have t0 := (cells_cell HX.out 0).trans (show _ = some (.int .i64 nx) from rfl)
    have t1 := (cells_cell HX.out 1).trans (show _ = some (.slice av n cv) from rfl)
    by_cases hlt : k < n
    · have hkl : k < st.made.length := by rw [HN.out]; exact hlt
      have hkg : k < (gonK p st.made k).length := by rw [gonK_len]; exact hkl
      obtain ⟨g, cg, hga⟩ : ∃ g c, av = some ⟨g, 0, none⟩ ∧ c = cv := by
        rcases HC.out with ⟨h1, _⟩ | ⟨g, c', cur, hv, _⟩
        · rw [h1] at hkg; simp at hkg
        · simp only [Value.slice.injEq] at hv; exact ⟨g, cv, hv.1, rfl⟩
      obtain ⟨rfl, rfl⟩ := hga
      obtain ⟨hset, hfr, hgb⟩ := HC.out.gone hkg
      obtain ⟨b, off, hbe, _, hc⟩ := HC.out.src.at k hkg
      cases hbe
      rw [gonK_at hkl hkg] at hc hset
      have hsame := gonK_same (p := p) hkl
      have hsucc := gonK_succ (p := p) hkl
      obtain ⟨⟨⟨x0, x1, x2, x3, x4⟩, x5⟩, hx⟩ : ∃ x, st.made[k] = x := ⟨_, rfl⟩
      rw [hx] at hc hset hsame hsucc
      simp only at hset hsame
      have v0 : wr.cell? ⟨g, k * 6, none⟩ = some (.int .i64 x0) := by have := hc 0 _ rfl; rw [show rL.sz = 6 from rfl] at this; simpa using this
      have v5 : wr.cell? ⟨g, k * 6 + 5, none⟩ = some (.bool x5) := by have := hc 5 _ rfl; rw [show rL.sz = 6 from rfl] at this; simpa using this
      obtain ⟨u, hu⟩ : ∃ u, p.contains x0 = u := ⟨_, rfl⟩
      have HC_ := Hd.mk (refhasI_any (HSV.out.below HB.out) x0)
      rw [hu, HPN.out] at HC_
      rw [hu] at hsame
      have HSAME := Hd.mk hsame
      have HSET : Hd (u = true → CurR (wr.setCell ⟨g, k * 6 + 5, none⟩ (.bool true)) W0.heap.size (.slice (some ⟨g, 0, none⟩) n cg) (gonK p st.made (k + 1))) := ⟨fun h => by
        rw [hsucc]
        unfold gonF
        simp only
        rw [hu, h, Bool.or_true]
        exact hset⟩
      have HX' : Hd ((wr.setCell ⟨g, k * 6 + 5, none⟩ (.bool true)).heap[w.heap.size]? = some (.cells #[.int .i64 nx, .slice (some ⟨g, 0, none⟩) n cg] 88 (0, 0))) := ⟨(setCell_other (by have := HLT1.out; omega)).trans HX.out⟩
      have HR' : Hd ((wr.setCell ⟨g, k * 6 + 5, none⟩ (.bool true)).heap[w.heap.size + 1]? = some (.cells #[.int .i64 0, .slice none 0 0] 88 (0, 0))) := ⟨(setCell_other (by have := HLT1.out; omega)).trans HR.out⟩
      have HB' : Hd (Below w.heap.size w (wr.setCell ⟨g, k * 6 + 5, none⟩ (.bool true))) := ⟨HB.out.setCell (p := ⟨g, k * 6 + 5, none⟩) (by have := HLT1.out; show w.heap.size ≤ g; omega) _⟩
      have k0 : (0 : Int) ≤ (k : Int) := by omega
      have k1 : (k : Int) < (n : Int) := by omega
      have hwk : IntKind.i64.wrap ((k : Int) + 1) = (k : Int) + 1 := IntWalk.i64_in _ ⟨by omega, by have := HN2.out; omega⟩
      have HLT := Hd.mk hlt
      clear hlt hk hkl hkg hset hgb hc hsame hsucc hx hu
      go_wp2_with fail
      refine HC_.out.mono ?_
      rintro e wk ⟨rfl, hwk2⟩
      subst hwk2
      clear HC_
      cases u with
      | false =>
        go_wp2_with fail
        go_roundw
        case rel => exact ⟨k + 1, by have := HLT.out; omega, by go_num, ⟨by rw [HSAME.out (by trivial)]; exact HC.out⟩, HX, HR, HB⟩
        case measure => have := HLT.out; simp [intOf]; omega
      | true =>
        go_wp2_with fail
        go_roundw
        case rel => exact ⟨k + 1, by have := HLT.out; omega, by go_num, ⟨HSET.out (by trivial)⟩, HX', HR', HB'⟩
        case measure => have := HLT.out; simp [intOf]; omega
    · obtain rfl : k = n := by omega
      have hfin := HC.out.src
      have hall := gonK_all p st.made
      rw [HN.out] at hall
      rw [hall] at hfin
      have HFIN := Hd.mk hfin
      have hr := HR.out
      have q0 := cells_cell hr 0
      have f0 := cells_free hr 0
      have q1 := cells_cell hr 1
      have f1 := cells_free hr 1
      simp only [List.getElem?_toArray, List.getElem?_cons_zero, List.getElem?_cons_succ] at q0 q1
      clear hfin hall hlt hk
      go_wp2_with fail
      refine bodyPost_ret (results_cell_row Try.results68 _ _ (w.heap.size + 1) 88 #[.int .i64 nx, .slice av k cv] (0, 0) _ rfl (set2 HR.out _ _) Try.underlying88 rfl size88) rfl ?_
      refine ⟨_, rfl, fun W' hW' => ⟨?_, ?_, HL.out.ok.take p⟩, below2 HB.out (by omega) _ _⟩
      · show SrcN rL _ _ (st.made.map (gonF p))
        have hcur : CurR W' W0.heap.size (.slice av k cv) (gonK p st.made k) := (HC.out.same (W' := ((wr.setCell ⟨w.heap.size + 1, 0, none⟩ (.int .i64 nx)).setCell ⟨w.heap.size + 1, 1, none⟩ (.slice av k cv))) (fun j hj _ => other2 (by have := HLT1.out; omega) _ _)).same (fun j hj h2 => hW' j (by have := HLT1.out; omega) h2)
        have hs := hcur.src
        rw [show gonK p st.made k = st.made.map (gonF p) from by rw [← HN.out]; exact gonK_all p st.made] at hs
        exact hs
      · show (st.made.map (gonF p)).length ≤ 1000
        rw [List.length_map]; exact HL.out.few

end Go.Proofs.Ytinagiofolmhbaa
