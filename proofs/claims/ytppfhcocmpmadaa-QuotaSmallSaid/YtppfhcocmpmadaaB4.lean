/- Walks of slices.Equal and slices.Clone of charges, of the laws' book. -/
import Derived.Test.YtppfhcocmpmadaaB3
import Derived.Test.YtppfhcocmpmadaaEq
import Derived.Laws.CopyOwn
namespace Go.Proofs.Ytppfhcocmpmadaa
open Go.RowKit
set_option linter.unusedVariables false

theorem guard32 : Try.prog.eqGuardType Try.prog.depth 32 = false := by kernel_rfl
theorem guard27 : Try.prog.eqGuardType Try.prog.depth 27 = false := by kernel_rfl
theorem guard25 : Try.prog.eqGuardType Try.prog.depth 25 = false := by kernel_rfl

set_option maxRecDepth 100000 in
set_option maxHeartbeats 400000 in
theorem equalC_any (v1 v2 : Value) (cs ds : List (Int × Int)) (w : World) (h1 : SrcC w v1 cs) (h2 : SrcC w v2 ds) : Calls Try.prog 26 #[v1, v2] w fun e w' => e = .returned (.bool (decide (cs = ds))) ∧ Below w.heap.size w w' := by
  have b1 := h1.small
  have b2 := h2.small
  obtain ⟨a1, c1, rfl⟩ := h1.shape
  obtain ⟨a2, c2, rfl⟩ := h2.shape
  have H1 := Hd.mk h1
  have H2 := Hd.mk h2
  clear h1 h2
  by_cases hl : cs.length = ds.length
  · have HL := Hd.mk hl
    rw [← hl]
    rw [← hl] at H2 b2
    clear hl b2
    go_enter Try.func26, Try.ntmps26
    go_wp2_with fail
    go_loopw [13] (fun i W => ∃ k : Nat, k ≤ cs.length ∧ i = .int .i64 k ∧ Hd (cs.take k = ds.take k) ∧ Below w.heap.size w W) (fun i _ => cs.length - (intOf i).toNat)
    case atStart => exact ⟨0, by omega, rfl, ⟨by simp⟩, Below.refl _ _⟩
    case round =>
      obtain ⟨k, hk, rfl, HK, hB⟩ := hrel
      by_cases hlt : k < cs.length
      · have hlt2 : k < ds.length := by have := HL.out; omega
        obtain ⟨x, offx, rfl, hx, hx1, hx2⟩ := (H1.out.below hB).at k hlt
        obtain ⟨y, offy, rfl, hy, hy1, hy2⟩ := (H2.out.below hB).at k hlt2
        have hnev := fun W => nev_ch cs[k].1 cs[k].2 ds[k].1 ds[k].2 W
        have hgd := guard32
        have HT : Hd ((cs[k].1 == ds[k].1 && cs[k].2 == ds[k].2) = decide (cs[k] = ds[k])) := ⟨by
          rw [Bool.eq_iff_iff, Bool.and_eq_true, beq_iff_eq, beq_iff_eq, decide_eq_true_eq, Prod.ext_iff]⟩
        rw [HT.out] at hnev
        obtain ⟨p, hp⟩ : ∃ p, cs[k].1 = p := ⟨_, rfl⟩
        obtain ⟨q, hq⟩ : ∃ p, cs[k].2 = p := ⟨_, rfl⟩
        obtain ⟨p', hp'⟩ : ∃ p, ds[k].1 = p := ⟨_, rfl⟩
        obtain ⟨q', hq'⟩ : ∃ p, ds[k].2 = p := ⟨_, rfl⟩
        rw [hp] at hx1 hnev
        rw [hq] at hx2 hnev
        rw [hp'] at hy1 hnev
        rw [hq'] at hy2 hnev
        clear hp hq hp' hq' HT
        by_cases he : cs[k] = ds[k]
        · rw [decide_eq_true he] at hnev
          have HN : Hd (cs.take (k + 1) = ds.take (k + 1)) := ⟨by rw [List.take_succ_eq_append_getElem hlt, List.take_succ_eq_append_getElem hlt2, HK.out, he]⟩
          clear he HK
          go_wp2_with fail
          go_quiet (fail)
          go_wp2_with fail
          go_roundw
          case rel => exact ⟨k + 1, by omega, by go_num, HN, below_drewN hB _⟩
          case measure => simp [intOf]; omega
        · rw [decide_eq_false he] at hnev
          have HN : Hd (decide (cs = ds) = false) := ⟨decide_eq_false fun h => he (by subst h; rfl)⟩
          clear he HK
          go_wp2_with fail
          go_quiet (fail)
          go_wp2_with fail
          go_ret
          exact ⟨by rw [HN.out]; rfl, below_drewN hB _⟩
      · obtain rfl : k = cs.length := by omega
        have HN : Hd (decide (cs = ds) = true) := ⟨decide_eq_true (by have := HK.out; rw [List.take_length, HL.out, List.take_length] at this; exact this)⟩
        clear HK
        go_wp2_with fail
        go_ret
        exact ⟨by rw [HN.out]; rfl, hB⟩
  · have HN : Hd (decide (cs = ds) = false) := ⟨decide_eq_false fun h => hl (by rw [h])⟩
    go_enter Try.func26, Try.ntmps26
    go_wp2_with fail
    go_ret
    exact ⟨by rw [HN.out]; rfl, Below.refl _ _⟩

set_option maxRecDepth 100000 in
set_option maxHeartbeats 400000 in
theorem clone_any (v : Value) (cs : List (Int × Int)) (w : World) (h : SrcC w v cs) (hl : cs.length ≤ 1000000) : Calls Try.prog 33 #[v] w fun e w' => ∃ v', e = .returned v' ∧ OwnC w' w.heap.size 32 v' cs ∧ Below w.heap.size w w' := by
  have hsm := h.small
  obtain ⟨a, c, rfl⟩ := h.shape
  cases a with
  | none =>
    have hcs : cs = [] := by
      rcases h with ⟨rfl, _⟩ | ⟨b, off, c', hv, _⟩
      · rfl
      · simp at hv
    subst hcs
    have hc0 : c = 0 := by
      rcases h with ⟨_, a', c', hv, hc⟩ | ⟨b, off, c', hv, _⟩
      · simp only [Value.slice.injEq] at hv; rw [hv.2.2]; exact hc hv.1.symm
      · simp at hv
    subst hc0
    clear h
    have heq : ∀ W : World, (binOp .eql 28 (.slice none 0 0) (.slice none 0 0)).run Try.prog W = .ok (.bool true) W := fun W => run_eql_nil_slice W 28 32 none 0 0 0 0 Try.underlying28
    go_enter Try.func33, Try.ntmps33
    go_wp2_with fail
    go_ret
    exact ⟨_, rfl, OwnC.nil _ _ _, Below.refl _ _⟩
  | some ad =>
    have hB := (Below.refl w.heap.size w).alloc (Nat.le_refl _) (.cells #[] 32)
    obtain ⟨v', w', hr, ho, hg⟩ := append_c (OwnC.made w w.heap.size 32 (Nat.le_refl _)) (by simp) (h.below hB) (by simpa using hl)
    have HO := Hd.mk (show OwnC w' w.heap.size 32 v' cs by simpa using ho)
    have HB := Hd.mk ((OwnC.made w w.heap.size 32 (Nat.le_refl _)).grown hB (by simp) hg)
    clear h ho hg hB
    have heq : ∀ W : World, (binOp .eql 28 (.slice (some ad) cs.length c) (.slice none 0 0)).run Try.prog W = .ok (.bool false) W := fun W => Lib.run_eql_slice_nil W 28 32 (some ad) _ _ 0 0 Try.underlying28
    go_enter Try.func33, Try.ntmps33
    go_wp2_with (at_builtin; refine wpList_append_run rfl _ _ _ rfl rfl rfl hr ?_; clear hr)
    go_ret
    exact ⟨_, rfl, HO.out, HB.out⟩

/-- The numbers of a list. -/
def lst (l : List Int) : Nat → Int := fun j => l.getD j 0
@[reducible] def z8 : Array Value := #[.int .i64 0, .int .i64 0, .int .i64 0, .int .i64 0, .int .i64 0, .int .i64 0, .int .i64 0, .int .i64 0]
set_option maxRecDepth 100000 in
set_option maxHeartbeats 400000 in
theorem book_any (e a b c d : Int) (g : Nat) (w : World) (hg : w.heap[g]? = some (.cells #[.int .i64 a, .int .i64 b, .int .i64 c, .int .i64 d] 3 (0, 0))) : Calls Try.prog 24 #[.int .i64 e, .slice (some ⟨g, 0, none⟩) 4 4] w fun x w' =>
    x = .returned (.agg (bk (lst [a, b, c, d]) (lst [e]))) ∧ Below w.heap.size w w' := by
  have hgl : g < w.heap.size := (Array.getElem?_eq_some_iff.1 hg).1
  have HZ : Hd (((w.alloc (.cells z8 27)).alloc (.cells z8 27)).heap[w.heap.size + 1]? = some (.cells z8.toList.toArray 27 (0, 0))) := ⟨two_new w _ _⟩
  have HS : Hd (∀ j v, [Value.int .i64 a, .int .i64 b, .int .i64 c, .int .i64 d][j]? = some v → ((w.alloc (.cells z8 27)).alloc (.cells z8 27)).cell? ((⟨g, 0, none⟩ : Addr).add j) = some v) := ⟨fun j v hj => by
    rw [plain_add, Nat.zero_add]
    have hB := ((Below.refl w.heap.size w).alloc (Nat.le_refl _) (.cells z8 27)).alloc (by simp) (.cells z8 27)
    rw [hB.cell (p := ⟨g, j, none⟩) hgl, cells_cell hg]
    simpa using hj⟩
  have HB0 : Hd (Below (w.heap.size + 1) (w.alloc (.cells z8 27)) ((w.alloc (.cells z8 27)).alloc (.cells z8 27))) := ⟨(Below.refl _ _).alloc (by simp) _⟩
  have HR0 : Hd ((w.alloc (.cells z8 27)).heap[w.heap.size]? = some (.cells z8 27 (0, 0))) := ⟨World.alloc_heap_new w _⟩
  have HW0 : Hd (Below w.heap.size w (w.alloc (.cells z8 27))) := ⟨(Below.refl _ _).alloc (Nat.le_refl _) _⟩
  clear hg
  go_enter Try.func24, Try.ntmps24
  go_wp2_with (refine wpList_copy_splice rfl (.tmp 8) (.tmp 9) 51 51 rfl 3 Try.underlying51 (by kernel_rfl) (some ⟨w.heap.size + 1, 0, none⟩) (some ⟨g, 0, none⟩) 4 4 4 4 rfl rfl (w.heap.size + 1) 0 z8.toList 27 HZ.out [.int .i64 a, .int .i64 b, .int .i64 c, .int .i64 d] rfl (fun _ => ⟨rfl, _, rfl, HS.out⟩) (by simp) (by simp [Value.oneCell']) (w.heap.size + 1) (w.alloc (.cells z8 27)) HB0.out (Nat.le_refl _) ?_)
  intro w3 H3 hB3
  have h3 : w3.heap[w.heap.size + 1]? = some (.cells #[.int .i64 a, .int .i64 b, .int .i64 c, .int .i64 d, .int .i64 0, .int .i64 0, .int .i64 0, .int .i64 0] 27 (0, 0)) := H3
  have hr3 := (hB3.block w.heap.size (by omega)).trans HR0.out
  have HB3 := Hd.mk hB3
  have HR3 := Hd.mk hr3
  have x0 := cells_cell h3 0
  have x1 := cells_cell h3 1
  have x2 := cells_cell h3 2
  have x3 := cells_cell h3 3
  have x4 := cells_cell h3 4
  have x5 := cells_cell h3 5
  have x6 := cells_cell h3 6
  have x7 := cells_cell h3 7
  have y4 := cells_free h3 4
  have hr3' : w3.heap[w.heap.size]? = some (.cells (bk zf zf) 27 (0, 0)) := hr3
  obtain ⟨⟨e0, e1, e2, e3, e4, e5, e6, e7⟩, ⟨f0, f1, f2, f3, f4, f5, f6, f7⟩⟩ := bk_cells hr3'
  simp at x0 x1 x2 x3 x4 x5 x6 x7
  clear H3 hB3 h3 hr3 hr3' HZ HS HB0 HR0
  go_wp2_with fail
  have HRES := bk_setall (lst [a, b, c, d]) (lst [e]) (L := zf) (U := zf) (g := w.heap.size) (t := 27) ((Below.heap_setCell w3 ⟨w.heap.size + 1, 4, none⟩ (.int .i64 e) w.heap.size (by simp)).trans HR3.out)
  refine bodyPost_ret (results_cell_row Try.results24 _ _ _ 27 (bk (lst [a, b, c, d]) (lst [e])) (0, 0) _ rfl HRES Try.underlying27 rfl (by kernel_rfl)) rfl ⟨rfl, ?_⟩
  exact set8_below ((HW0.out.trans (HB3.out.mono (by omega))).setCell (by simp) _) (lst [a, b, c, d]) (lst [e]) (Nat.le_refl _)
end Go.Proofs.Ytppfhcocmpmadaa
