/- The laws' book with one limit. -/
import Derived.Test.YtppfhcocmpmadaaPS
import Derived.Laws.CopyOwn
namespace Go.Proofs.Ytppfhcocmpmadaa
open Go.RowKit
set_option linter.unusedVariables false

set_option maxRecDepth 100000 in
set_option maxHeartbeats 400000 in
theorem book1_any (e a : Int) (g : Nat) (w : World) (hg : w.heap[g]? = some (.cells #[.int .i64 a] 3 (0, 0))) : Calls Try.prog 24 #[.int .i64 e, .slice (some ⟨g, 0, none⟩) 1 1] w fun x w' =>
    x = .returned (.agg (bk (lst [a]) (lst [e]))) ∧ Below w.heap.size w w' := by
  have hgl : g < w.heap.size := (Array.getElem?_eq_some_iff.1 hg).1
  have HZ : Hd (((w.alloc (.cells z8 27)).alloc (.cells z8 27)).heap[w.heap.size + 1]? = some (.cells z8.toList.toArray 27 (0, 0))) := ⟨two_new w _ _⟩
  have HS : Hd (∀ j v, [Value.int .i64 a][j]? = some v → ((w.alloc (.cells z8 27)).alloc (.cells z8 27)).cell? ((⟨g, 0, none⟩ : Addr).add j) = some v) := ⟨fun j v hj => by
    rw [plain_add, Nat.zero_add]
    have hB := ((Below.refl w.heap.size w).alloc (Nat.le_refl _) (.cells z8 27)).alloc (by simp) (.cells z8 27)
    rw [hB.cell (p := ⟨g, j, none⟩) hgl, cells_cell hg]
    simpa using hj⟩
  have HB0 : Hd (Below (w.heap.size + 1) (w.alloc (.cells z8 27)) ((w.alloc (.cells z8 27)).alloc (.cells z8 27))) := ⟨(Below.refl _ _).alloc (by simp) _⟩
  have HR0 : Hd ((w.alloc (.cells z8 27)).heap[w.heap.size]? = some (.cells z8 27 (0, 0))) := ⟨World.alloc_heap_new w _⟩
  have HW0 : Hd (Below w.heap.size w (w.alloc (.cells z8 27))) := ⟨(Below.refl _ _).alloc (Nat.le_refl _) _⟩
  clear hg
  go_enter Try.func24, Try.ntmps24
  go_wp2_with (refine wpList_copy_splice rfl (.tmp 8) (.tmp 9) 51 51 rfl 3 Try.underlying51 (by kernel_rfl) (some ⟨w.heap.size + 1, 0, none⟩) (some ⟨g, 0, none⟩) 4 4 1 1 rfl rfl (w.heap.size + 1) 0 z8.toList 27 HZ.out [.int .i64 a] rfl (fun _ => ⟨rfl, _, rfl, HS.out⟩) (by simp) (by simp [Value.oneCell']) (w.heap.size + 1) (w.alloc (.cells z8 27)) HB0.out (Nat.le_refl _) ?_)
  intro w3 H3 hB3
  have h3 : w3.heap[w.heap.size + 1]? = some (.cells #[.int .i64 a, .int .i64 0, .int .i64 0, .int .i64 0, .int .i64 0, .int .i64 0, .int .i64 0, .int .i64 0] 27 (0, 0)) := H3
  have hr3 := (hB3.block w.heap.size (by omega)).trans HR0.out
  have HB3 := Hd.mk hB3
  have HR3 := Hd.mk hr3
  have x0 := cells_cell h3 0
  have x1 := cells_cell h3 1
  have x2 := cells_cell h3 2
  have x3 := cells_cell h3 3
  have x4 := cells_cell h3 4
  have x5 := cells_cell h3 5
  have x6 := cells_cell h3 6
  have x7 := cells_cell h3 7
  have y4 := cells_free h3 4
  have hr3' : w3.heap[w.heap.size]? = some (.cells (bk zf zf) 27 (0, 0)) := hr3
  obtain ⟨⟨e0, e1, e2, e3, e4, e5, e6, e7⟩, ⟨f0, f1, f2, f3, f4, f5, f6, f7⟩⟩ := bk_cells hr3'
  simp at x0 x1 x2 x3 x4 x5 x6 x7
  clear H3 hB3 h3 hr3 hr3' HZ HS HB0 HR0
  go_wp2_with fail
  have HRES := bk_setall (lst [a]) (lst [e]) (L := zf) (U := zf) (g := w.heap.size) (t := 27) ((Below.heap_setCell w3 ⟨w.heap.size + 1, 4, none⟩ (.int .i64 e) w.heap.size (by simp)).trans HR3.out)
  refine bodyPost_ret (results_cell_row Try.results24 _ _ _ 27 (bk (lst [a]) (lst [e])) (0, 0) _ rfl HRES Try.underlying27 rfl (by kernel_rfl)) rfl ⟨rfl, ?_⟩
  exact set8_below ((HW0.out.trans (HB3.out.mono (by omega))).setCell (by simp) _) (lst [a]) (lst [e]) (Nat.le_refl _)
theorem s4_book (w : World) (g : Nat) (hg : w.heap[g]? = some (.cells #[.int .i64 5] 3 (0, 0))) : Calls Try.prog 24 #[.int .i64 9, .slice (some ⟨g, 0, none⟩) 1 1] w fun x w' =>
    x = .returned (v8 5 0 0 0 9 0 0 0) ∧ Below w.heap.size w w' :=
  (book1_any 9 5 g w hg).mono fun x w' ⟨he, hB⟩ => ⟨he.trans rfl, hB⟩
def s4L : Nat → Int := lst [5]
def s4U : Nat → Int := lst [9]
theorem s4_wrong : rightB s4L s4U = false := by decide
/-- The one that is not right: the first charge's kind is -1. -/
def bigN : List (Int × Int) := (List.range 4097).map fun j => (if j = 0 then -1 else ((j % 4 : Nat) : Int), bigA j)
theorem bigN_len : bigN.length = 4097 := by simp [bigN]
theorem bigN_get (j : Nat) (h : j < bigN.length) : bigN[j] = (if j = 0 then -1 else ((j % 4 : Nat) : Int), bigA j) := by simp [bigN]
theorem bigN_src {w : World} {base g : Nat} {xs : List Value} (h : w.ownsRow base 32 2 (.slice (some ⟨g, 0, none⟩) 4097 4097) 4097 xs) (hx : ∀ j, j < 4097 → BigAt xs j) : SrcC (w.setCell ⟨g, 0, none⟩ (.int .i64 (-1))) (.slice (some ⟨g, 0, none⟩) 4097 4097) bigN := by
  have ho := (h.stored 0 (.int .i64 (-1))).1
  have hxl : xs.length = 4097 * 2 := h.1
  refine .inr ⟨g, 0, 4097, by rw [bigN_len], by rw [bigN_len]; exact Nat.le_refl _, by simp [maxLen], (World.ownsRow.lt ho g rfl).2, fun j hj => ?_⟩
  have hj' : j < 4097 := by rwa [bigN_len] at hj
  rw [Nat.zero_add, bigN_get j hj, ho.cellAt (j * 2) (by omega), ho.cellAt (j * 2 + 1) (by omega)]
  obtain ⟨h1, h2⟩ := hx j hj'
  refine ⟨?_, ?_⟩
  · by_cases h0 : j = 0
    · rw [if_pos h0, h0, List.getElem?_set_self (by omega)]
    · rw [if_neg h0, List.getElem?_set_ne (by omega)]; exact h1
  · rw [List.getElem?_set_ne (by omega)]; exact h2
theorem s4_steps {L U : Nat → Int} {cs : List (Int × Int)} {f : Int} (h : bothV L U cs = f) (h0 : ¬ f = 0) (v : Value) (w : World) (hs : SrcC w v cs) :
    Calls Try.prog 13 #[.agg (bk L U), v] w fun e w' => e = .returned (.tuple #[v8 0 0 0 0 0 0 0 0, .int .i64 (-1), .int .i64 f]) ∧ Below w.heap.size w w' :=
  (steps_no L U v cs w hs (by rw [h]; exact h0)).mono fun e w' ⟨he, hB⟩ => ⟨he.trans (by rw [h]; rfl), hB⟩
theorem s4_bar {L U : Nat → Int} {cs : List (Int × Int)} {f : Int} (h : bothV L U cs = f) (h0 : ¬ f = 0) (v : Value) (w : World) (hs : SrcC w v cs) :
    Calls Try.prog 17 #[.agg (bk L U), v] w fun e w' => e = .returned (.tuple #[v8 0 0 0 0 0 0 0 0, .int .i64 (-1), .int .i64 f]) ∧ Below w.heap.size w w' :=
  (barrier_no L U v cs w hs (by rw [h]; exact h0)).mono fun e w' ⟨he, hB⟩ => ⟨he.trans (by rw [h]; rfl), hB⟩
theorem s4_peak {L U : Nat → Int} {cs : List (Int × Int)} {f : Int} (h : bothV L U cs = f) (h0 : ¬ f = 0) (v : Value) (w : World) (hs : SrcC w v cs) :
    Calls Try.prog 14 #[.agg (bk L U), v] w fun e w' => e = .returned (.tuple #[v4 0 0 0 0, .int .i64 f]) ∧ Below w.heap.size w w' :=
  (peak_no L U v cs w hs (by rw [h]; exact h0)).mono fun e w' ⟨he, hB⟩ => ⟨he.trans (by rw [h]; rfl), hB⟩
theorem s4_back {cs : List (Int × Int)} {f : Int} (h : chkV cs = f) (h0 : ¬ f = 0) (v : Value) (w : World) (hs : SrcC w v cs) :
    Calls Try.prog 20 #[v] w fun e w' => e = .returned (.tuple #[.slice none 0 0, .int .i64 f]) ∧ Below w.heap.size w w' :=
  (back_no v cs w hs (by rw [h]; exact h0)).mono fun e w' ⟨he, hB⟩ => ⟨he.trans (by rw [h]), hB⟩
theorem s4_sum {cs : List (Int × Int)} {f : Int} (h : chkV cs = f) (h0 : ¬ f = 0) (v : Value) (w : World) (hs : SrcC w v cs) :
    Calls Try.prog 18 #[v] w fun e w' => e = .returned (.tuple #[v4 0 0 0 0, .int .i64 f]) ∧ Below w.heap.size w w' :=
  (sum_no v cs w hs (by rw [h]; exact h0)).mono fun e w' ⟨he, hB⟩ => ⟨he.trans (by rw [h]; rfl), hB⟩
theorem s4_charges {cs : List (Int × Int)} {f : Int} (h : chkV cs = f) (h0 : ¬ f = 0) (v : Value) (w : World) (hs : SrcC w v cs) :
    Calls Try.prog 21 #[v] w fun e w' => e = .returned (.bool false) ∧ Below w.heap.size w w' :=
  (charges_any v cs w hs).mono fun e w' ⟨he, hB⟩ => ⟨he.trans (by rw [h]; simp [h0]), hB⟩
theorem bigC_long : 4096 < bigC.length := by rw [bigC_len]; omega
theorem bigN_long : 4096 < bigN.length := by rw [bigN_len]; omega
end Go.Proofs.Ytppfhcocmpmadaa
