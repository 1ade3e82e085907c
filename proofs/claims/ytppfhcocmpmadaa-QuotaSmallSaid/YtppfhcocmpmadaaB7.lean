/- Contracts at literal books and charges, as the chapter's examples have them. -/
import Derived.Test.YtppfhcocmpmadaaB6
namespace Go.Proofs.Ytppfhcocmpmadaa
open Go.RowKit
set_option linter.unusedVariables false

theorem keep {W W' : World} {g : Nat} {o : Obj} (h : W.heap[g]? = some o) (hB : Below W.heap.size W W') : W'.heap[g]? = some o := (hB.block _ (lt_of_heap h)).trans h
theorem srcLit (w : World) (cs : List (Int × Int)) (hl : cs.length ≤ 100) : SrcC (w.alloc (.cells (flat cs).toArray 32)) (.slice (some ⟨w.heap.size, 0, none⟩) cs.length cs.length) cs := by
  refine .inr ⟨w.heap.size, 0, cs.length, rfl, Nat.le_refl _, by simp only [maxLen]; omega, by simp, fun j hj => ?_⟩
  obtain ⟨h1, h2⟩ := flat_get cs j hj
  rw [cells_cell (World.alloc_heap_new w _), cells_cell (World.alloc_heap_new w _)]
  simp only [Nat.zero_add, List.getElem?_toArray]
  exact ⟨h1, h2⟩
theorem lit8 {W : World} {g : Nat} {t : TypeId} {a0 a1 a2 a3 a4 a5 a6 a7 : Int} (h : W.heap[g]? = some (.cells #[.int .i64 a0, .int .i64 a1, .int .i64 a2, .int .i64 a3, .int .i64 a4, .int .i64 a5, .int .i64 a6, .int .i64 a7] t (0, 0))) :
    W.cell? ⟨g, 0, none⟩ = some (.int .i64 a0) ∧ W.cell? ⟨g, 1, none⟩ = some (.int .i64 a1) ∧ W.cell? ⟨g, 2, none⟩ = some (.int .i64 a2) ∧ W.cell? ⟨g, 3, none⟩ = some (.int .i64 a3) ∧
    W.cell? ⟨g, 4, none⟩ = some (.int .i64 a4) ∧ W.cell? ⟨g, 5, none⟩ = some (.int .i64 a5) ∧ W.cell? ⟨g, 6, none⟩ = some (.int .i64 a6) ∧ W.cell? ⟨g, 7, none⟩ = some (.int .i64 a7) :=
  ⟨cells_cell h 0, cells_cell h 1, cells_cell h 2, cells_cell h 3, cells_cell h 4, cells_cell h 5, cells_cell h 6, cells_cell h 7⟩
theorem lit4 {W : World} {g : Nat} {t : TypeId} {a0 a1 a2 a3 : Int} (h : W.heap[g]? = some (.cells #[.int .i64 a0, .int .i64 a1, .int .i64 a2, .int .i64 a3] t (0, 0))) :
    W.cell? ⟨g, 0, none⟩ = some (.int .i64 a0) ∧ W.cell? ⟨g, 1, none⟩ = some (.int .i64 a1) ∧ W.cell? ⟨g, 2, none⟩ = some (.int .i64 a2) ∧ W.cell? ⟨g, 3, none⟩ = some (.int .i64 a3) :=
  ⟨cells_cell h 0, cells_cell h 1, cells_cell h 2, cells_cell h 3⟩

@[reducible] def v8 (a0 a1 a2 a3 a4 a5 a6 a7 : Int) : Value := .agg #[.int .i64 a0, .int .i64 a1, .int .i64 a2, .int .i64 a3, .int .i64 a4, .int .i64 a5, .int .i64 a6, .int .i64 a7]
@[reducible] def v4 (a0 a1 a2 a3 : Int) : Value := .agg #[.int .i64 a0, .int .i64 a1, .int .i64 a2, .int .i64 a3]
def L0 : Nat → Int := lst [10, 5, 3, 8]

theorem aw_new (w : World) : Calls Try.prog 25 #[v4 10 5 3 8] w fun e w' => e = .returned (.tuple #[v8 10 5 3 8 0 0 0 0, .int .i64 0]) ∧ Below w.heap.size w w' :=
  (new_any L0 w).mono fun e w' ⟨h, hB⟩ => ⟨h.trans (by kernel_rfl), hB⟩
theorem aw_steps1 (v : Value) (w : World) (hs : SrcC w v [(0, 7), (0, -2), (0, 5)]) : Calls Try.prog 13 #[v8 10 5 3 8 0 0 0 0, v] w fun e w' => e = .returned (.tuple #[v8 10 5 3 8 10 0 0 0, .int .i64 (-1), .int .i64 0]) ∧ Below w.heap.size w w' :=
  (steps_yes L0 zf v [(0, 7), (0, -2), (0, 5)] 3 ⟨by decide, by decide +kernel, by decide⟩ w hs (by decide +kernel)).mono fun e w' ⟨h, hB⟩ => ⟨h.trans (by kernel_rfl), hB⟩
theorem aw_steps2 (v : Value) (w : World) (hs : SrcC w v [(0, 7), (0, 5), (0, -4)]) : Calls Try.prog 13 #[v8 10 5 3 8 0 0 0 0, v] w fun e w' => e = .returned (.tuple #[v8 0 0 0 0 0 0 0 0, .int .i64 1, .int .i64 252]) ∧ Below w.heap.size w w' :=
  (steps_yes L0 zf v [(0, 7), (0, 5), (0, -4)] 1 ⟨by decide, by decide +kernel, by decide +kernel⟩ w hs (by decide +kernel)).mono fun e w' ⟨h, hB⟩ => ⟨h.trans (by kernel_rfl), hB⟩
theorem aw_steps3 (v : Value) (w : World) (hs : SrcC w v [(2, -1)]) : Calls Try.prog 13 #[v8 10 5 3 8 0 0 0 0, v] w fun e w' => e = .returned (.tuple #[v8 0 0 0 0 0 0 0 0, .int .i64 0, .int .i64 253]) ∧ Below w.heap.size w w' :=
  (steps_yes L0 zf v [(2, -1)] 0 ⟨by decide, by decide +kernel, by decide +kernel⟩ w hs (by decide +kernel)).mono fun e w' ⟨h, hB⟩ => ⟨h.trans (by kernel_rfl), hB⟩
theorem aw_barrier (v : Value) (w : World) (hs : SrcC w v [(0, 7), (0, 5), (0, -4)]) : Calls Try.prog 17 #[v8 10 5 3 8 0 0 0 0, v] w fun e w' => e = .returned (.tuple #[v8 10 5 3 8 8 0 0 0, .int .i64 (-1), .int .i64 0]) ∧ Below w.heap.size w w' :=
  (barrier_yes L0 zf v [(0, 7), (0, 5), (0, -4)] w hs (by decide +kernel)).mono fun e w' ⟨h, hB⟩ => ⟨h.trans (by kernel_rfl), hB⟩
theorem aw_peak (v : Value) (w : World) (hs : SrcC w v [(0, 7), (0, 5), (0, -4)]) : Calls Try.prog 14 #[v8 10 5 3 8 0 0 0 0, v] w fun e w' => e = .returned (.tuple #[v4 12 0 0 0, .int .i64 0]) ∧ Below w.heap.size w w' :=
  (peak_yes L0 zf v [(0, 7), (0, 5), (0, -4)] w hs (by decide +kernel)).mono fun e w' ⟨h, hB⟩ => ⟨h.trans (by kernel_rfl), hB⟩
theorem aw_back (v : Value) (w : World) (hs : SrcC w v [(0, 7), (1, -2)]) : Calls Try.prog 20 #[v] w fun e w' => ∃ v', e = .returned (.tuple #[v', .int .i64 0]) ∧ SrcC w' v' [(1, 2), (0, -7)] ∧ Below w.heap.size w w' :=
  (back_yes v [(0, 7), (1, -2)] w hs (by decide +kernel)).mono fun e w' ⟨v', h, ho, hB⟩ => ⟨v', h, ho.src, hB⟩
theorem aw_limit (w : World) : Calls Try.prog 15 #[v8 10 5 3 8 0 0 0 0, .int .i64 2, .int .i64 2] w fun e w' => e = .returned (.tuple #[v8 10 5 2 8 0 0 0 0, .int .i64 0]) ∧ Below w.heap.size w w' :=
  (limit_any L0 zf 2 2 w).mono fun e w' ⟨h, hB⟩ => ⟨h.trans (by kernel_rfl), hB⟩
theorem aw_room (w : World) : Calls Try.prog 16 #[v8 10 5 2 8 0 0 0 0, .int .i64 2] w fun e w' => e = .returned (.tuple #[.int .i64 2, .int .i64 0]) ∧ Below w.heap.size w w' :=
  (room_any (upd L0 2 2) zf 2 w).mono fun e w' ⟨h, hB⟩ => ⟨h.trans (by kernel_rfl), hB⟩
theorem aw_name (w : World) : Calls Try.prog 22 #[.int .i64 3] w fun e w' => e = .returned (.string ⟨#[104, 97, 110, 100, 108, 101, 115]⟩) ∧ Below w.heap.size w w' := name_any 3 w
theorem aw_book (e : Int) (w : World) : Calls Try.prog 24 #[.int .i64 e, .slice (some ⟨w.heap.size, 0, none⟩) 4 4] (w.alloc (.cells #[.int .i64 10, .int .i64 5, .int .i64 3, .int .i64 8] 3)) fun x w' => x = .returned (v8 10 5 3 8 e 0 0 0) ∧ Below w.heap.size w w' :=
  (book_any e 10 5 3 8 w.heap.size _ (World.alloc_heap_new w _)).mono fun x w' ⟨h, hB⟩ => ⟨h, ((Below.refl _ _).alloc (Nat.le_refl _) _).trans (hB.mono (by simp))⟩
theorem aw_eqb (e : Int) (W : World) : (binOp .eql 27 (v8 10 5 3 8 e 0 0 0) (v8 10 5 3 8 e 0 0 0)).run Try.prog W = .ok (.bool true) W := by
  have := eqv_bk L0 (lst [e]) L0 (lst [e]) W
  rw [eq4_self, eq4_self] at this
  exact this
theorem aw_eqp (W : World) : (binOp .eql 25 (v4 12 0 0 0) (v4 12 0 0 0)).run Try.prog W = .ok (.bool true) W := by
  have := eqv_ar (lst [12]) (lst [12]) W
  rw [eq4_self] at this
  exact this
end Go.Proofs.Ytppfhcocmpmadaa
