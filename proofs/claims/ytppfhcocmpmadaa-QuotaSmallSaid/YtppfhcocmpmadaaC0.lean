/- Lemmas and contracts that the walks of the quota laws share. -/
import Derived.Test.YtppfhcocmpmadaaB9
import Derived.Deep.RegionHeld3
import Derived.Deep.DeepCutAuto
import Derived.Deep.QuietTactic
import Derived.BigQuiet
namespace Go.Proofs.Ytppfhcocmpmadaa
open Go.RowKit
set_option linter.unusedVariables false

theorem push2 (w : World) (o1 o2 : Obj) : (∀ x, x < w.heap.size → ((w.alloc o1).alloc o2).heap[x]? = w.heap[x]?) ∧ ((w.alloc o1).alloc o2).heap[w.heap.size]? = some o1 ∧ ((w.alloc o1).alloc o2).heap[w.heap.size + 1]? = some o2 := by
  obtain ⟨h0, h1, h2, -⟩ := push3 w o1 o2 o2
  refine ⟨fun x hx => ?_, ?_, two_new w o1 o2⟩
  · rw [Below.heap_alloc _ _ _ (by simp; omega), Below.heap_alloc _ _ _ hx]
  · rw [Below.heap_alloc _ _ _ (by simp), World.alloc_heap_new]
theorem a8_cells {W : World} {g : Nat} {t : TypeId} {f : Nat → Int} (h : W.heap[g]? = some (.cells (a8 f) t (0, 0))) :
    W.cell? ⟨g, 0, none⟩ = some (.int .u8 (f 0)) ∧ W.cell? ⟨g, 1, none⟩ = some (.int .u8 (f 1)) ∧ W.cell? ⟨g, 2, none⟩ = some (.int .u8 (f 2)) ∧ W.cell? ⟨g, 3, none⟩ = some (.int .u8 (f 3)) :=
  ⟨cells_cell h 0, cells_cell h 1, cells_cell h 2, cells_cell h 3⟩
def AwakeC : Prop := ∀ w : World, Calls Try.prog 11 #[] w fun e w' => e = .returned (.bool true) ∧ Below w.heap.size w w'

theorem room_ok (L U : Nat → Int) (hr : rightB L U = true) (j : Nat) (hj : j < 4) (l u : Int) (hl : L j = l) (hu : U j = u) (w : World) :
    Calls Try.prog 16 #[.agg (bk L U), .int .i64 (j : Int)] w fun e w' => e = .returned (.tuple #[.int .i64 (l - u), .int .i64 0]) ∧ Below w.heap.size w w' := by
  refine (room_any L U j w).mono fun e w' ⟨he, hB⟩ => ⟨he.trans ?_, hB⟩
  rw [roomV, if_pos hr, if_pos ((isB_iff _).2 ⟨by omega, by omega⟩), Int.toNat_natCast, hl, hu]

theorem h9_keep {B W W' : World} {g j : Nat} {L U : Nat → Int} {u : Int} (h : W.cell? ⟨g, 0, none⟩ = some (.int .i64 (L 0)) ∧ W.cell? ⟨g, 1, none⟩ = some (.int .i64 (L 1)) ∧ W.cell? ⟨g, 2, none⟩ = some (.int .i64 (L 2)) ∧ W.cell? ⟨g, 3, none⟩ = some (.int .i64 (L 3)) ∧ W.cell? ⟨g, 4, none⟩ = some (.int .i64 (U 0)) ∧ W.cell? ⟨g, 5, none⟩ = some (.int .i64 (U 1)) ∧ W.cell? ⟨g, 6, none⟩ = some (.int .i64 (U 2)) ∧ W.cell? ⟨g, 7, none⟩ = some (.int .i64 (U 3)) ∧ W.cell? ⟨g, 4 + j, none⟩ = some (.int .i64 u) ∧ Below B.heap.size B W) (hB : Below W.heap.size W W') :
    W'.cell? ⟨g, 0, none⟩ = some (.int .i64 (L 0)) ∧ W'.cell? ⟨g, 1, none⟩ = some (.int .i64 (L 1)) ∧ W'.cell? ⟨g, 2, none⟩ = some (.int .i64 (L 2)) ∧ W'.cell? ⟨g, 3, none⟩ = some (.int .i64 (L 3)) ∧ W'.cell? ⟨g, 4, none⟩ = some (.int .i64 (U 0)) ∧ W'.cell? ⟨g, 5, none⟩ = some (.int .i64 (U 1)) ∧ W'.cell? ⟨g, 6, none⟩ = some (.int .i64 (U 2)) ∧ W'.cell? ⟨g, 7, none⟩ = some (.int .i64 (U 3)) ∧ W'.cell? ⟨g, 4 + j, none⟩ = some (.int .i64 u) ∧ Below B.heap.size B W' := by
  obtain ⟨h0, h1, h2, h3, h4, h5, h6, h7, h8, h9⟩ := h
  exact ⟨(hB.cell (p := ⟨g, 0, none⟩) (World.block_lt_of_cell? _ _ h0)).trans h0, (hB.cell (p := ⟨g, 1, none⟩) (World.block_lt_of_cell? _ _ h1)).trans h1, (hB.cell (p := ⟨g, 2, none⟩) (World.block_lt_of_cell? _ _ h2)).trans h2, (hB.cell (p := ⟨g, 3, none⟩) (World.block_lt_of_cell? _ _ h3)).trans h3, (hB.cell (p := ⟨g, 4, none⟩) (World.block_lt_of_cell? _ _ h4)).trans h4, (hB.cell (p := ⟨g, 5, none⟩) (World.block_lt_of_cell? _ _ h5)).trans h5, (hB.cell (p := ⟨g, 6, none⟩) (World.block_lt_of_cell? _ _ h6)).trans h6, (hB.cell (p := ⟨g, 7, none⟩) (World.block_lt_of_cell? _ _ h7)).trans h7, (hB.cell (p := ⟨g, 4 + j, none⟩) (World.block_lt_of_cell? _ _ h8)).trans h8, ch4 h9 hB⟩
theorem h9_below {B W : World} {g j : Nat} {L U : Nat → Int} {u : Int} (h : W.cell? ⟨g, 0, none⟩ = some (.int .i64 (L 0)) ∧ W.cell? ⟨g, 1, none⟩ = some (.int .i64 (L 1)) ∧ W.cell? ⟨g, 2, none⟩ = some (.int .i64 (L 2)) ∧ W.cell? ⟨g, 3, none⟩ = some (.int .i64 (L 3)) ∧ W.cell? ⟨g, 4, none⟩ = some (.int .i64 (U 0)) ∧ W.cell? ⟨g, 5, none⟩ = some (.int .i64 (U 1)) ∧ W.cell? ⟨g, 6, none⟩ = some (.int .i64 (U 2)) ∧ W.cell? ⟨g, 7, none⟩ = some (.int .i64 (U 3)) ∧ W.cell? ⟨g, 4 + j, none⟩ = some (.int .i64 u) ∧ Below B.heap.size B W) : Below B.heap.size B W := by
  obtain ⟨h0, h1, h2, h3, h4, h5, h6, h7, h8, h9⟩ := h
  exact h9
theorem h9_of {B : World} {g j : Nat} {L U : Nat → Int} {u : Int} (hj : j < 4) (hu : U j = u) (h : B.heap[g]? = some (.cells (bk L U) 27 (0, 0))) :
    B.cell? ⟨g, 0, none⟩ = some (.int .i64 (L 0)) ∧ B.cell? ⟨g, 1, none⟩ = some (.int .i64 (L 1)) ∧ B.cell? ⟨g, 2, none⟩ = some (.int .i64 (L 2)) ∧ B.cell? ⟨g, 3, none⟩ = some (.int .i64 (L 3)) ∧ B.cell? ⟨g, 4, none⟩ = some (.int .i64 (U 0)) ∧ B.cell? ⟨g, 5, none⟩ = some (.int .i64 (U 1)) ∧ B.cell? ⟨g, 6, none⟩ = some (.int .i64 (U 2)) ∧ B.cell? ⟨g, 7, none⟩ = some (.int .i64 (U 3)) ∧ B.cell? ⟨g, 4 + j, none⟩ = some (.int .i64 u) ∧ Below B.heap.size B B := by
  obtain ⟨⟨c0, c1, c2, c3, c4, c5, c6, c7⟩, -⟩ := bk_cells h
  exact ⟨c0, c1, c2, c3, c4, c5, c6, c7, ((cells_cell h (4 + j)).trans (bk_use L U j hj)).trans (by rw [hu]), Below.refl _ _⟩

theorem drew_new (W : World) (o : Obj) : (W.alloc o).drew.heap[W.heap.size]? = some o := World.alloc_heap_new W o
theorem two_old (W : World) (o o' : Obj) : ((W.alloc o).alloc o').heap[W.heap.size]? = some o := (Below.heap_alloc _ _ _ (by simp)).trans (World.alloc_heap_new _ _)
theorem two_newd (W : World) (o o' : Obj) : ((W.alloc o).alloc o').drew.heap[W.heap.size + 1]? = some o' := two_new W o o'
theorem bl_alloc {B W : World} {o : Obj} (h : Below B.heap.size B W) : Below B.heap.size B (W.alloc o) := h.alloc h.size _
theorem bl_drew {B W : World} (h : Below B.heap.size B W) : Below B.heap.size B W.drew := h.drew
theorem bl_set {B W : World} {p : Addr} (h : Below B.heap.size B W) (hp : B.heap.size ≤ p.block) (v : Value) : Below B.heap.size B (W.setCell p v) := h.setCell hp v
theorem bl_call {B W W' : World} (h : Below W.heap.size W W') (h' : Below B.heap.size B W) : Below B.heap.size B W' := ch4 h' h
theorem z_cells {W : World} {g : Nat} (h : W.heap[g]? = some (.cells #[.int .i64 0, .int .i64 0, .int .i64 0, .int .i64 0, .int .i64 0, .int .i64 0, .int .i64 0, .int .i64 0] 27 (0, 0))) :
    (W.cell? ⟨g, 0, none⟩ = some (.int .i64 0) ∧ W.cell? ⟨g, 1, none⟩ = some (.int .i64 0) ∧ W.cell? ⟨g, 2, none⟩ = some (.int .i64 0) ∧ W.cell? ⟨g, 3, none⟩ = some (.int .i64 0) ∧ W.cell? ⟨g, 4, none⟩ = some (.int .i64 0) ∧ W.cell? ⟨g, 5, none⟩ = some (.int .i64 0) ∧ W.cell? ⟨g, 6, none⟩ = some (.int .i64 0) ∧ W.cell? ⟨g, 7, none⟩ = some (.int .i64 0)) ∧
    (W.frozen? ⟨g, 0, none⟩ = false ∧ W.frozen? ⟨g, 1, none⟩ = false ∧ W.frozen? ⟨g, 2, none⟩ = false ∧ W.frozen? ⟨g, 3, none⟩ = false ∧ W.frozen? ⟨g, 4, none⟩ = false ∧ W.frozen? ⟨g, 5, none⟩ = false ∧ W.frozen? ⟨g, 6, none⟩ = false ∧ W.frozen? ⟨g, 7, none⟩ = false) :=
  ⟨⟨cells_cell h 0, cells_cell h 1, cells_cell h 2, cells_cell h 3, cells_cell h 4, cells_cell h 5, cells_cell h 6, cells_cell h 7⟩, ⟨cells_free h 0, cells_free h 1, cells_free h 2, cells_free h 3, cells_free h 4, cells_free h 5, cells_free h 6, cells_free h 7⟩⟩
theorem set_bk {W : World} {g : Nat} (C D : Nat → Int) (h : W.heap[g]? = some (.cells #[.int .i64 0, .int .i64 0, .int .i64 0, .int .i64 0, .int .i64 0, .int .i64 0, .int .i64 0, .int .i64 0] 27 (0, 0))) :
    (set8 W g C D).heap[g]? = some (.cells (bk C D) 27 (0, 0)) := bk_setall (L := zf) (U := zf) C D h
theorem upd_right {L U : Nat → Int} (hm : MB L U) {j : Nat} (hj : j < 4) {u : Int} (hu : U j = u) : rightB (upd L j u) U = true := right_iff.2 fun i hi => by
  have h1 := hm.lim i hi
  have h2 := hm.use i hi
  unfold upd
  by_cases e : i = j
  · subst e; rw [if_pos rfl]; omega
  · rw [if_neg e]; omega
/-- A limit that is what is used. -/
theorem limit_okR (L U Y : Nat → Int) (hm : MB L U) (j : Nat) (hj : j < 4) (u : Int) (hu : U j = u) (hY : upd L j u = Y) (w : World) :
    Calls Try.prog 15 #[.agg (bk L U), .int .i64 (j : Int), .int .i64 u] w fun e w' => e = .returned (.tuple #[v8 (Y 0) (Y 1) (Y 2) (Y 3) (U 0) (U 1) (U 2) (U 3), .int .i64 0]) ∧ Below w.heap.size w w' := by
  refine (limit_any L U j u w).mono fun e w' ⟨he, hB⟩ => ⟨he.trans ?_, hB⟩
  rw [limR, if_neg (by rw [hm.right]; decide), if_neg (by rw [(isB_iff _).2 ⟨by omega, by omega⟩]; decide), Int.toNat_natCast, if_neg (by omega), if_pos (upd_right hm hj hu), hY]
  rfl
/-- A limit 1 below what is used. -/
theorem limit_lowR (L U : Nat → Int) (hm : MB L U) (j : Nat) (hj : j < 4) (u : Int) (hu : U j = u) (f : Int) (h1 : 0 < u → f = 252) (h2 : u ≤ 0 → f = 250) (w : World) :
    Calls Try.prog 15 #[.agg (bk L U), .int .i64 (j : Int), .int .i64 (u - 1)] w fun e w' => e = .returned (.tuple #[v8 0 0 0 0 0 0 0 0, .int .i64 f]) ∧ Below w.heap.size w w' := by
  refine (limit_any L U j (u - 1) w).mono fun e w' ⟨he, hB⟩ => ⟨he.trans ?_, hB⟩
  rw [limR, if_neg (by rw [hm.right]; decide), if_neg (by rw [(isB_iff _).2 ⟨by omega, by omega⟩]; decide), Int.toNat_natCast, hu]
  have hU := hm.use j hj
  by_cases h : 0 < u
  · rw [if_pos (by omega), h1 h]; rfl
  · have e : rightB (upd L j (u - 1)) U = false := by
      cases hr : rightB (upd L j (u - 1)) U
      · rfl
      · have := right_iff.1 hr j hj
        simp only [upd, if_pos] at this
        omega
    rw [if_neg (by omega), if_neg (by rw [e]; decide), h2 (by omega)]; rfl
theorem room_zero (L U : Nat → Int) (hr : rightB L U = true) (j : Nat) (hj : j < 4) (u : Int) (hl : L j = u) (hu : U j = u) (w : World) :
    Calls Try.prog 16 #[.agg (bk L U), .int .i64 (j : Int)] w fun e w' => e = .returned (.tuple #[.int .i64 0, .int .i64 0]) ∧ Below w.heap.size w w' := by
  refine (room_any L U j w).mono fun e w' ⟨he, hB⟩ => ⟨he.trans ?_, hB⟩
  rw [roomV, if_pos hr, if_pos ((isB_iff _).2 ⟨by omega, by omega⟩), Int.toNat_natCast, hl, hu, Int.sub_self]
theorem two_oldd (W : World) (o o' : Obj) : ((W.alloc o).alloc o').drew.heap[W.heap.size]? = some o := two_old W o o'

/-- All the room, charged at once. -/
theorem step_okR (L U : Nat → Int) (hm : MB L U) (j : Nat) (hj : j < 4) (l u : Int) (hl : L j = l) (hu : U j = u) (v : Value) (w : World) (hs : SrcC w v [((j : Int), l - u)]) :
    Calls Try.prog 13 #[.agg (bk L U), v] w fun e w' => ∃ X : Nat → Int, X j = l ∧ e = .returned (.tuple #[.agg (bk L X), .int .i64 (-1), .int .i64 0]) ∧ Below w.heap.size w w' := by
  have h1 := hm.lim j hj
  have h2 := hm.use j hj
  exact (step_ok L U hm.right j hj (l - u) (by omega) (by omega) v w hs).mono fun e w' ⟨he, hB⟩ => ⟨upd U j (U j + (l - u)), by simp [upd, hu]; omega, he, hB⟩
theorem step_badR (L U : Nat → Int) (hm : MB L U) (j : Nat) (hj : j < 4) (l u : Int) (hl : L j = l) (hu : U j = u) (n : Int) (hn : -1099511627776 ≤ n ∧ n ≤ 1099511627776) (f : Int) (hf : failAt l (u + n) = f) (h0 : ¬ f = 0) (v : Value) (w : World)
    (hs : SrcC w v [((j : Int), n)]) :
    Calls Try.prog 13 #[.agg (bk L U), v] w fun e w' => e = .returned (.tuple #[v8 0 0 0 0 0 0 0 0, .int .i64 0, .int .i64 f]) ∧ Below w.heap.size w w' :=
  step_bad L U hm.right j hj n hn f (by rw [hl, hu]; exact hf) h0 v w hs

end Go.Proofs.Ytppfhcocmpmadaa
