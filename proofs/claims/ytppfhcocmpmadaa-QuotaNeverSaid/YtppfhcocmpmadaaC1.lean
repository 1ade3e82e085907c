/- The law QuotaRooms: its walk. -/
import Derived.Test.YtppfhcocmpmadaaB9
import Derived.Test.YtppfhcocmpmadaaB8
import Derived.Deep.RegionHeld3
import Derived.Deep.DeepCutAuto
import Derived.Deep.QuietTactic
import Derived.BigQuiet
namespace Go.Proofs.Ytppfhcocmpmadaa
open Go.RowKit
set_option linter.unusedVariables false

theorem push2 (w : World) (o1 o2 : Obj) : (∀ x, x < w.heap.size → ((w.alloc o1).alloc o2).heap[x]? = w.heap[x]?) ∧ ((w.alloc o1).alloc o2).heap[w.heap.size]? = some o1 ∧ ((w.alloc o1).alloc o2).heap[w.heap.size + 1]? = some o2 := by
  obtain ⟨h0, h1, h2, -⟩ := push3 w o1 o2 o2
  refine ⟨fun x hx => ?_, ?_, two_new w o1 o2⟩
  · rw [Below.heap_alloc _ _ _ (by simp; omega), Below.heap_alloc _ _ _ hx]
  · rw [Below.heap_alloc _ _ _ (by simp), World.alloc_heap_new]
theorem a8_cells {W : World} {g : Nat} {t : TypeId} {f : Nat → Int} (h : W.heap[g]? = some (.cells (a8 f) t (0, 0))) :
    W.cell? ⟨g, 0, none⟩ = some (.int .u8 (f 0)) ∧ W.cell? ⟨g, 1, none⟩ = some (.int .u8 (f 1)) ∧ W.cell? ⟨g, 2, none⟩ = some (.int .u8 (f 2)) ∧ W.cell? ⟨g, 3, none⟩ = some (.int .u8 (f 3)) :=
  ⟨cells_cell h 0, cells_cell h 1, cells_cell h 2, cells_cell h 3⟩
def AwakeC : Prop := ∀ w : World, Calls Try.prog 11 #[] w fun e w' => e = .returned (.bool true) ∧ Below w.heap.size w w'

theorem room_ok (L U : Nat → Int) (hr : rightB L U = true) (j : Nat) (hj : j < 4) (l u : Int) (hl : L j = l) (hu : U j = u) (w : World) :
    Calls Try.prog 16 #[.agg (bk L U), .int .i64 (j : Int)] w fun e w' => e = .returned (.tuple #[.int .i64 (l - u), .int .i64 0]) ∧ Below w.heap.size w w' := by
  refine (room_any L U j w).mono fun e w' ⟨he, hB⟩ => ⟨he.trans ?_, hB⟩
  rw [roomV, if_pos hr, if_pos ((isB_iff _).2 ⟨by omega, by omega⟩), Int.toNat_natCast, hl, hu]

theorem h9_keep {B W W' : World} {g j : Nat} {L U : Nat → Int} {u : Int} (h : W.cell? ⟨g, 0, none⟩ = some (.int .i64 (L 0)) ∧ W.cell? ⟨g, 1, none⟩ = some (.int .i64 (L 1)) ∧ W.cell? ⟨g, 2, none⟩ = some (.int .i64 (L 2)) ∧ W.cell? ⟨g, 3, none⟩ = some (.int .i64 (L 3)) ∧ W.cell? ⟨g, 4, none⟩ = some (.int .i64 (U 0)) ∧ W.cell? ⟨g, 5, none⟩ = some (.int .i64 (U 1)) ∧ W.cell? ⟨g, 6, none⟩ = some (.int .i64 (U 2)) ∧ W.cell? ⟨g, 7, none⟩ = some (.int .i64 (U 3)) ∧ W.cell? ⟨g, 4 + j, none⟩ = some (.int .i64 u) ∧ Below B.heap.size B W) (hB : Below W.heap.size W W') :
    W'.cell? ⟨g, 0, none⟩ = some (.int .i64 (L 0)) ∧ W'.cell? ⟨g, 1, none⟩ = some (.int .i64 (L 1)) ∧ W'.cell? ⟨g, 2, none⟩ = some (.int .i64 (L 2)) ∧ W'.cell? ⟨g, 3, none⟩ = some (.int .i64 (L 3)) ∧ W'.cell? ⟨g, 4, none⟩ = some (.int .i64 (U 0)) ∧ W'.cell? ⟨g, 5, none⟩ = some (.int .i64 (U 1)) ∧ W'.cell? ⟨g, 6, none⟩ = some (.int .i64 (U 2)) ∧ W'.cell? ⟨g, 7, none⟩ = some (.int .i64 (U 3)) ∧ W'.cell? ⟨g, 4 + j, none⟩ = some (.int .i64 u) ∧ Below B.heap.size B W' := by
  obtain ⟨h0, h1, h2, h3, h4, h5, h6, h7, h8, h9⟩ := h
  exact ⟨(hB.cell (p := ⟨g, 0, none⟩) (World.block_lt_of_cell? _ _ h0)).trans h0, (hB.cell (p := ⟨g, 1, none⟩) (World.block_lt_of_cell? _ _ h1)).trans h1, (hB.cell (p := ⟨g, 2, none⟩) (World.block_lt_of_cell? _ _ h2)).trans h2, (hB.cell (p := ⟨g, 3, none⟩) (World.block_lt_of_cell? _ _ h3)).trans h3, (hB.cell (p := ⟨g, 4, none⟩) (World.block_lt_of_cell? _ _ h4)).trans h4, (hB.cell (p := ⟨g, 5, none⟩) (World.block_lt_of_cell? _ _ h5)).trans h5, (hB.cell (p := ⟨g, 6, none⟩) (World.block_lt_of_cell? _ _ h6)).trans h6, (hB.cell (p := ⟨g, 7, none⟩) (World.block_lt_of_cell? _ _ h7)).trans h7, (hB.cell (p := ⟨g, 4 + j, none⟩) (World.block_lt_of_cell? _ _ h8)).trans h8, ch4 h9 hB⟩
theorem h9_below {B W : World} {g j : Nat} {L U : Nat → Int} {u : Int} (h : W.cell? ⟨g, 0, none⟩ = some (.int .i64 (L 0)) ∧ W.cell? ⟨g, 1, none⟩ = some (.int .i64 (L 1)) ∧ W.cell? ⟨g, 2, none⟩ = some (.int .i64 (L 2)) ∧ W.cell? ⟨g, 3, none⟩ = some (.int .i64 (L 3)) ∧ W.cell? ⟨g, 4, none⟩ = some (.int .i64 (U 0)) ∧ W.cell? ⟨g, 5, none⟩ = some (.int .i64 (U 1)) ∧ W.cell? ⟨g, 6, none⟩ = some (.int .i64 (U 2)) ∧ W.cell? ⟨g, 7, none⟩ = some (.int .i64 (U 3)) ∧ W.cell? ⟨g, 4 + j, none⟩ = some (.int .i64 u) ∧ Below B.heap.size B W) : Below B.heap.size B W := by
  obtain ⟨h0, h1, h2, h3, h4, h5, h6, h7, h8, h9⟩ := h
  exact h9
theorem h9_of {B : World} {g j : Nat} {L U : Nat → Int} {u : Int} (hj : j < 4) (hu : U j = u) (h : B.heap[g]? = some (.cells (bk L U) 27 (0, 0))) :
    B.cell? ⟨g, 0, none⟩ = some (.int .i64 (L 0)) ∧ B.cell? ⟨g, 1, none⟩ = some (.int .i64 (L 1)) ∧ B.cell? ⟨g, 2, none⟩ = some (.int .i64 (L 2)) ∧ B.cell? ⟨g, 3, none⟩ = some (.int .i64 (L 3)) ∧ B.cell? ⟨g, 4, none⟩ = some (.int .i64 (U 0)) ∧ B.cell? ⟨g, 5, none⟩ = some (.int .i64 (U 1)) ∧ B.cell? ⟨g, 6, none⟩ = some (.int .i64 (U 2)) ∧ B.cell? ⟨g, 7, none⟩ = some (.int .i64 (U 3)) ∧ B.cell? ⟨g, 4 + j, none⟩ = some (.int .i64 u) ∧ Below B.heap.size B B := by
  obtain ⟨⟨c0, c1, c2, c3, c4, c5, c6, c7⟩, -⟩ := bk_cells h
  exact ⟨c0, c1, c2, c3, c4, c5, c6, c7, ((cells_cell h (4 + j)).trans (bk_use L U j hj)).trans (by rw [hu]), Below.refl _ _⟩

theorem drew_new (W : World) (o : Obj) : (W.alloc o).drew.heap[W.heap.size]? = some o := World.alloc_heap_new W o
theorem two_old (W : World) (o o' : Obj) : ((W.alloc o).alloc o').heap[W.heap.size]? = some o := (Below.heap_alloc _ _ _ (by simp)).trans (World.alloc_heap_new _ _)
theorem two_newd (W : World) (o o' : Obj) : ((W.alloc o).alloc o').drew.heap[W.heap.size + 1]? = some o' := two_new W o o'
theorem bl_alloc {B W : World} {o : Obj} (h : Below B.heap.size B W) : Below B.heap.size B (W.alloc o) := h.alloc h.size _
theorem bl_drew {B W : World} (h : Below B.heap.size B W) : Below B.heap.size B W.drew := h.drew
theorem bl_set {B W : World} {p : Addr} (h : Below B.heap.size B W) (hp : B.heap.size ≤ p.block) (v : Value) : Below B.heap.size B (W.setCell p v) := h.setCell hp v
theorem bl_call {B W W' : World} (h : Below W.heap.size W W') (h' : Below B.heap.size B W) : Below B.heap.size B W' := ch4 h' h
theorem z_cells {W : World} {g : Nat} (h : W.heap[g]? = some (.cells #[.int .i64 0, .int .i64 0, .int .i64 0, .int .i64 0, .int .i64 0, .int .i64 0, .int .i64 0, .int .i64 0] 27 (0, 0))) :
    (W.cell? ⟨g, 0, none⟩ = some (.int .i64 0) ∧ W.cell? ⟨g, 1, none⟩ = some (.int .i64 0) ∧ W.cell? ⟨g, 2, none⟩ = some (.int .i64 0) ∧ W.cell? ⟨g, 3, none⟩ = some (.int .i64 0) ∧ W.cell? ⟨g, 4, none⟩ = some (.int .i64 0) ∧ W.cell? ⟨g, 5, none⟩ = some (.int .i64 0) ∧ W.cell? ⟨g, 6, none⟩ = some (.int .i64 0) ∧ W.cell? ⟨g, 7, none⟩ = some (.int .i64 0)) ∧
    (W.frozen? ⟨g, 0, none⟩ = false ∧ W.frozen? ⟨g, 1, none⟩ = false ∧ W.frozen? ⟨g, 2, none⟩ = false ∧ W.frozen? ⟨g, 3, none⟩ = false ∧ W.frozen? ⟨g, 4, none⟩ = false ∧ W.frozen? ⟨g, 5, none⟩ = false ∧ W.frozen? ⟨g, 6, none⟩ = false ∧ W.frozen? ⟨g, 7, none⟩ = false) :=
  ⟨⟨cells_cell h 0, cells_cell h 1, cells_cell h 2, cells_cell h 3, cells_cell h 4, cells_cell h 5, cells_cell h 6, cells_cell h 7⟩, ⟨cells_free h 0, cells_free h 1, cells_free h 2, cells_free h 3, cells_free h 4, cells_free h 5, cells_free h 6, cells_free h 7⟩⟩
theorem set_bk {W : World} {g : Nat} (C D : Nat → Int) (h : W.heap[g]? = some (.cells #[.int .i64 0, .int .i64 0, .int .i64 0, .int .i64 0, .int .i64 0, .int .i64 0, .int .i64 0, .int .i64 0] 27 (0, 0))) :
    (set8 W g C D).heap[g]? = some (.cells (bk C D) 27 (0, 0)) := bk_setall (L := zf) (U := zf) C D h
theorem upd_right {L U : Nat → Int} (hm : MB L U) {j : Nat} (hj : j < 4) {u : Int} (hu : U j = u) : rightB (upd L j u) U = true := right_iff.2 fun i hi => by
  have h1 := hm.lim i hi
  have h2 := hm.use i hi
  unfold upd
  by_cases e : i = j
  · subst e; rw [if_pos rfl]; omega
  · rw [if_neg e]; omega
/-- A limit that is what is used. -/
theorem limit_okR (L U Y : Nat → Int) (hm : MB L U) (j : Nat) (hj : j < 4) (u : Int) (hu : U j = u) (hY : upd L j u = Y) (w : World) :
    Calls Try.prog 15 #[.agg (bk L U), .int .i64 (j : Int), .int .i64 u] w fun e w' => e = .returned (.tuple #[v8 (Y 0) (Y 1) (Y 2) (Y 3) (U 0) (U 1) (U 2) (U 3), .int .i64 0]) ∧ Below w.heap.size w w' := by
  refine (limit_any L U j u w).mono fun e w' ⟨he, hB⟩ => ⟨he.trans ?_, hB⟩
  rw [limR, if_neg (by rw [hm.right]; decide), if_neg (by rw [(isB_iff _).2 ⟨by omega, by omega⟩]; decide), Int.toNat_natCast, if_neg (by omega), if_pos (upd_right hm hj hu), hY]
  rfl
/-- A limit 1 below what is used. -/
theorem limit_lowR (L U : Nat → Int) (hm : MB L U) (j : Nat) (hj : j < 4) (u : Int) (hu : U j = u) (f : Int) (h1 : 0 < u → f = 252) (h2 : u ≤ 0 → f = 250) (w : World) :
    Calls Try.prog 15 #[.agg (bk L U), .int .i64 (j : Int), .int .i64 (u - 1)] w fun e w' => e = .returned (.tuple #[v8 0 0 0 0 0 0 0 0, .int .i64 f]) ∧ Below w.heap.size w w' := by
  refine (limit_any L U j (u - 1) w).mono fun e w' ⟨he, hB⟩ => ⟨he.trans ?_, hB⟩
  rw [limR, if_neg (by rw [hm.right]; decide), if_neg (by rw [(isB_iff _).2 ⟨by omega, by omega⟩]; decide), Int.toNat_natCast, hu]
  have hU := hm.use j hj
  by_cases h : 0 < u
  · rw [if_pos (by omega), h1 h]; rfl
  · have e : rightB (upd L j (u - 1)) U = false := by
      cases hr : rightB (upd L j (u - 1)) U
      · rfl
      · have := right_iff.1 hr j hj
        simp only [upd, if_pos] at this
        omega
    rw [if_neg (by omega), if_neg (by rw [e]; decide), h2 (by omega)]; rfl
theorem room_zero (L U : Nat → Int) (hr : rightB L U = true) (j : Nat) (hj : j < 4) (u : Int) (hl : L j = u) (hu : U j = u) (w : World) :
    Calls Try.prog 16 #[.agg (bk L U), .int .i64 (j : Int)] w fun e w' => e = .returned (.tuple #[.int .i64 0, .int .i64 0]) ∧ Below w.heap.size w w' := by
  refine (room_any L U j w).mono fun e w' ⟨he, hB⟩ => ⟨he.trans ?_, hB⟩
  rw [roomV, if_pos hr, if_pos ((isB_iff _).2 ⟨by omega, by omega⟩), Int.toNat_natCast, hl, hu, Int.sub_self]
theorem two_oldd (W : World) (o o' : Obj) : ((W.alloc o).alloc o').drew.heap[W.heap.size]? = some o := two_old W o o'

/-- All the room, charged at once. -/
theorem step_okR (L U : Nat → Int) (hm : MB L U) (j : Nat) (hj : j < 4) (l u : Int) (hl : L j = l) (hu : U j = u) (v : Value) (w : World) (hs : SrcC w v [((j : Int), l - u)]) :
    Calls Try.prog 13 #[.agg (bk L U), v] w fun e w' => ∃ X : Nat → Int, X j = l ∧ e = .returned (.tuple #[.agg (bk L X), .int .i64 (-1), .int .i64 0]) ∧ Below w.heap.size w w' := by
  have h1 := hm.lim j hj
  have h2 := hm.use j hj
  exact (step_ok L U hm.right j hj (l - u) (by omega) (by omega) v w hs).mono fun e w' ⟨he, hB⟩ => ⟨upd U j (U j + (l - u)), by simp [upd, hu]; omega, he, hB⟩
theorem step_badR (L U : Nat → Int) (hm : MB L U) (j : Nat) (hj : j < 4) (l u : Int) (hl : L j = l) (hu : U j = u) (n : Int) (hn : -1099511627776 ≤ n ∧ n ≤ 1099511627776) (f : Int) (hf : failAt l (u + n) = f) (h0 : ¬ f = 0) (v : Value) (w : World)
    (hs : SrcC w v [((j : Int), n)]) :
    Calls Try.prog 13 #[.agg (bk L U), v] w fun e w' => e = .returned (.tuple #[v8 0 0 0 0 0 0 0 0, .int .i64 0, .int .i64 f]) ∧ Below w.heap.size w w' :=
  step_bad L U hm.right j hj n hn f (by rw [hl, hu]; exact hf) h0 v w hs

set_option maxRecDepth 100000 in
set_option maxHeartbeats 8000000 in
theorem rooms_any (haw : AwakeC) (a b : Nat → Int) (ha : ∀ j, j < 4 → 0 ≤ a j ∧ a j ≤ 255) (hb : ∀ j, j < 4 → 0 ≤ b j ∧ b j ≤ 255) (q : Int) (hq : 0 ≤ q ∧ q ≤ 255) (w : World) :
    Calls Try.prog 5 #[.agg (a8 a), .agg (a8 b), .int .u8 q] w fun e w' => e = .returned (.bool true) ∧ Below w.heap.size w w' := by
  have HAW := Hd.mk haw
  obtain ⟨q0, q1⟩ := hq
  clear haw
  obtain ⟨p0, p1, p2⟩ := push2 w (.cells (a8 a) 22) (.cells (a8 b) 22)
  have HP1 := Hd.mk p1
  have HP2 := Hd.mk p2
  have HW0 : Hd (Below w.heap.size w ((w.alloc (.cells (a8 a) 22)).alloc (.cells (a8 b) 22))) := ⟨((Below.refl _ _).alloc (Nat.le_refl _) _).alloc (by simp) _⟩
  have HA := Hd.mk ha
  have HBb := Hd.mk hb
  clear ha hb p0 p1 p2
  go_enter Try.func5, Try.ntmps5
  go_wp2_with fail
  refine (HAW.out _).mono ?_
  rintro e w1 ⟨rfl, hB1⟩
  have h1 := keep HP1.out hB1
  have h2 := keep HP2.out hB1
  have HB_1 := Hd.mk (HW0.out.trans (hB1.mono (by simp; omega)))
  obtain ⟨c0, c1, c2, c3⟩ := a8_cells h1
  obtain ⟨d0, d1, d2, d3⟩ := a8_cells h2
  clear h1 h2 HP1 HP2 HW0 hB1
  go_wp2_with fail
  refine (made_any a b HA.out HBb.out _ [] _ (.inl ⟨rfl, rfl⟩) (by simp)).mono ?_
  rintro e w2 ⟨v', rfl, hv, hB2⟩
  have hmb := mb a b HA.out HBb.out
  have hX2 := ch4 HB_1.out hB2
  clear hv c0 c1 c2 c3 d0 d1 d2 d3 HA HBb HB_1 hB2
  obtain ⟨L, hL⟩ : ∃ L, mL a = L := ⟨_, rfl⟩
  obtain ⟨U, hU⟩ : ∃ U, mU a b = U := ⟨_, rfl⟩
  rw [hL, hU] at hmb ⊢
  clear hL hU
  have HX2 := Hd.mk hX2
  have HM := Hd.mk hmb
  clear hX2 hmb
  simp only [bk]
  go_upto_region 4 with fail
  obtain ⟨W2, hW2⟩ : ∃ W, W = w2.alloc (.cells (bk L U) 27) := ⟨_, rfl⟩
  have hT7 : W2.heap[w2.heap.size]? = some (.cells (bk L U) 27 (0, 0)) := by rw [hW2]; exact World.alloc_heap_new _ _
  have hB2 : Below w.heap.size w W2 := by rw [hW2]; exact HX2.out.alloc HX2.out.size _
  simp only [bk] at hW2
  rw [← hW2]
  have HT7 := Hd.mk hT7
  have HB2 := Hd.mk hB2
  clear hW2 hT7 hB2 HX2
  obtain ⟨j, hj⟩ : ∃ j : Nat, q % 4 = (j : Int) := ⟨(q % 4).toNat, by omega⟩
  have hj4 : j < 4 := by omega
  have j0 : (0 : Int) ≤ (j : Int) := by omega
  have j1 : (j : Int) < 4 := by omega
  have HJ := Hd.mk hj4
  obtain ⟨l, hl⟩ : ∃ l, L j = l := ⟨_, rfl⟩
  obtain ⟨u, hu⟩ : ∃ u, U j = u := ⟨_, rfl⟩
  have HL := Hd.mk hl
  have HU := Hd.mk hu
  have hl1 := HM.out.lim j hj4
  have hu1 := HM.out.use j hj4
  rw [hl] at hl1 hu1
  rw [hu] at hu1
  obtain ⟨l0, l1⟩ := hl1
  obtain ⟨u0, u1⟩ := hu1
  clear hl hu hj4
  obtain ⟨c0, c1, c2, c3, c4, c5, c6, c7⟩ := lit8 HT7.out
  have hj' := hj
  clear hj
  go_upto_region 5 with fail
  simp only [hj']
  clear hj' q0 q1
  go_wp2_with fail
  refine (room_ok L U HM.out.right j HJ.out l u HL.out HU.out _).mono ?_
  rintro e w3 ⟨rfl, hB⟩
  have HB_3 := Hd.mk (ch4 HB2.out hB)
  have HT7_3 := Hd.mk (keep HT7.out hB)
  clear HB2 HT7
  clear hB
  clear c0 c1 c2 c3 c4 c5 c6 c7
  obtain ⟨c0, c1, c2, c3, c4, c5, c6, c7⟩ := lit8 HT7_3.out
  go_wp2_with fail
  refine (step_okR L U HM.out j HJ.out l u HL.out HU.out _ _ (srcLit w3 [((j : Int), l - u)] (by simp))).mono ?_
  rintro e w4 ⟨X, hx, rfl, hB⟩
  have hX := ((Below.refl w3.heap.size w3).alloc (Nat.le_refl _) (.cells #[.int .i64 (j : Int), .int .i64 (l - u)] 32)).trans (hB.mono (by simp))
  have HB_4 := Hd.mk (ch4 HB_3.out hX)
  have HT7_4 := Hd.mk (keep HT7_3.out hX)
  clear HB_3 HT7_3
  clear hB hX
  have HXJ := Hd.mk hx
  clear hx
  clear c0 c1 c2 c3 c4 c5 c6 c7
  simp only [bk]
  go_upto_region 7 with fail
  obtain ⟨W4, hW⟩ : ∃ W, W = w4.alloc (.cells (bk L X) 27) := ⟨_, rfl⟩
  have hX : Below w4.heap.size w4 W4 := by rw [hW]; exact (Below.refl _ _).alloc (Nat.le_refl _) _
  have hT : W4.heap[w4.heap.size]? = some (.cells (bk L X) 27 (0, 0)) := by rw [hW]; exact World.alloc_heap_new _ _
  simp only [bk] at hW
  rw [← hW]
  have HT12_b4 := Hd.mk hT
  clear hW hT
  have HB_c4 := Hd.mk (ch4 HB_4.out hX)
  have HT7_c4 := Hd.mk (keep HT7_4.out hX)
  clear HB_4 HT7_4
  clear hX
  obtain ⟨c0, c1, c2, c3, c4, c5, c6, c7⟩ := lit8 HT7_c4.out
  go_wp2_with fail
  refine (step_badR L U HM.out j HJ.out l u HL.out HU.out (l - u + 1) (by omega) 252 (by rw [failAt, if_pos (by omega)]) (by decide) _ _ (srcLit W4 [((j : Int), l - u + 1)] (by simp))).mono ?_
  rintro e w5 ⟨rfl, hB⟩
  have hX := ((Below.refl W4.heap.size W4).alloc (Nat.le_refl _) (.cells #[.int .i64 (j : Int), .int .i64 (l - u + 1)] 32)).trans (hB.mono (by simp))
  have HB_5 := Hd.mk (ch4 HB_c4.out hX)
  have HT7_5 := Hd.mk (keep HT7_c4.out hX)
  have HT12_5 := Hd.mk (keep HT12_b4.out hX)
  clear HB_c4 HT7_c4 HT12_b4
  clear hB hX
  clear c0 c1 c2 c3 c4 c5 c6 c7
  go_upto_region 8 with fail
  obtain ⟨W5, hW⟩ : ∃ W, W = w5.alloc (.cells #[.int .i64 0, .int .i64 0, .int .i64 0, .int .i64 0, .int .i64 0, .int .i64 0, .int .i64 0, .int .i64 0] 27) := ⟨_, rfl⟩
  have hX : Below w5.heap.size w5 W5 := by rw [hW]; exact (Below.refl _ _).alloc (Nat.le_refl _) _
  rw [← hW]
  clear hW
  have HB_c5 := Hd.mk (ch4 HB_5.out hX)
  have HT7_c5 := Hd.mk (keep HT7_5.out hX)
  have HT12_c5 := Hd.mk (keep HT12_5.out hX)
  clear HB_5 HT7_5 HT12_5
  clear hX
  have hw1 : IntKind.i64.wrap (-u) = -u := IntWalk.i64_in _ ⟨by omega, by omega⟩
  have hw2 : IntKind.i64.wrap (-u - 1) = -u - 1 := IntWalk.i64_in _ ⟨by omega, by omega⟩
  go_upto_region 9 with fail
  go_cut [18, 19, 20] (fun v18 v19 v20 wx => v19 = .int .i64 0 ∧ v20 = .int .i64 253 ∧ Below W5.heap.size W5 wx)
  case first =>
    have hS0 := h9_of HJ.out HU.out HT7_c5.out
    go_region_held3 (fun W => W.cell? ⟨w2.heap.size, 0, none⟩ = some (.int .i64 (L 0)) ∧ W.cell? ⟨w2.heap.size, 1, none⟩ = some (.int .i64 (L 1)) ∧ W.cell? ⟨w2.heap.size, 2, none⟩ = some (.int .i64 (L 2)) ∧ W.cell? ⟨w2.heap.size, 3, none⟩ = some (.int .i64 (L 3)) ∧ W.cell? ⟨w2.heap.size, 4, none⟩ = some (.int .i64 (U 0)) ∧ W.cell? ⟨w2.heap.size, 5, none⟩ = some (.int .i64 (U 1)) ∧ W.cell? ⟨w2.heap.size, 6, none⟩ = some (.int .i64 (U 2)) ∧ W.cell? ⟨w2.heap.size, 7, none⟩ = some (.int .i64 (U 3)) ∧ W.cell? ⟨w2.heap.size, 4 + j, none⟩ = some (.int .i64 u) ∧ Below W5.heap.size W5 W)
      (first | with_reducible assumption | exact h9_keep hS0 (by repeat (with_reducible first | exact Below.refl _ _ | apply bl_alloc | apply bl_drew | (refine bl_set ?_ (by simp) _) | (apply bl_call; assumption))))
      (first
      | (go_at_call 13; refine (step_badR L U HM.out j HJ.out l u HL.out HU.out (-u - 1) (by omega) 253 (by rw [failAt, if_neg (by omega), if_pos (by omega)]) (by decide) _ _ ?_).mono ?_; (refine srcAt [((j : Int), -u - 1)] ?_ (by simp); (try rw [drew_heap]); first | (rw [World.alloc_heap_new]; rfl) | (rw [two_old]; rfl) | (rw [two_new]; rfl)); rintro e wk ⟨rfl, hBk⟩; (first | (have hz := hBk.block (W5.heap.size) (by (try rw [drew_heap]); simp only [World.size_alloc]; omega); (try rw [drew_heap] at hz); rw [two_old] at hz; obtain ⟨⟨e0, e1, e2, e3, e4, e5, e6, e7⟩, ⟨f0, f1, f2, f3, f4, f5, f6, f7⟩⟩ := z_cells hz) | (have hz := hBk.block (W5.heap.size + 1) (by (try rw [drew_heap]); simp only [World.size_alloc]; omega); (try rw [drew_heap] at hz); rw [two_new] at hz; obtain ⟨⟨e0, e1, e2, e3, e4, e5, e6, e7⟩, ⟨f0, f1, f2, f3, f4, f5, f6, f7⟩⟩ := z_cells hz) | (have hz := hBk.block (W5.heap.size) (by (try rw [drew_heap]); simp only [World.size_alloc]; omega); (try rw [drew_heap] at hz); rw [World.alloc_heap_new] at hz; obtain ⟨⟨e0, e1, e2, e3, e4, e5, e6, e7⟩, ⟨f0, f1, f2, f3, f4, f5, f6, f7⟩⟩ := z_cells hz) | skip))
      )
    all_goals
      have HF := Hd.mk (h9_below (by assumption))
      clear hw1 hw2
      go_wp2_with fail
      go_meet
      exact ⟨rfl, rfl, HF.out⟩
  case rest =>
  obtain ⟨hv1, hv2, hBx⟩ := hcut
  subst hv1 hv2
  clear hw1 hw2
  have HB_6 := Hd.mk (ch4 HB_c5.out hBx)
  have HT7_6 := Hd.mk (keep HT7_c5.out hBx)
  have HT12_6 := Hd.mk (keep HT12_c5.out hBx)
  clear HB_c5 HT7_c5 HT12_c5
  clear hBx
  obtain ⟨W6, hW6⟩ : ∃ W, W = wc := ⟨_, rfl⟩
  subst hW6
  obtain ⟨Y, hY⟩ : ∃ Y, upd L j u = Y := ⟨_, rfl⟩
  have HY := Hd.mk hY
  have HYR : Hd (rightB Y U = true) := ⟨by rw [← hY]; exact upd_right HM.out HJ.out HU.out⟩
  have HYJ : Hd (Y j = u) := ⟨by rw [← hY]; simp [upd]⟩
  clear hY
  go_upto_region 10 with fail
  go_cut [21, 22] (fun v21 v22 wx => ∃ g, v21 = .pointer (some ⟨g, 0, none⟩) ∧ wx.heap[g]? = some (.cells (bk Y U) 27 (0, 0)) ∧ v22 = .int .i64 0 ∧ Below W6.heap.size W6 wx)
  case first =>
    have hS0 := h9_of HJ.out HU.out HT7_6.out
    go_region_held3 (fun W => W.cell? ⟨w2.heap.size, 0, none⟩ = some (.int .i64 (L 0)) ∧ W.cell? ⟨w2.heap.size, 1, none⟩ = some (.int .i64 (L 1)) ∧ W.cell? ⟨w2.heap.size, 2, none⟩ = some (.int .i64 (L 2)) ∧ W.cell? ⟨w2.heap.size, 3, none⟩ = some (.int .i64 (L 3)) ∧ W.cell? ⟨w2.heap.size, 4, none⟩ = some (.int .i64 (U 0)) ∧ W.cell? ⟨w2.heap.size, 5, none⟩ = some (.int .i64 (U 1)) ∧ W.cell? ⟨w2.heap.size, 6, none⟩ = some (.int .i64 (U 2)) ∧ W.cell? ⟨w2.heap.size, 7, none⟩ = some (.int .i64 (U 3)) ∧ W.cell? ⟨w2.heap.size, 4 + j, none⟩ = some (.int .i64 u) ∧ Below W6.heap.size W6 W)
      (first | with_reducible assumption | exact h9_keep hS0 (by repeat (with_reducible first | exact Below.refl _ _ | apply bl_alloc | apply bl_drew | (refine bl_set ?_ (by simp) _) | (apply bl_call; assumption))))
      (first
      | (go_at_call 15; refine (limit_okR L U Y HM.out j HJ.out u HU.out HY.out _).mono ?_; rintro e wk ⟨rfl, hBk⟩; (first | (have hz := hBk.block (W6.heap.size) (by (try rw [drew_heap]); simp only [World.size_alloc]; omega); (try rw [drew_heap] at hz); rw [two_old] at hz; obtain ⟨⟨e0, e1, e2, e3, e4, e5, e6, e7⟩, ⟨f0, f1, f2, f3, f4, f5, f6, f7⟩⟩ := z_cells hz) | (have hz := hBk.block (W6.heap.size + 1) (by (try rw [drew_heap]); simp only [World.size_alloc]; omega); (try rw [drew_heap] at hz); rw [two_new] at hz; obtain ⟨⟨e0, e1, e2, e3, e4, e5, e6, e7⟩, ⟨f0, f1, f2, f3, f4, f5, f6, f7⟩⟩ := z_cells hz) | (have hz := hBk.block (W6.heap.size) (by (try rw [drew_heap]); simp only [World.size_alloc]; omega); (try rw [drew_heap] at hz); rw [World.alloc_heap_new] at hz; obtain ⟨⟨e0, e1, e2, e3, e4, e5, e6, e7⟩, ⟨f0, f1, f2, f3, f4, f5, f6, f7⟩⟩ := z_cells hz) | skip))
      )
    all_goals
      have HF := Hd.mk (h9_below (by assumption))
      try have HZ := Hd.mk (set_bk Y U hz)
      go_wp2_with fail
      go_meet
      first | exact ⟨_, rfl, HZ.out, rfl, HF.out⟩ | exact ⟨_, rfl, World.alloc_heap_new _ _, rfl, HF.out⟩
  case rest =>
  obtain ⟨g, hv1, hG, hv2, hBx⟩ := hcut
  subst hv1 hv2
  have HB_7 := Hd.mk (ch4 HB_6.out hBx)
  have HT7_7 := Hd.mk (keep HT7_6.out hBx)
  have HT12_7 := Hd.mk (keep HT12_6.out hBx)
  clear HB_6 HT7_6 HT12_6
  clear hBx
  have HT21 := Hd.mk hG
  clear hG
  obtain ⟨W7, hW7⟩ : ∃ W, W = wc := ⟨_, rfl⟩
  subst hW7
  obtain ⟨c0, c1, c2, c3, c4, c5, c6, c7⟩ := lit8 HT21.out
  go_wp2_with fail
  refine (room_zero Y U HYR.out j HJ.out u HYJ.out HU.out _).mono ?_
  rintro e w8 ⟨rfl, hB⟩
  have HB_8 := Hd.mk (ch4 HB_7.out hB)
  have HT7_8 := Hd.mk (keep HT7_7.out hB)
  have HT12_8 := Hd.mk (keep HT12_7.out hB)
  have HT21_8 := Hd.mk (keep HT21.out hB)
  clear HB_7 HT7_7 HT12_7 HT21
  clear hB
  clear c0 c1 c2 c3 c4 c5 c6 c7
  obtain ⟨-, -, -, -, c4, c5, c6, c7⟩ := lit8 HT7_8.out
  obtain ⟨-, -, -, -, d4, d5, d6, d7⟩ := lit8 HT21_8.out
  have hl7 := ((cells_cell HT7_8.out j).trans (bk_lim L U j HJ.out)).trans (by rw [HL.out])
  have hu7 := ((cells_cell HT7_8.out (4 + j)).trans (bk_use L U j HJ.out)).trans (by rw [HU.out])
  have hx12 := ((cells_cell HT12_8.out (4 + j)).trans (bk_use L X j HJ.out)).trans (by rw [HXJ.out])
  have hw3 : IntKind.i64.wrap (l - u) = l - u := IntWalk.i64_in _ ⟨by omega, by omega⟩
  have hne : ∀ W : World, (binOp .neq 25 (.agg #[.int .i64 (U 0), .int .i64 (U 1), .int .i64 (U 2), .int .i64 (U 3)]) (.agg #[.int .i64 (U 0), .int .i64 (U 1), .int .i64 (U 2), .int .i64 (U 3)])).run Try.prog W = .ok (.bool false) W := fun W => by have := nev_ar U U W; rwa [eq4_self] at this
  have gd25 := guard25
  go_wp2_with fail
  go_quiet (fail)
  go_upto_region 13 with fail
  clear c4 c5 c6 c7 d4 d5 d6 d7 hl7 hu7 hx12 hne hw3
  obtain ⟨W9, hW9⟩ : ∃ W, W = w8.drewN nq := ⟨_, rfl⟩
  have hX : Below w8.heap.size w8 W9 := by rw [hW9]; exact below_drewN (Below.refl _ _) _
  rw [← hW9]
  clear hW9
  have HB_9 := Hd.mk (ch4 HB_8.out hX)
  have HT7_9 := Hd.mk (keep HT7_8.out hX)
  have HT12_9 := Hd.mk (keep HT12_8.out hX)
  have HT21_9 := Hd.mk (keep HT21_8.out hX)
  clear HB_8 HT7_8 HT12_8 HT21_8
  clear hX
  obtain ⟨f, hf1, hf2⟩ : ∃ f : Int, (0 < u → f = 252) ∧ (u ≤ 0 → f = 250) := by
    by_cases h : 0 < u
    · exact ⟨252, fun _ => rfl, fun h' => by omega⟩
    · exact ⟨250, fun h' => absurd h' h, fun _ => rfl⟩
  have HF1 := Hd.mk hf1
  have HF2 := Hd.mk hf2
  clear hf1 hf2
  have hw4 : IntKind.i64.wrap (u - 1) = u - 1 := IntWalk.i64_in _ ⟨by omega, by omega⟩
  go_upto_region 14 with fail
  go_cut [25, 26] (fun v25 v26 wx => v26 = .int .i64 f ∧ Below W9.heap.size W9 wx)
  case first =>
    have hS0 := h9_of HJ.out HU.out HT7_9.out
    go_region_held3 (fun W => W.cell? ⟨w2.heap.size, 0, none⟩ = some (.int .i64 (L 0)) ∧ W.cell? ⟨w2.heap.size, 1, none⟩ = some (.int .i64 (L 1)) ∧ W.cell? ⟨w2.heap.size, 2, none⟩ = some (.int .i64 (L 2)) ∧ W.cell? ⟨w2.heap.size, 3, none⟩ = some (.int .i64 (L 3)) ∧ W.cell? ⟨w2.heap.size, 4, none⟩ = some (.int .i64 (U 0)) ∧ W.cell? ⟨w2.heap.size, 5, none⟩ = some (.int .i64 (U 1)) ∧ W.cell? ⟨w2.heap.size, 6, none⟩ = some (.int .i64 (U 2)) ∧ W.cell? ⟨w2.heap.size, 7, none⟩ = some (.int .i64 (U 3)) ∧ W.cell? ⟨w2.heap.size, 4 + j, none⟩ = some (.int .i64 u) ∧ Below W9.heap.size W9 W)
      (first | with_reducible assumption | exact h9_keep hS0 (by repeat (with_reducible first | exact Below.refl _ _ | apply bl_alloc | apply bl_drew | (refine bl_set ?_ (by simp) _) | (apply bl_call; assumption))))
      (first
      | (go_at_call 15; refine (limit_lowR L U HM.out j HJ.out u HU.out f HF1.out HF2.out _).mono ?_; rintro e wk ⟨rfl, hBk⟩; (first | (have hz := hBk.block (W9.heap.size) (by (try rw [drew_heap]); simp only [World.size_alloc]; omega); (try rw [drew_heap] at hz); rw [two_old] at hz; obtain ⟨⟨e0, e1, e2, e3, e4, e5, e6, e7⟩, ⟨f0, f1, f2, f3, f4, f5, f6, f7⟩⟩ := z_cells hz) | (have hz := hBk.block (W9.heap.size + 1) (by (try rw [drew_heap]); simp only [World.size_alloc]; omega); (try rw [drew_heap] at hz); rw [two_new] at hz; obtain ⟨⟨e0, e1, e2, e3, e4, e5, e6, e7⟩, ⟨f0, f1, f2, f3, f4, f5, f6, f7⟩⟩ := z_cells hz) | (have hz := hBk.block (W9.heap.size) (by (try rw [drew_heap]); simp only [World.size_alloc]; omega); (try rw [drew_heap] at hz); rw [World.alloc_heap_new] at hz; obtain ⟨⟨e0, e1, e2, e3, e4, e5, e6, e7⟩, ⟨f0, f1, f2, f3, f4, f5, f6, f7⟩⟩ := z_cells hz) | skip))
      )
    all_goals
      have HF := Hd.mk (h9_below (by assumption))
      go_wp2_with fail
      go_meet
      exact ⟨rfl, HF.out⟩
  case rest =>
  obtain ⟨hv1, hBx⟩ := hcut
  subst hv1
  clear hw4
  have HB_10 := Hd.mk (ch4 HB_9.out hBx)
  have HT7_10 := Hd.mk (keep HT7_9.out hBx)
  have HT12_10 := Hd.mk (keep HT12_9.out hBx)
  have HT21_10 := Hd.mk (keep HT21_9.out hBx)
  clear HB_9 HT7_9 HT12_9 HT21_9
  have hu7 := ((cells_cell HT7_10.out (4 + j)).trans (bk_use L U j HJ.out)).trans (by rw [HU.out])
  have HE := HB_10.out
  by_cases hu0 : 0 < u
  · obtain rfl := HF1.out hu0
    go_wp2_with fail
    go_ret
    exact ⟨rfl, HE⟩
  · obtain rfl := HF2.out (by omega)
    obtain rfl : u = 0 := by omega
    go_wp2_with fail
    go_ret
    exact ⟨rfl, HE⟩
end Go.Proofs.Ytppfhcocmpmadaa
