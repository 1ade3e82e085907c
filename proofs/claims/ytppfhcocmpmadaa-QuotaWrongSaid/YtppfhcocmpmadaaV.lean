/- The law QuotaWrong: its walk. -/
import Derived.Test.YtppfhcocmpmadaaC0
import Derived.Test.YtppfhcocmpmadaaPW
import Derived.Test.YtppfhcocmpmadaaV0
import Derived.Test.YtppfhcocmpmadaaV1
import Derived.Test.YtppfhcocmpmadaaB8
import Derived.Deep.CutBlock
namespace Go.Proofs.Ytppfhcocmpmadaa
open Go.RowKit
set_option linter.unusedVariables false

theorem qw8_keep {B W W' : World} {g : Nat} {L U : Nat → Int} (h : W.cell? ⟨g, 0, none⟩ = some (.int .i64 (L 0)) ∧ W.cell? ⟨g, 1, none⟩ = some (.int .i64 (L 1)) ∧ W.cell? ⟨g, 2, none⟩ = some (.int .i64 (L 2)) ∧ W.cell? ⟨g, 3, none⟩ = some (.int .i64 (L 3)) ∧ W.cell? ⟨g, 4, none⟩ = some (.int .i64 (U 0)) ∧ W.cell? ⟨g, 5, none⟩ = some (.int .i64 (U 1)) ∧ W.cell? ⟨g, 6, none⟩ = some (.int .i64 (U 2)) ∧ W.cell? ⟨g, 7, none⟩ = some (.int .i64 (U 3)) ∧ Below B.heap.size B W) (hB : Below W.heap.size W W') :
    W'.cell? ⟨g, 0, none⟩ = some (.int .i64 (L 0)) ∧ W'.cell? ⟨g, 1, none⟩ = some (.int .i64 (L 1)) ∧ W'.cell? ⟨g, 2, none⟩ = some (.int .i64 (L 2)) ∧ W'.cell? ⟨g, 3, none⟩ = some (.int .i64 (L 3)) ∧ W'.cell? ⟨g, 4, none⟩ = some (.int .i64 (U 0)) ∧ W'.cell? ⟨g, 5, none⟩ = some (.int .i64 (U 1)) ∧ W'.cell? ⟨g, 6, none⟩ = some (.int .i64 (U 2)) ∧ W'.cell? ⟨g, 7, none⟩ = some (.int .i64 (U 3)) ∧ Below B.heap.size B W' := by
  obtain ⟨h0, h1, h2, h3, h4, h5, h6, h7, h8⟩ := h
  exact ⟨(hB.cell (p := ⟨g, 0, none⟩) (World.block_lt_of_cell? _ _ h0)).trans h0, (hB.cell (p := ⟨g, 1, none⟩) (World.block_lt_of_cell? _ _ h1)).trans h1, (hB.cell (p := ⟨g, 2, none⟩) (World.block_lt_of_cell? _ _ h2)).trans h2, (hB.cell (p := ⟨g, 3, none⟩) (World.block_lt_of_cell? _ _ h3)).trans h3, (hB.cell (p := ⟨g, 4, none⟩) (World.block_lt_of_cell? _ _ h4)).trans h4, (hB.cell (p := ⟨g, 5, none⟩) (World.block_lt_of_cell? _ _ h5)).trans h5, (hB.cell (p := ⟨g, 6, none⟩) (World.block_lt_of_cell? _ _ h6)).trans h6, (hB.cell (p := ⟨g, 7, none⟩) (World.block_lt_of_cell? _ _ h7)).trans h7, ch4 h8 hB⟩
theorem qw8_below {B W : World} {g : Nat} {L U : Nat → Int} (h : W.cell? ⟨g, 0, none⟩ = some (.int .i64 (L 0)) ∧ W.cell? ⟨g, 1, none⟩ = some (.int .i64 (L 1)) ∧ W.cell? ⟨g, 2, none⟩ = some (.int .i64 (L 2)) ∧ W.cell? ⟨g, 3, none⟩ = some (.int .i64 (L 3)) ∧ W.cell? ⟨g, 4, none⟩ = some (.int .i64 (U 0)) ∧ W.cell? ⟨g, 5, none⟩ = some (.int .i64 (U 1)) ∧ W.cell? ⟨g, 6, none⟩ = some (.int .i64 (U 2)) ∧ W.cell? ⟨g, 7, none⟩ = some (.int .i64 (U 3)) ∧ Below B.heap.size B W) : Below B.heap.size B W := by
  obtain ⟨h0, h1, h2, h3, h4, h5, h6, h7, h8⟩ := h
  exact h8
theorem qw8_of {B : World} {g : Nat} {L U : Nat → Int} (h : B.heap[g]? = some (.cells (bk L U) 27 (0, 0))) :
    B.cell? ⟨g, 0, none⟩ = some (.int .i64 (L 0)) ∧ B.cell? ⟨g, 1, none⟩ = some (.int .i64 (L 1)) ∧ B.cell? ⟨g, 2, none⟩ = some (.int .i64 (L 2)) ∧ B.cell? ⟨g, 3, none⟩ = some (.int .i64 (L 3)) ∧ B.cell? ⟨g, 4, none⟩ = some (.int .i64 (U 0)) ∧ B.cell? ⟨g, 5, none⟩ = some (.int .i64 (U 1)) ∧ B.cell? ⟨g, 6, none⟩ = some (.int .i64 (U 2)) ∧ B.cell? ⟨g, 7, none⟩ = some (.int .i64 (U 3)) ∧ Below B.heap.size B B := by
  obtain ⟨⟨c0, c1, c2, c3, c4, c5, c6, c7⟩, -⟩ := bk_cells h
  exact ⟨c0, c1, c2, c3, c4, c5, c6, c7, Below.refl _ _⟩
theorem k0qw (w : World) (o1 o2 : Obj) : Below w.heap.size w ((w.alloc o1).alloc o2) := ((Below.refl _ _).alloc (Nat.le_refl _) _).alloc (by simp) _
theorem qw_steps {L U : Nat → Int} {cs : List (Int × Int)} {f : Int} (h : bothV L U cs = f) (h0 : ¬ f = 0) (v : Value) (w : World) (hs : SrcC w v cs) :
    Calls Try.prog 13 #[.agg (bk L U), v] w fun e w' => e = .returned (.tuple #[v8 0 0 0 0 0 0 0 0, .int .i64 (-1), .int .i64 f]) ∧ Below w.heap.size w w' :=
  (steps_no L U v cs w hs (by rw [h]; exact h0)).mono fun e w' ⟨he, hB⟩ => ⟨he.trans (by rw [h]; rfl), hB⟩
theorem qw_bar {L U : Nat → Int} {cs : List (Int × Int)} {f : Int} (h : bothV L U cs = f) (h0 : ¬ f = 0) (v : Value) (w : World) (hs : SrcC w v cs) :
    Calls Try.prog 17 #[.agg (bk L U), v] w fun e w' => e = .returned (.tuple #[v8 0 0 0 0 0 0 0 0, .int .i64 (-1), .int .i64 f]) ∧ Below w.heap.size w w' :=
  (barrier_no L U v cs w hs (by rw [h]; exact h0)).mono fun e w' ⟨he, hB⟩ => ⟨he.trans (by rw [h]; rfl), hB⟩
theorem qw_peak {L U : Nat → Int} {cs : List (Int × Int)} {f : Int} (h : bothV L U cs = f) (h0 : ¬ f = 0) (v : Value) (w : World) (hs : SrcC w v cs) :
    Calls Try.prog 14 #[.agg (bk L U), v] w fun e w' => e = .returned (.tuple #[v4 0 0 0 0, .int .i64 f]) ∧ Below w.heap.size w w' :=
  (peak_no L U v cs w hs (by rw [h]; exact h0)).mono fun e w' ⟨he, hB⟩ => ⟨he.trans (by rw [h]; rfl), hB⟩
theorem qw_room {L U : Nat → Int} (h : rightB L U = false) (k : Int) (w : World) :
    Calls Try.prog 16 #[.agg (bk L U), .int .i64 k] w fun e w' => e = .returned (.tuple #[.int .i64 0, .int .i64 250]) ∧ Below w.heap.size w w' :=
  (room_any L U k w).mono fun e w' ⟨he, hB⟩ => ⟨he.trans (by rw [roomV, if_neg (by rw [h]; decide)]), hB⟩
theorem qw_limit {L U : Nat → Int} (h : rightB L U = false) (k n : Int) (w : World) :
    Calls Try.prog 15 #[.agg (bk L U), .int .i64 k, .int .i64 n] w fun e w' => e = .returned (.tuple #[v8 0 0 0 0 0 0 0 0, .int .i64 250]) ∧ Below w.heap.size w w' :=
  (limit_any L U k n w).mono fun e w' ⟨he, hB⟩ => ⟨he.trans (by rw [limR, if_pos h]; rfl), hB⟩
theorem qw_roomk {L U : Nat → Int} (hm : MB L U) {k : Int} (hk : isB k = false) (w : World) :
    Calls Try.prog 16 #[.agg (bk L U), .int .i64 k] w fun e w' => e = .returned (.tuple #[.int .i64 0, .int .i64 2]) ∧ Below w.heap.size w w' :=
  (room_any L U k w).mono fun e w' ⟨he, hB⟩ => ⟨he.trans (by rw [roomV, if_pos hm.right, if_neg (by rw [hk]; decide)]), hB⟩
theorem qw_limitk {L U : Nat → Int} (hm : MB L U) {k : Int} (hk : isB k = false) (n : Int) (w : World) :
    Calls Try.prog 15 #[.agg (bk L U), .int .i64 k, .int .i64 n] w fun e w' => e = .returned (.tuple #[v8 0 0 0 0 0 0 0 0, .int .i64 2]) ∧ Below w.heap.size w w' :=
  (limit_any L U k n w).mono fun e w' ⟨he, hB⟩ => ⟨he.trans (by rw [limR, if_neg (by rw [hm.right]; decide), if_pos hk]; rfl), hB⟩
theorem qw_limj {L U : Nat → Int} (hm : MB L U) (j : Nat) (hj : j < 4) (n : Int) (hn : n < 0 ∨ 1099511627776 < n) (w : World) :
    Calls Try.prog 15 #[.agg (bk L U), .int .i64 (j : Int), .int .i64 n] w fun e w' => e = .returned (.tuple #[v8 0 0 0 0 0 0 0 0, .int .i64 250]) ∧ Below w.heap.size w w' := by
  refine (limit_any L U j n w).mono fun e w' ⟨he, hB⟩ => ⟨he.trans ?_, hB⟩
  have h1 := hm.lim j hj
  have h2 := hm.use j hj
  have hr : rightB (upd L j n) U = false := wrong_of j hj (by simp only [upd, if_pos]; omega)
  rw [limR, if_neg (by rw [hm.right]; decide), if_neg (by rw [(isB_iff _).2 ⟨by omega, by omega⟩]; decide), Int.toNat_natCast, if_neg (by omega), if_neg (by rw [hr]; decide)]
  rfl
theorem qw_name {k : Int} (hk : isB k = false) (w : World) :
    Calls Try.prog 22 #[.int .i64 k] w fun e w' => e = .returned (.string ⟨#[]⟩) ∧ Below w.heap.size w w' :=
  (name_any k w).mono fun e w' ⟨he, hB⟩ => ⟨he.trans (by
    have := (isB_no k).1 hk
    unfold kindNames; rw [if_neg (by omega), if_neg (by omega), if_neg (by omega), if_neg (by omega)]), hB⟩
theorem qw_back {cs : List (Int × Int)} {f : Int} (h : chkV cs = f) (h0 : ¬ f = 0) (v : Value) (w : World) (hs : SrcC w v cs) :
    Calls Try.prog 20 #[v] w fun e w' => e = .returned (.tuple #[.slice none 0 0, .int .i64 f]) ∧ Below w.heap.size w w' :=
  (back_no v cs w hs (by rw [h]; exact h0)).mono fun e w' ⟨he, hB⟩ => ⟨he.trans (by rw [h]), hB⟩
theorem qw_sum {cs : List (Int × Int)} {f : Int} (h : chkV cs = f) (h0 : ¬ f = 0) (v : Value) (w : World) (hs : SrcC w v cs) :
    Calls Try.prog 18 #[v] w fun e w' => e = .returned (.tuple #[v4 0 0 0 0, .int .i64 f]) ∧ Below w.heap.size w w' :=
  (sum_no v cs w hs (by rw [h]; exact h0)).mono fun e w' ⟨he, hB⟩ => ⟨he.trans (by rw [h]; rfl), hB⟩
theorem qw_right {L U : Nat → Int} (h : rightB L U = false) (w : World) : Calls Try.prog 19 #[.agg (bk L U)] w fun e w' => e = .returned (.bool false) ∧ Below w.heap.size w w' :=
  (right_any L U w).mono fun e w' ⟨he, hB⟩ => ⟨he.trans (by rw [h]), hB⟩
theorem qw_charges {cs : List (Int × Int)} {f : Int} (h : chkV cs = f) (h0 : ¬ f = 0) (v : Value) (w : World) (hs : SrcC w v cs) :
    Calls Try.prog 21 #[v] w fun e w' => e = .returned (.bool false) ∧ Below w.heap.size w w' :=
  (charges_any v cs w hs).mono fun e w' ⟨he, hB⟩ => ⟨he.trans (by rw [h]; simp [h0]), hB⟩
theorem qw_chargesok {cs : List (Int × Int)} (h : MC cs) (v : Value) (w : World) (hs : SrcC w v cs) :
    Calls Try.prog 21 #[v] w fun e w' => e = .returned (.bool true) ∧ Below w.heap.size w w' :=
  (charges_any v cs w hs).mono fun e w' ⟨he, hB⟩ => ⟨he.trans (by rw [h.chk]; rfl), hB⟩
theorem both_chk {L U : Nat → Int} {cs : List (Int × Int)} (hm : MB L U) (h : chkV cs = 251) : bothV L U cs = 251 := by rw [bothV, if_pos hm.right, h]
theorem five_get (x : Value) (k : Nat) (hk : k < 5) : (#[x, x, x, x, x] : Array Value)[k]? = some x := by
  have : k = 0 ∨ k = 1 ∨ k = 2 ∨ k = 3 ∨ k = 4 := by omega
  rcases this with rfl | rfl | rfl | rfl | rfl <;> rfl
theorem two_get {x1 x2 : Int} (h1 : x1 < 0) (h2 : 4 ≤ x2) (k : Nat) (hk : k < 2) : ∃ z : Int, (#[.int .i64 x1, .int .i64 x2] : Array Value)[k]? = some (.int .i64 z) ∧ isB z = false := by
  have : k = 0 ∨ k = 1 := by omega
  rcases this with rfl | rfl
  · exact ⟨x1, rfl, (isB_no _).2 (.inl h1)⟩
  · exact ⟨x2, rfl, (isB_no _).2 (.inr h2)⟩

set_option maxRecDepth 100000 in
set_option maxHeartbeats 8000000 in
theorem qwrong_any (haw : AwakeC) (a b : Nat → Int) (ha : ∀ j, j < 4 → 0 ≤ a j ∧ a j ≤ 255) (hb : ∀ j, j < 4 → 0 ≤ b j ∧ b j ≤ 255) (v : Value) (xs : List Int) (w : World) (hs : SrcE e16 w v xs) (hx : ∀ x ∈ xs, 0 ≤ x ∧ x ≤ 65535) (q n : Int)
    (L U : Nat → Int) (cs : List (Int × Int)) (hL : mL a = L) (hU : mU a b = U) (hcs : mC xs = cs) (hm : MB L U) (hc : MC cs)
    (q0 : 0 ≤ q) (q1 : q ≤ 255) (n0 : -9223372036854775808 ≤ n) (n1 : n ≤ 9223372036854775807) :
    Calls Try.prog 8 #[.agg (a8 a), .agg (a8 b), v, .int .u8 q, .int .i64 n] w fun e w' => e = .returned (.bool true) ∧ Below w.heap.size w w' := by
  have H_haw := Hd.mk haw
  have H_hs := Hd.mk hs
  have H_hx := Hd.mk hx
  have H_hL := Hd.mk hL
  have H_hU := Hd.mk hU
  have H_hcs := Hd.mk hcs
  have H_hm := Hd.mk hm
  have H_hc := Hd.mk hc
  have hlen := hc.len
  clear haw hs hx hL hU hcs hm hc
  obtain ⟨p0, p1, p2⟩ := push2 w (.cells (a8 a) 22) (.cells (a8 b) 22)
  have HP1 := Hd.mk p1
  have HP2 := Hd.mk p2
  have HW0 : Hd (Below w.heap.size w ((w.alloc (.cells (a8 a) 22)).alloc (.cells (a8 b) 22))) := ⟨((Below.refl _ _).alloc (Nat.le_refl _) _).alloc (by simp) _⟩
  have HSX := Hd.mk (H_hs.out.below (k0qw w (.cells (a8 a) 22) (.cells (a8 b) 22)))
  have HA := Hd.mk ha
  have HBb := Hd.mk hb
  clear ha hb p0 p1 p2
  obtain ⟨va, vc, rfl⟩ := H_hs.out.shape
  clear H_hs
  go_enter Try.func8, Try.ntmps8
  go_wp2_with fail
  refine (H_haw.out _).mono ?_
  rintro e w1 ⟨rfl, hB1⟩
  have h1 := keep HP1.out hB1
  have h2 := keep HP2.out hB1
  have HB_1 := Hd.mk (HW0.out.trans (hB1.mono (by simp; omega)))
  have HS1 := Hd.mk (HSX.out.below hB1)
  obtain ⟨c0, c1, c2, c3⟩ := a8_cells h1
  obtain ⟨d0, d1, d2, d3⟩ := a8_cells h2
  clear h1 h2 HP1 HP2 HW0 hB1 HSX
  go_wp2_with fail
  refine (made_any a b HA.out HBb.out _ xs _ HS1.out H_hx.out).mono ?_
  rw [H_hL.out, H_hU.out, H_hcs.out]
  rintro e w2 ⟨v', rfl, hv, hB2⟩
  have HSV := Hd.mk hv.src
  have HB2 := Hd.mk (ch4 HB_1.out hB2)
  clear hv c0 c1 c2 c3 d0 d1 d2 d3 HA HBb HB_1 hB2 HS1
  obtain ⟨va', vc', rfl⟩ := HSV.out.shape
  simp only [bk]
  go_upto_region 4 with fail
  obtain ⟨W2, hW⟩ : ∃ W, W = w2.alloc (.cells (bk L U) 27) := ⟨_, rfl⟩
  have hX : Below w2.heap.size w2 W2 := by rw [hW]; exact (Below.refl _ _).alloc (Nat.le_refl _) _
  have hT : W2.heap[w2.heap.size]? = some (.cells (bk L U) 27 (0, 0)) := by rw [hW]; exact World.alloc_heap_new _ _
  simp only [bk] at hW
  rw [← hW]
  have HT11_b2 := Hd.mk hT
  clear hW hT
  have HB_c2 := Hd.mk (ch4 HB2.out hX)
  have SV_c2 := Hd.mk (HSV.out.below hX)
  clear HB2 HSV
  clear hX
  obtain ⟨c0, c1, c2, c3, c4, c5, c6, c7⟩ := lit8 HT11_b2.out
  go_upto_region 5 with fail
  clear c0 c1 c2 c3 c4 c5 c6 c7
  obtain ⟨W4, hW⟩ : ∃ W, W = W2.alloc (.cells (bk L U) 27) := ⟨_, rfl⟩
  have hX : Below W2.heap.size W2 W4 := by rw [hW]; exact (Below.refl _ _).alloc (Nat.le_refl _) _
  have hT : W4.heap[W2.heap.size]? = some (.cells (bk L U) 27 (0, 0)) := by rw [hW]; exact World.alloc_heap_new _ _
  simp only [bk] at hW
  rw [← hW]
  have HT13 := Hd.mk hT
  have HX4 := Hd.mk hX
  clear hW hT hX
  obtain ⟨j, hj⟩ : ∃ j : Nat, q / 4 % 4 = (j : Int) := ⟨(q / 4 % 4).toNat, by omega⟩
  obtain ⟨r, hr⟩ : ∃ r : Int, q % 4 = r := ⟨_, rfl⟩
  have hj4 : j < 4 := by omega
  have r0 : 0 ≤ r := by omega
  have r1 : r < 4 := by omega
  have j0 : (0 : Int) ≤ (j : Int) := by omega
  have j1 : (j : Int) < 4 := by omega
  have HJ := Hd.mk hj4
  have HJE := Hd.mk hj
  have HRE := Hd.mk hr
  clear hj hr hj4
  go_upto_region 6 with fail
  have hj' := HJE.out
  have hr' := HRE.out
  simp only [hj']
  clear hj'
  go_upto_block 0 with fail
  simp only [hr']
  clear hr' HJE
  refine rB0 n r j L U W2 W4 n0 n1 r0 r1 j0 j1 HJ H_hm HT13 HX4 _ ?_
  intro u64 u65 u66 u67 u68 u69 u70 u71 u72 u73 u74 u75 u76 u77 u78 u79 u80 u81 u82 u83 u84 u85 u86 u87 u88 u89 u90 u91 u92 u93 u94 u95 u96 u97 BL BU wc hT hBF hB
  have HT13' := Hd.mk hT
  have HBF := Hd.mk hBF
  clear hT hBF HT13 HX4
  have HB_5 := Hd.mk (ch4 HB_c2.out hB)
  have HT11_5 := Hd.mk (keep HT11_b2.out hB)
  have SV_5 := Hd.mk (SV_c2.out.below hB)
  clear HB_c2 HT11_b2 SV_c2
  clear hB
  go_upto_region 14 with fail
  obtain ⟨x1, hx1⟩ : ∃ x : Int, (if -1 < n then -1 else n) = x := ⟨_, rfl⟩
  obtain ⟨x2, hx2⟩ : ∃ x : Int, (if n < 4 then 4 else n) = x := ⟨_, rfl⟩
  obtain ⟨x3, hx3⟩ : ∃ x : Int, (if -1099511627777 < n then -1099511627777 else n) = x := ⟨_, rfl⟩
  obtain ⟨x4, hx4⟩ : ∃ x : Int, (if n < 1099511627777 then 1099511627777 else n) = x := ⟨_, rfl⟩
  have hr' := HRE.out
  have hr2 : Int.tmod q 4 = r := by rw [Int.tmod_eq_emod_of_nonneg q0]; exact hr'
  obtain ⟨rn, rfl⟩ : ∃ rn : Nat, r = (rn : Int) := ⟨r.toNat, by omega⟩
  obtain ⟨y1, y2, hyl, hyo⟩ := wrong_pick hx1 hx2 hx3 hx4 rn (by omega)
  have HYL := Hd.mk hyl
  have HYO := Hd.mk hyo
  clear hyl hyo
  refine r14 q n x1 x2 x3 x4 y1 y2 rn va' vc' cs _ q0 q1 H_hc.out.len hx1 hx2 hx3 hx4 hr2 (by omega) HYL SV_5 _ (fun _ _ _ _ _ h => h) ?_
  intro b0 b4 bX v2 va3 vc3 wx hsw hBx
  have HB_6 := Hd.mk (ch4 HB_5.out hBx)
  have HT11_6 := Hd.mk (keep HT11_5.out hBx)
  have HT13_6 := Hd.mk (keep HT13'.out hBx)
  have SV_6 := Hd.mk (SV_5.out.below hBx)
  clear HB_5 HT11_5 HT13' SV_5
  have HSW := Hd.mk hsw
  clear hBx hsw hr' hr2 hx3 hx4
  obtain ⟨Wz, hWz⟩ : ∃ x, x = wx := ⟨_, rfl⟩
  subst hWz
  have hl1 : (cs ++ [(y1, y2)]).length = cs.length + 1 := by simp
  have HCB : Hd (chkV (cs ++ [(y1, y2)]) = 251) := ⟨chk_bad H_hc.out HYO.out⟩
  clear hl1
  obtain ⟨c0, c1, c2, c3, c4, c5, c6, c7⟩ := lit8 HT13_6.out
  go_wp2_with fail
  refine (qw_steps (both_wrong HBF.out) (by decide) _ _ HSW.out).mono ?_
  rintro e w7 ⟨rfl, hB⟩
  have HB_7 := Hd.mk (ch4 HB_6.out hB)
  have HT11_7 := Hd.mk (keep HT11_6.out hB)
  have HT13_7 := Hd.mk (keep HT13_6.out hB)
  have SV_7 := Hd.mk (SV_6.out.below hB)
  have SW_7 := Hd.mk (HSW.out.below hB)
  clear HB_6 HT11_6 HT13_6 SV_6 HSW
  clear hB
  clear c0 c1 c2 c3 c4 c5 c6 c7
  go_upto_region 16 with fail
  obtain ⟨W7, hW⟩ : ∃ W, W = w7.alloc (.cells #[.int .i64 0, .int .i64 0, .int .i64 0, .int .i64 0, .int .i64 0, .int .i64 0, .int .i64 0, .int .i64 0] 27) := ⟨_, rfl⟩
  have hX : Below w7.heap.size w7 W7 := by rw [hW]; exact (Below.refl _ _).alloc (Nat.le_refl _) _
  have hT : W7.heap[w7.heap.size]? = some (.cells #[.int .i64 0, .int .i64 0, .int .i64 0, .int .i64 0, .int .i64 0, .int .i64 0, .int .i64 0, .int .i64 0] 27 (0, 0)) := by rw [hW]; exact World.alloc_heap_new _ _
  rw [← hW]
  clear hW
  have HT16 := Hd.mk hT
  clear hT
  have HB_c7 := Hd.mk (ch4 HB_7.out hX)
  have HT11_c7 := Hd.mk (keep HT11_7.out hX)
  have HT13_c7 := Hd.mk (keep HT13_7.out hX)
  have SV_c7 := Hd.mk (SV_7.out.below hX)
  have SW_c7 := Hd.mk (SW_7.out.below hX)
  clear HB_7 HT11_7 HT13_7 SV_7 SW_7
  clear hX
  obtain ⟨c0, c1, c2, c3, c4, c5, c6, c7⟩ := lit8 HT13_c7.out
  go_wp2_with fail
  refine (qw_bar (both_wrong HBF.out) (by decide) _ _ SW_c7.out).mono ?_
  rintro e w8 ⟨rfl, hB⟩
  have HB_8 := Hd.mk (ch4 HB_c7.out hB)
  have HT11_8 := Hd.mk (keep HT11_c7.out hB)
  have HT13_8 := Hd.mk (keep HT13_c7.out hB)
  have HT16_8 := Hd.mk (keep HT16.out hB)
  have SV_8 := Hd.mk (SV_c7.out.below hB)
  have SW_8 := Hd.mk (SW_c7.out.below hB)
  clear HB_c7 HT11_c7 HT13_c7 HT16 SV_c7 SW_c7
  clear hB
  clear c0 c1 c2 c3 c4 c5 c6 c7
  go_upto_region 17 with fail
  obtain ⟨W8, hW⟩ : ∃ W, W = w8.alloc (.cells #[.int .i64 0, .int .i64 0, .int .i64 0, .int .i64 0, .int .i64 0, .int .i64 0, .int .i64 0, .int .i64 0] 27) := ⟨_, rfl⟩
  have hX : Below w8.heap.size w8 W8 := by rw [hW]; exact (Below.refl _ _).alloc (Nat.le_refl _) _
  have hT : W8.heap[w8.heap.size]? = some (.cells #[.int .i64 0, .int .i64 0, .int .i64 0, .int .i64 0, .int .i64 0, .int .i64 0, .int .i64 0, .int .i64 0] 27 (0, 0)) := by rw [hW]; exact World.alloc_heap_new _ _
  rw [← hW]
  clear hW
  have HT19 := Hd.mk hT
  clear hT
  have HB_c8 := Hd.mk (ch4 HB_8.out hX)
  have HT11_c8 := Hd.mk (keep HT11_8.out hX)
  have HT13_c8 := Hd.mk (keep HT13_8.out hX)
  have HT16_c8 := Hd.mk (keep HT16_8.out hX)
  have SV_c8 := Hd.mk (SV_8.out.below hX)
  have SW_c8 := Hd.mk (SW_8.out.below hX)
  clear HB_8 HT11_8 HT13_8 HT16_8 SV_8 SW_8
  clear hX
  obtain ⟨c0, c1, c2, c3, c4, c5, c6, c7⟩ := lit8 HT13_c8.out
  go_wp2_with fail
  refine (qw_peak (both_wrong HBF.out) (by decide) _ _ SW_c8.out).mono ?_
  rintro e w9 ⟨rfl, hB⟩
  have HB_9 := Hd.mk (ch4 HB_c8.out hB)
  have HT11_9 := Hd.mk (keep HT11_c8.out hB)
  have HT13_9 := Hd.mk (keep HT13_c8.out hB)
  have HT16_9 := Hd.mk (keep HT16_c8.out hB)
  have HT19_9 := Hd.mk (keep HT19.out hB)
  have SV_9 := Hd.mk (SV_c8.out.below hB)
  have SW_9 := Hd.mk (SW_c8.out.below hB)
  clear HB_c8 HT11_c8 HT13_c8 HT16_c8 HT19 SV_c8 SW_c8
  clear hB
  clear c0 c1 c2 c3 c4 c5 c6 c7
  go_upto_region 18 with fail
  obtain ⟨W9, hW⟩ : ∃ W, W = w9.alloc (.cells #[.int .i64 0, .int .i64 0, .int .i64 0, .int .i64 0] 25) := ⟨_, rfl⟩
  have hX : Below w9.heap.size w9 W9 := by rw [hW]; exact (Below.refl _ _).alloc (Nat.le_refl _) _
  rw [← hW]
  clear hW
  have HB_c9 := Hd.mk (ch4 HB_9.out hX)
  have HT11_c9 := Hd.mk (keep HT11_9.out hX)
  have HT13_c9 := Hd.mk (keep HT13_9.out hX)
  have HT16_c9 := Hd.mk (keep HT16_9.out hX)
  have HT19_c9 := Hd.mk (keep HT19_9.out hX)
  have SV_c9 := Hd.mk (SV_9.out.below hX)
  have SW_c9 := Hd.mk (SW_9.out.below hX)
  clear HB_9 HT11_9 HT13_9 HT16_9 HT19_9 SV_9 SW_9
  clear hX
  obtain ⟨c0, c1, c2, c3, c4, c5, c6, c7⟩ := lit8 HT13_c9.out
  go_wp2_with fail
  refine (qw_room HBF.out _ _).mono ?_
  rintro e w10 ⟨rfl, hB⟩
  have HB_10 := Hd.mk (ch4 HB_c9.out hB)
  have HT11_10 := Hd.mk (keep HT11_c9.out hB)
  have HT13_10 := Hd.mk (keep HT13_c9.out hB)
  have HT16_10 := Hd.mk (keep HT16_c9.out hB)
  have HT19_10 := Hd.mk (keep HT19_c9.out hB)
  have SV_10 := Hd.mk (SV_c9.out.below hB)
  have SW_10 := Hd.mk (SW_c9.out.below hB)
  clear HB_c9 HT11_c9 HT13_c9 HT16_c9 HT19_c9 SV_c9 SW_c9
  clear hB
  clear c0 c1 c2 c3 c4 c5 c6 c7
  obtain ⟨c0, c1, c2, c3, c4, c5, c6, c7⟩ := lit8 HT13_10.out
  go_wp2_with fail
  refine (qw_limit HBF.out _ _ _).mono ?_
  rintro e w11 ⟨rfl, hB⟩
  have HB_11 := Hd.mk (ch4 HB_10.out hB)
  have HT11_11 := Hd.mk (keep HT11_10.out hB)
  have HT13_11 := Hd.mk (keep HT13_10.out hB)
  have HT16_11 := Hd.mk (keep HT16_10.out hB)
  have HT19_11 := Hd.mk (keep HT19_10.out hB)
  have SV_11 := Hd.mk (SV_10.out.below hB)
  have SW_11 := Hd.mk (SW_10.out.below hB)
  clear HB_10 HT11_10 HT13_10 HT16_10 HT19_10 SV_10 SW_10
  clear hB
  clear c0 c1 c2 c3 c4 c5 c6 c7
  go_upto_region 20 with fail
  obtain ⟨W11, hW⟩ : ∃ W, W = w11.alloc (.cells #[.int .i64 0, .int .i64 0, .int .i64 0, .int .i64 0, .int .i64 0, .int .i64 0, .int .i64 0, .int .i64 0] 27) := ⟨_, rfl⟩
  have hX : Below w11.heap.size w11 W11 := by rw [hW]; exact (Below.refl _ _).alloc (Nat.le_refl _) _
  rw [← hW]
  clear hW
  have HB_c11 := Hd.mk (ch4 HB_11.out hX)
  have HT11_c11 := Hd.mk (keep HT11_11.out hX)
  have HT13_c11 := Hd.mk (keep HT13_11.out hX)
  have HT16_c11 := Hd.mk (keep HT16_11.out hX)
  have HT19_c11 := Hd.mk (keep HT19_11.out hX)
  have SV_c11 := Hd.mk (SV_11.out.below hX)
  have SW_c11 := Hd.mk (SW_11.out.below hX)
  clear HB_11 HT11_11 HT13_11 HT16_11 HT19_11 SV_11 SW_11
  clear hX
  go_upto_region 21 with fail
  obtain ⟨W12, hW⟩ : ∃ W, W = W11.alloc (.cells #[.int .i64 250, .int .i64 250, .int .i64 250, .int .i64 250, .int .i64 250] 33) := ⟨_, rfl⟩
  have hX : Below W11.heap.size W11 W12 := by rw [hW]; exact (Below.refl _ _).alloc (Nat.le_refl _) _
  have hT : W12.heap[W11.heap.size]? = some (.cells #[.int .i64 250, .int .i64 250, .int .i64 250, .int .i64 250, .int .i64 250] 33 (0, 0)) := by rw [hW]; exact World.alloc_heap_new _ _
  rw [← hW]
  clear hW
  have HE12 := Hd.mk hT
  clear hT
  have HB_c12 := Hd.mk (ch4 HB_c11.out hX)
  have HT11_c12 := Hd.mk (keep HT11_c11.out hX)
  have HT13_c12 := Hd.mk (keep HT13_c11.out hX)
  have HT16_c12 := Hd.mk (keep HT16_c11.out hX)
  have HT19_c12 := Hd.mk (keep HT19_c11.out hX)
  have SV_c12 := Hd.mk (SV_c11.out.below hX)
  have SW_c12 := Hd.mk (SW_c11.out.below hX)
  clear HB_c11 HT11_c11 HT13_c11 HT16_c11 HT19_c11 SV_c11 SW_c11
  clear hX
  go_loopw [157] (fun i W => ∃ k : Nat, k ≤ 5 ∧ i = .int .i64 k ∧ Below W12.heap.size W12 W) (fun i _ => 5 - (intOf i).toNat)
  case atStart => exact ⟨0, Nat.zero_le _, rfl, Below.refl _ _⟩
  case round =>
    obtain ⟨k, hk, rfl, hB⟩ := hrel
    have HRB12 := Hd.mk hB
    by_cases hlt : k < 5
    · have hE := keep HE12.out hB
      have hc : wr.cell? ⟨_, k, none⟩ = some (.int .i64 250) := (cells_cell hE k).trans (five_get _ k hlt)
      have k0 : (0 : Int) ≤ (k : Int) := by omega
      have k1 : (k : Int) < 5 := by omega
      clear hB hE
      go_wp2_with fail
      go_roundw
      case rel => exact ⟨k + 1, hlt, by go_num, HRB12.out⟩
      case measure => simp [intOf] <;> omega
    · obtain rfl : k = 5 := by omega
      clear hlt hk HRB12
      have HB_13 := Hd.mk (ch4 HB_c12.out hB)
      have HT11_13 := Hd.mk (keep HT11_c12.out hB)
      have HT13_13 := Hd.mk (keep HT13_c12.out hB)
      have HT16_13 := Hd.mk (keep HT16_c12.out hB)
      have HT19_13 := Hd.mk (keep HT19_c12.out hB)
      have HE12_13 := Hd.mk (keep HE12.out hB)
      have SV_13 := Hd.mk (SV_c12.out.below hB)
      have SW_13 := Hd.mk (SW_c12.out.below hB)
      clear HB_c12 HT11_c12 HT13_c12 HT16_c12 HT19_c12 HE12 SV_c12 SW_c12
      clear hB
      obtain ⟨c0, c1, c2, c3, c4, c5, c6, c7⟩ := lit8 HT11_13.out
      go_wp2_with fail
      refine (qw_steps (both_chk H_hm.out HCB.out) (by decide) _ _ SW_13.out).mono ?_
      rintro e w14 ⟨rfl, hB⟩
      have HB_14 := Hd.mk (ch4 HB_13.out hB)
      have HT11_14 := Hd.mk (keep HT11_13.out hB)
      have HT13_14 := Hd.mk (keep HT13_13.out hB)
      have HT16_14 := Hd.mk (keep HT16_13.out hB)
      have HT19_14 := Hd.mk (keep HT19_13.out hB)
      have SV_14 := Hd.mk (SV_13.out.below hB)
      have SW_14 := Hd.mk (SW_13.out.below hB)
      clear HB_13 HT11_13 HT13_13 HT16_13 HT19_13 SV_13 SW_13
      clear hB
      clear c0 c1 c2 c3 c4 c5 c6 c7
      go_upto_region 27 with fail
      obtain ⟨W14, hW⟩ : ∃ W, W = w14.alloc (.cells #[.int .i64 0, .int .i64 0, .int .i64 0, .int .i64 0, .int .i64 0, .int .i64 0, .int .i64 0, .int .i64 0] 27) := ⟨_, rfl⟩
      have hX : Below w14.heap.size w14 W14 := by rw [hW]; exact (Below.refl _ _).alloc (Nat.le_refl _) _
      have hT : W14.heap[w14.heap.size]? = some (.cells #[.int .i64 0, .int .i64 0, .int .i64 0, .int .i64 0, .int .i64 0, .int .i64 0, .int .i64 0, .int .i64 0] 27 (0, 0)) := by rw [hW]; exact World.alloc_heap_new _ _
      rw [← hW]
      clear hW
      have HT30 := Hd.mk hT
      clear hT
      have HB_c14 := Hd.mk (ch4 HB_14.out hX)
      have HT11_c14 := Hd.mk (keep HT11_14.out hX)
      have HT13_c14 := Hd.mk (keep HT13_14.out hX)
      have HT16_c14 := Hd.mk (keep HT16_14.out hX)
      have HT19_c14 := Hd.mk (keep HT19_14.out hX)
      have SV_c14 := Hd.mk (SV_14.out.below hX)
      have SW_c14 := Hd.mk (SW_14.out.below hX)
      clear HB_14 HT11_14 HT13_14 HT16_14 HT19_14 SV_14 SW_14
      clear hX
      obtain ⟨c0, c1, c2, c3, c4, c5, c6, c7⟩ := lit8 HT11_c14.out
      go_wp2_with fail
      refine (qw_bar (both_chk H_hm.out HCB.out) (by decide) _ _ SW_c14.out).mono ?_
      rintro e w15 ⟨rfl, hB⟩
      have HB_15 := Hd.mk (ch4 HB_c14.out hB)
      have HT11_15 := Hd.mk (keep HT11_c14.out hB)
      have HT13_15 := Hd.mk (keep HT13_c14.out hB)
      have HT16_15 := Hd.mk (keep HT16_c14.out hB)
      have HT19_15 := Hd.mk (keep HT19_c14.out hB)
      have HT30_15 := Hd.mk (keep HT30.out hB)
      have SV_15 := Hd.mk (SV_c14.out.below hB)
      have SW_15 := Hd.mk (SW_c14.out.below hB)
      clear HB_c14 HT11_c14 HT13_c14 HT16_c14 HT19_c14 HT30 SV_c14 SW_c14
      clear hB
      clear c0 c1 c2 c3 c4 c5 c6 c7
      go_upto_region 28 with fail
      obtain ⟨W15, hW⟩ : ∃ W, W = w15.alloc (.cells #[.int .i64 0, .int .i64 0, .int .i64 0, .int .i64 0, .int .i64 0, .int .i64 0, .int .i64 0, .int .i64 0] 27) := ⟨_, rfl⟩
      have hX : Below w15.heap.size w15 W15 := by rw [hW]; exact (Below.refl _ _).alloc (Nat.le_refl _) _
      have hT : W15.heap[w15.heap.size]? = some (.cells #[.int .i64 0, .int .i64 0, .int .i64 0, .int .i64 0, .int .i64 0, .int .i64 0, .int .i64 0, .int .i64 0] 27 (0, 0)) := by rw [hW]; exact World.alloc_heap_new _ _
      rw [← hW]
      clear hW
      have HT32 := Hd.mk hT
      clear hT
      have HB_c15 := Hd.mk (ch4 HB_15.out hX)
      have HT11_c15 := Hd.mk (keep HT11_15.out hX)
      have HT13_c15 := Hd.mk (keep HT13_15.out hX)
      have HT16_c15 := Hd.mk (keep HT16_15.out hX)
      have HT19_c15 := Hd.mk (keep HT19_15.out hX)
      have HT30_c15 := Hd.mk (keep HT30_15.out hX)
      have SV_c15 := Hd.mk (SV_15.out.below hX)
      have SW_c15 := Hd.mk (SW_15.out.below hX)
      clear HB_15 HT11_15 HT13_15 HT16_15 HT19_15 HT30_15 SV_15 SW_15
      clear hX
      obtain ⟨c0, c1, c2, c3, c4, c5, c6, c7⟩ := lit8 HT11_c15.out
      go_wp2_with fail
      refine (qw_peak (both_chk H_hm.out HCB.out) (by decide) _ _ SW_c15.out).mono ?_
      rintro e w16 ⟨rfl, hB⟩
      have HB_16 := Hd.mk (ch4 HB_c15.out hB)
      have HT11_16 := Hd.mk (keep HT11_c15.out hB)
      have HT13_16 := Hd.mk (keep HT13_c15.out hB)
      have HT16_16 := Hd.mk (keep HT16_c15.out hB)
      have HT19_16 := Hd.mk (keep HT19_c15.out hB)
      have HT30_16 := Hd.mk (keep HT30_c15.out hB)
      have HT32_16 := Hd.mk (keep HT32.out hB)
      have SV_16 := Hd.mk (SV_c15.out.below hB)
      have SW_16 := Hd.mk (SW_c15.out.below hB)
      clear HB_c15 HT11_c15 HT13_c15 HT16_c15 HT19_c15 HT30_c15 HT32 SV_c15 SW_c15
      clear hB
      clear c0 c1 c2 c3 c4 c5 c6 c7
      go_wp2_with fail
      refine (qw_back HCB.out (by decide) _ _ SW_16.out).mono ?_
      rintro e w17 ⟨rfl, hB⟩
      have HB_17 := Hd.mk (ch4 HB_16.out hB)
      have HT11_17 := Hd.mk (keep HT11_16.out hB)
      have HT13_17 := Hd.mk (keep HT13_16.out hB)
      have HT16_17 := Hd.mk (keep HT16_16.out hB)
      have HT19_17 := Hd.mk (keep HT19_16.out hB)
      have HT30_17 := Hd.mk (keep HT30_16.out hB)
      have HT32_17 := Hd.mk (keep HT32_16.out hB)
      have SV_17 := Hd.mk (SV_16.out.below hB)
      have SW_17 := Hd.mk (SW_16.out.below hB)
      clear HB_16 HT11_16 HT13_16 HT16_16 HT19_16 HT30_16 HT32_16 SV_16 SW_16
      clear hB
      go_wp2_with fail
      refine (qw_sum HCB.out (by decide) _ _ SW_17.out).mono ?_
      rintro e w18 ⟨rfl, hB⟩
      have HB_18 := Hd.mk (ch4 HB_17.out hB)
      have HT11_18 := Hd.mk (keep HT11_17.out hB)
      have HT13_18 := Hd.mk (keep HT13_17.out hB)
      have HT16_18 := Hd.mk (keep HT16_17.out hB)
      have HT19_18 := Hd.mk (keep HT19_17.out hB)
      have HT30_18 := Hd.mk (keep HT30_17.out hB)
      have HT32_18 := Hd.mk (keep HT32_17.out hB)
      have SV_18 := Hd.mk (SV_17.out.below hB)
      have SW_18 := Hd.mk (SW_17.out.below hB)
      clear HB_17 HT11_17 HT13_17 HT16_17 HT19_17 HT30_17 HT32_17 SV_17 SW_17
      clear hB
      go_upto_region 32 with fail
      obtain ⟨W19, hW⟩ : ∃ W, W = w18.alloc (.cells #[.int .i64 251, .int .i64 251, .int .i64 251, .int .i64 251, .int .i64 251] 33) := ⟨_, rfl⟩
      have hX : Below w18.heap.size w18 W19 := by rw [hW]; exact (Below.refl _ _).alloc (Nat.le_refl _) _
      have hT : W19.heap[w18.heap.size]? = some (.cells #[.int .i64 251, .int .i64 251, .int .i64 251, .int .i64 251, .int .i64 251] 33 (0, 0)) := by rw [hW]; exact World.alloc_heap_new _ _
      rw [← hW]
      clear hW
      have HE19 := Hd.mk hT
      clear hT
      have HB_c19 := Hd.mk (ch4 HB_18.out hX)
      have HT11_c19 := Hd.mk (keep HT11_18.out hX)
      have HT13_c19 := Hd.mk (keep HT13_18.out hX)
      have HT16_c19 := Hd.mk (keep HT16_18.out hX)
      have HT19_c19 := Hd.mk (keep HT19_18.out hX)
      have HT30_c19 := Hd.mk (keep HT30_18.out hX)
      have HT32_c19 := Hd.mk (keep HT32_18.out hX)
      have SV_c19 := Hd.mk (SV_18.out.below hX)
      have SW_c19 := Hd.mk (SW_18.out.below hX)
      clear HB_18 HT11_18 HT13_18 HT16_18 HT19_18 HT30_18 HT32_18 SV_18 SW_18
      clear hX
      go_loopw [201] (fun i W => ∃ k : Nat, k ≤ 5 ∧ i = .int .i64 k ∧ Below W19.heap.size W19 W) (fun i _ => 5 - (intOf i).toNat)
      case atStart => exact ⟨0, Nat.zero_le _, rfl, Below.refl _ _⟩
      case round =>
        obtain ⟨k, hk, rfl, hB⟩ := hrel
        have HRB19 := Hd.mk hB
        by_cases hlt : k < 5
        · have hE := keep HE19.out hB
          have hc : wr.cell? ⟨_, k, none⟩ = some (.int .i64 251) := (cells_cell hE k).trans (five_get _ k hlt)
          have k0 : (0 : Int) ≤ (k : Int) := by omega
          have k1 : (k : Int) < 5 := by omega
          clear hB hE
          go_wp2_with fail
          go_roundw
          case rel => exact ⟨k + 1, hlt, by go_num, HRB19.out⟩
          case measure => simp [intOf] <;> omega
        · obtain rfl : k = 5 := by omega
          clear hlt hk HRB19
          have HB_20 := Hd.mk (ch4 HB_c19.out hB)
          have HT11_20 := Hd.mk (keep HT11_c19.out hB)
          have HT13_20 := Hd.mk (keep HT13_c19.out hB)
          have HT16_20 := Hd.mk (keep HT16_c19.out hB)
          have HT19_20 := Hd.mk (keep HT19_c19.out hB)
          have HT30_20 := Hd.mk (keep HT30_c19.out hB)
          have HT32_20 := Hd.mk (keep HT32_c19.out hB)
          have HE19_20 := Hd.mk (keep HE19.out hB)
          have SV_20 := Hd.mk (SV_c19.out.below hB)
          have SW_20 := Hd.mk (SW_c19.out.below hB)
          clear HB_c19 HT11_c19 HT13_c19 HT16_c19 HT19_c19 HT30_c19 HT32_c19 HE19 SV_c19 SW_c19
          clear hB
          go_upto_region 38 with fail
          obtain ⟨W21, hW⟩ : ∃ W, W = wr.alloc (.cells #[.int .i64 0, .int .i64 0, .int .i64 0, .int .i64 0, .int .i64 0, .int .i64 0, .int .i64 0, .int .i64 0] 27) := ⟨_, rfl⟩
          have hX : Below wr.heap.size wr W21 := by rw [hW]; exact (Below.refl _ _).alloc (Nat.le_refl _) _
          have hT : W21.heap[wr.heap.size]? = some (.cells #[.int .i64 0, .int .i64 0, .int .i64 0, .int .i64 0, .int .i64 0, .int .i64 0, .int .i64 0, .int .i64 0] 27 (0, 0)) := by rw [hW]; exact World.alloc_heap_new _ _
          rw [← hW]
          clear hW
          have HT37 := Hd.mk hT
          clear hT
          have HB_c21 := Hd.mk (ch4 HB_20.out hX)
          have HT11_c21 := Hd.mk (keep HT11_20.out hX)
          have HT13_c21 := Hd.mk (keep HT13_20.out hX)
          have HT16_c21 := Hd.mk (keep HT16_20.out hX)
          have HT19_c21 := Hd.mk (keep HT19_20.out hX)
          have HT30_c21 := Hd.mk (keep HT30_20.out hX)
          have HT32_c21 := Hd.mk (keep HT32_20.out hX)
          have SV_c21 := Hd.mk (SV_20.out.below hX)
          have SW_c21 := Hd.mk (SW_20.out.below hX)
          clear HB_20 HT11_20 HT13_20 HT16_20 HT19_20 HT30_20 HT32_20 SV_20 SW_20
          clear hX
          obtain ⟨c0, c1, c2, c3, c4, c5, c6, c7⟩ := lit8 HT13_c21.out
          go_wp2_with fail
          refine (qw_right HBF.out _).mono ?_
          rintro e w22 ⟨rfl, hB⟩
          have HB_22 := Hd.mk (ch4 HB_c21.out hB)
          have HT11_22 := Hd.mk (keep HT11_c21.out hB)
          have HT13_22 := Hd.mk (keep HT13_c21.out hB)
          have HT16_22 := Hd.mk (keep HT16_c21.out hB)
          have HT19_22 := Hd.mk (keep HT19_c21.out hB)
          have HT30_22 := Hd.mk (keep HT30_c21.out hB)
          have HT32_22 := Hd.mk (keep HT32_c21.out hB)
          have HT37_22 := Hd.mk (keep HT37.out hB)
          have SV_22 := Hd.mk (SV_c21.out.below hB)
          have SW_22 := Hd.mk (SW_c21.out.below hB)
          clear HB_c21 HT11_c21 HT13_c21 HT16_c21 HT19_c21 HT30_c21 HT32_c21 HT37 SV_c21 SW_c21
          clear hB
          clear c0 c1 c2 c3 c4 c5 c6 c7
          go_wp2_with fail
          refine (qw_charges HCB.out (by decide) _ _ SW_22.out).mono ?_
          rintro e w23 ⟨rfl, hB⟩
          have HB_23 := Hd.mk (ch4 HB_22.out hB)
          have HT11_23 := Hd.mk (keep HT11_22.out hB)
          have HT13_23 := Hd.mk (keep HT13_22.out hB)
          have HT16_23 := Hd.mk (keep HT16_22.out hB)
          have HT19_23 := Hd.mk (keep HT19_22.out hB)
          have HT30_23 := Hd.mk (keep HT30_22.out hB)
          have HT32_23 := Hd.mk (keep HT32_22.out hB)
          have HT37_23 := Hd.mk (keep HT37_22.out hB)
          have SV_23 := Hd.mk (SV_22.out.below hB)
          have SW_23 := Hd.mk (SW_22.out.below hB)
          clear HB_22 HT11_22 HT13_22 HT16_22 HT19_22 HT30_22 HT32_22 HT37_22 SV_22 SW_22
          clear hB
          go_wp2_with fail
          refine (qw_chargesok H_hc.out _ _ SV_23.out).mono ?_
          rintro e w24 ⟨rfl, hB⟩
          have HB_24 := Hd.mk (ch4 HB_23.out hB)
          have HT11_24 := Hd.mk (keep HT11_23.out hB)
          have HT13_24 := Hd.mk (keep HT13_23.out hB)
          have HT16_24 := Hd.mk (keep HT16_23.out hB)
          have HT19_24 := Hd.mk (keep HT19_23.out hB)
          have HT30_24 := Hd.mk (keep HT30_23.out hB)
          have HT32_24 := Hd.mk (keep HT32_23.out hB)
          have HT37_24 := Hd.mk (keep HT37_23.out hB)
          have SV_24 := Hd.mk (SV_23.out.below hB)
          have SW_24 := Hd.mk (SW_23.out.below hB)
          clear HB_23 HT11_23 HT13_23 HT16_23 HT19_23 HT30_23 HT32_23 HT37_23 SV_23 SW_23
          clear hB
          obtain ⟨c0, c1, c2, c3, c4, c5, c6, c7⟩ := lit8 HT16_24.out
          obtain ⟨d0, d1, d2, d3, d4, d5, d6, d7⟩ := lit8 HT19_24.out
          obtain ⟨e0, e1, e2, e3, e4, e5, e6, e7⟩ := lit8 HT30_24.out
          obtain ⟨f0, f1, f2, f3, f4, f5, f6, f7⟩ := lit8 HT32_24.out
          obtain ⟨g0, g1, g2, g3, g4, g5, g6, g7⟩ := lit8 HT37_24.out
          have hne : ∀ W : World, (binOp .neq 27 (v8 0 0 0 0 0 0 0 0) (v8 0 0 0 0 0 0 0 0)).run Try.prog W = .ok (.bool false) W := fun W => by have := nev_bk zf zf zf zf W; rwa [eq4_self] at this
          have gd27 := guard27
          go_upto_region 40 with fail
          clear c0 c1 c2 c3 c4 c5 c6 c7
          clear d0 d1 d2 d3 d4 d5 d6 d7
          clear e0 e1 e2 e3 e4 e5 e6 e7
          clear f0 f1 f2 f3 f4 f5 f6 f7
          clear g0 g1 g2 g3 g4 g5 g6 g7
          clear hne gd27
          go_upto_region 41 with fail
          obtain ⟨W25, hW⟩ : ∃ W, W = w24.alloc (.cells #[.int .i64 x1, .int .i64 x2] 3) := ⟨_, rfl⟩
          have hX : Below w24.heap.size w24 W25 := by rw [hW]; exact (Below.refl _ _).alloc (Nat.le_refl _) _
          have hT : W25.heap[w24.heap.size]? = some (.cells #[.int .i64 x1, .int .i64 x2] 3 (0, 0)) := by rw [hW]; exact World.alloc_heap_new _ _
          rw [← hW]
          clear hW
          have HE25 := Hd.mk hT
          clear hT
          have HB_c25 := Hd.mk (ch4 HB_24.out hX)
          have HT11_c25 := Hd.mk (keep HT11_24.out hX)
          have SV_c25 := Hd.mk (SV_24.out.below hX)
          have SW_c25 := Hd.mk (SW_24.out.below hX)
          clear HB_24 HT11_24 SV_24 SW_24
          clear hX
          have hy1 : x1 < 0 := by rw [← hx1]; split <;> omega
          have hy2 : 4 ≤ x2 := by rw [← hx2]; split <;> omega
          clear hx1 hx2
          go_loopw [267] (fun i W => ∃ k : Nat, k ≤ 2 ∧ i = .int .i64 k ∧ Below W25.heap.size W25 W) (fun i _ => 2 - (intOf i).toNat)
          case atStart => exact ⟨0, Nat.zero_le _, rfl, Below.refl _ _⟩
          case round =>
            obtain ⟨k, hk, rfl, hB⟩ := hrel
            have HRB25 := Hd.mk hB
            by_cases hlt : k < 2
            · have hE := keep HE25.out hB
              obtain ⟨z, hz, hzb⟩ := two_get hy1 hy2 k hlt
              have hc : wr.cell? ⟨_, k, none⟩ = some (.int .i64 z) := (cells_cell hE k).trans hz
              have k0 : (0 : Int) ≤ (k : Int) := by omega
              have k1 : (k : Int) < 2 := by omega
              have HZB := Hd.mk hzb
              have HLT := Hd.mk hlt
              have HR11 := Hd.mk (keep HT11_c25.out hB)
              clear hB hE hz hzb hlt
              obtain ⟨c0, c1, c2, c3, c4, c5, c6, c7⟩ := lit8 HR11.out
              go_wp2_with fail
              refine (qw_roomk H_hm.out HZB.out _).mono ?_
              rintro e w26 ⟨rfl, hB⟩
              have HB_26 := Hd.mk (ch4 HRB25.out hB)
              have HT11_26 := Hd.mk (keep HR11.out hB)
              clear HRB25 HR11
              clear hB
              clear hc
              clear c0 c1 c2 c3 c4 c5 c6 c7
              obtain ⟨c0, c1, c2, c3, c4, c5, c6, c7⟩ := lit8 HT11_26.out
              go_wp2_with fail
              refine (qw_limitk H_hm.out HZB.out _ _).mono ?_
              rintro e w27 ⟨rfl, hB⟩
              have HB_27 := Hd.mk (ch4 HB_26.out hB)
              have HT11_27 := Hd.mk (keep HT11_26.out hB)
              clear HB_26 HT11_26
              clear hB
              clear c0 c1 c2 c3 c4 c5 c6 c7
              go_upto_region 45 with fail
              obtain ⟨W27, hW⟩ : ∃ W, W = w27.alloc (.cells #[.int .i64 0, .int .i64 0, .int .i64 0, .int .i64 0, .int .i64 0, .int .i64 0, .int .i64 0, .int .i64 0] 27) := ⟨_, rfl⟩
              have hX : Below w27.heap.size w27 W27 := by rw [hW]; exact (Below.refl _ _).alloc (Nat.le_refl _) _
              rw [← hW]
              clear hW
              have HB_c27 := Hd.mk (ch4 HB_27.out hX)
              have HT11_c27 := Hd.mk (keep HT11_27.out hX)
              clear HB_27 HT11_27
              clear hX
              go_wp2_with fail
              refine (qw_name HZB.out _).mono ?_
              rintro e w28 ⟨rfl, hB⟩
              have HB_28 := Hd.mk (ch4 HB_c27.out hB)
              have HT11_28 := Hd.mk (keep HT11_c27.out hB)
              clear HB_c27 HT11_c27
              clear hB
              go_wp2_with fail
              go_roundw
              case rel => exact ⟨k + 1, HLT.out, by go_num, HB_28.out⟩
              case measure => simp [intOf] <;> omega
            · obtain rfl : k = 2 := by omega
              clear hlt hk HRB25
              have HB_29 := Hd.mk (ch4 HB_c25.out hB)
              have HT11_29 := Hd.mk (keep HT11_c25.out hB)
              have HE25_29 := Hd.mk (keep HE25.out hB)
              have SV_29 := Hd.mk (SV_c25.out.below hB)
              have SW_29 := Hd.mk (SW_c25.out.below hB)
              clear HB_c25 HT11_c25 HE25 SV_c25 SW_c25
              clear hB
              obtain ⟨x5, hx5⟩ : ∃ x : Int, (if n < 1099511627777 then 1099511627777 else n) = x := ⟨_, rfl⟩
              have hy5 : 1099511627776 < x5 := by rw [← hx5]; split <;> omega
              obtain ⟨x6, hx6⟩ : ∃ x : Int, (if -1 < n then -1 else n) = x := ⟨_, rfl⟩
              have hy6 : x6 < 0 := by rw [← hx6]; split <;> omega
              obtain ⟨c0, c1, c2, c3, c4, c5, c6, c7⟩ := lit8 HT11_29.out
              go_wp2_with fail
              refine (qw_limj H_hm.out j HJ.out x5 (.inr hy5) _).mono ?_
              rintro e w30 ⟨rfl, hB⟩
              have HB_30 := Hd.mk (ch4 HB_29.out hB)
              have HT11_30 := Hd.mk (keep HT11_29.out hB)
              have SV_30 := Hd.mk (SV_29.out.below hB)
              have SW_30 := Hd.mk (SW_29.out.below hB)
              clear HB_29 HT11_29 SV_29 SW_29
              clear hB
              clear c0 c1 c2 c3 c4 c5 c6 c7
              go_upto_region 49 with fail
              obtain ⟨W30, hW⟩ : ∃ W, W = w30.alloc (.cells #[.int .i64 0, .int .i64 0, .int .i64 0, .int .i64 0, .int .i64 0, .int .i64 0, .int .i64 0, .int .i64 0] 27) := ⟨_, rfl⟩
              have hX : Below w30.heap.size w30 W30 := by rw [hW]; exact (Below.refl _ _).alloc (Nat.le_refl _) _
              rw [← hW]
              clear hW
              have HB_c30 := Hd.mk (ch4 HB_30.out hX)
              have HT11_c30 := Hd.mk (keep HT11_30.out hX)
              have SV_c30 := Hd.mk (SV_30.out.below hX)
              have SW_c30 := Hd.mk (SW_30.out.below hX)
              clear HB_30 HT11_30 SV_30 SW_30
              clear hX
              obtain ⟨c0, c1, c2, c3, c4, c5, c6, c7⟩ := lit8 HT11_c30.out
              go_wp2_with fail
              refine (qw_limj H_hm.out j HJ.out x6 (.inl hy6) _).mono ?_
              rintro e w31 ⟨rfl, hB⟩
              have HB_31 := Hd.mk (ch4 HB_c30.out hB)
              have HT11_31 := Hd.mk (keep HT11_c30.out hB)
              have SV_31 := Hd.mk (SV_c30.out.below hB)
              have SW_31 := Hd.mk (SW_c30.out.below hB)
              clear HB_c30 HT11_c30 SV_c30 SW_c30
              clear hB
              clear c0 c1 c2 c3 c4 c5 c6 c7
              go_upto_region 50 with fail
              obtain ⟨W31, hW⟩ : ∃ W, W = w31.alloc (.cells #[.int .i64 0, .int .i64 0, .int .i64 0, .int .i64 0, .int .i64 0, .int .i64 0, .int .i64 0, .int .i64 0] 27) := ⟨_, rfl⟩
              have hX : Below w31.heap.size w31 W31 := by rw [hW]; exact (Below.refl _ _).alloc (Nat.le_refl _) _
              rw [← hW]
              clear hW
              have HB_c31 := Hd.mk (ch4 HB_31.out hX)
              have HT11_c31 := Hd.mk (keep HT11_31.out hX)
              have SV_c31 := Hd.mk (SV_31.out.below hX)
              have SW_c31 := Hd.mk (SW_31.out.below hX)
              clear HB_31 HT11_31 SV_31 SW_31
              clear hX
              go_wp2_with fail
              go_ret
              exact ⟨rfl, HB_c31.out⟩
theorem qwrong (haw : AwakeC) (a b : Nat → Int) (ha : ∀ j, j < 4 → 0 ≤ a j ∧ a j ≤ 255) (hb : ∀ j, j < 4 → 0 ≤ b j ∧ b j ≤ 255) (v : Value) (xs : List Int) (q n : Int) (q0 : 0 ≤ q) (q1 : q ≤ 255) (n0 : -9223372036854775808 ≤ n) (n1 : n ≤ 9223372036854775807) (w : World) (hs : SrcE e16 w v xs) (hx : ∀ x ∈ xs, 0 ≤ x ∧ x ≤ 65535) :
    Calls Try.prog 8 #[.agg (a8 a), .agg (a8 b), v, .int .u8 q, .int .i64 n] w fun e w' => e = .returned (.bool true) ∧ Below w.heap.size w w' :=
  qwrong_any haw a b ha hb v xs w hs hx q n _ _ _ rfl rfl rfl (mb a b ha hb) (mc xs hx) q0 q1 n0 n1

end Go.Proofs.Ytppfhcocmpmadaa
