/- The law QuotaTells: the walk of tells. -/
import Derived.Test.YtppfhcocmpmadaaTH
import Derived.Test.YtppfhcocmpmadaaT9
namespace Go.Proofs.Ytppfhcocmpmadaa
open Go.RowKit
set_option linter.unusedVariables false

theorem qt8_keep {B W W' : World} {g : Nat} {L U : Nat → Int} (h : W.cell? ⟨g, 0, none⟩ = some (.int .i64 (L 0)) ∧ W.cell? ⟨g, 1, none⟩ = some (.int .i64 (L 1)) ∧ W.cell? ⟨g, 2, none⟩ = some (.int .i64 (L 2)) ∧ W.cell? ⟨g, 3, none⟩ = some (.int .i64 (L 3)) ∧ W.cell? ⟨g, 4, none⟩ = some (.int .i64 (U 0)) ∧ W.cell? ⟨g, 5, none⟩ = some (.int .i64 (U 1)) ∧ W.cell? ⟨g, 6, none⟩ = some (.int .i64 (U 2)) ∧ W.cell? ⟨g, 7, none⟩ = some (.int .i64 (U 3)) ∧ Below B.heap.size B W) (hB : Below W.heap.size W W') :
    W'.cell? ⟨g, 0, none⟩ = some (.int .i64 (L 0)) ∧ W'.cell? ⟨g, 1, none⟩ = some (.int .i64 (L 1)) ∧ W'.cell? ⟨g, 2, none⟩ = some (.int .i64 (L 2)) ∧ W'.cell? ⟨g, 3, none⟩ = some (.int .i64 (L 3)) ∧ W'.cell? ⟨g, 4, none⟩ = some (.int .i64 (U 0)) ∧ W'.cell? ⟨g, 5, none⟩ = some (.int .i64 (U 1)) ∧ W'.cell? ⟨g, 6, none⟩ = some (.int .i64 (U 2)) ∧ W'.cell? ⟨g, 7, none⟩ = some (.int .i64 (U 3)) ∧ Below B.heap.size B W' := by
  obtain ⟨h0, h1, h2, h3, h4, h5, h6, h7, h8⟩ := h
  exact ⟨(hB.cell (p := ⟨g, 0, none⟩) (World.block_lt_of_cell? _ _ h0)).trans h0, (hB.cell (p := ⟨g, 1, none⟩) (World.block_lt_of_cell? _ _ h1)).trans h1, (hB.cell (p := ⟨g, 2, none⟩) (World.block_lt_of_cell? _ _ h2)).trans h2, (hB.cell (p := ⟨g, 3, none⟩) (World.block_lt_of_cell? _ _ h3)).trans h3, (hB.cell (p := ⟨g, 4, none⟩) (World.block_lt_of_cell? _ _ h4)).trans h4, (hB.cell (p := ⟨g, 5, none⟩) (World.block_lt_of_cell? _ _ h5)).trans h5, (hB.cell (p := ⟨g, 6, none⟩) (World.block_lt_of_cell? _ _ h6)).trans h6, (hB.cell (p := ⟨g, 7, none⟩) (World.block_lt_of_cell? _ _ h7)).trans h7, ch4 h8 hB⟩
theorem qt8_below {B W : World} {g : Nat} {L U : Nat → Int} (h : W.cell? ⟨g, 0, none⟩ = some (.int .i64 (L 0)) ∧ W.cell? ⟨g, 1, none⟩ = some (.int .i64 (L 1)) ∧ W.cell? ⟨g, 2, none⟩ = some (.int .i64 (L 2)) ∧ W.cell? ⟨g, 3, none⟩ = some (.int .i64 (L 3)) ∧ W.cell? ⟨g, 4, none⟩ = some (.int .i64 (U 0)) ∧ W.cell? ⟨g, 5, none⟩ = some (.int .i64 (U 1)) ∧ W.cell? ⟨g, 6, none⟩ = some (.int .i64 (U 2)) ∧ W.cell? ⟨g, 7, none⟩ = some (.int .i64 (U 3)) ∧ Below B.heap.size B W) : Below B.heap.size B W := by
  obtain ⟨h0, h1, h2, h3, h4, h5, h6, h7, h8⟩ := h
  exact h8
theorem qt8_of {B : World} {g : Nat} {L U : Nat → Int} (h : B.heap[g]? = some (.cells (bk L U) 27 (0, 0))) :
    B.cell? ⟨g, 0, none⟩ = some (.int .i64 (L 0)) ∧ B.cell? ⟨g, 1, none⟩ = some (.int .i64 (L 1)) ∧ B.cell? ⟨g, 2, none⟩ = some (.int .i64 (L 2)) ∧ B.cell? ⟨g, 3, none⟩ = some (.int .i64 (L 3)) ∧ B.cell? ⟨g, 4, none⟩ = some (.int .i64 (U 0)) ∧ B.cell? ⟨g, 5, none⟩ = some (.int .i64 (U 1)) ∧ B.cell? ⟨g, 6, none⟩ = some (.int .i64 (U 2)) ∧ B.cell? ⟨g, 7, none⟩ = some (.int .i64 (U 3)) ∧ Below B.heap.size B B := by
  obtain ⟨⟨c0, c1, c2, c3, c4, c5, c6, c7⟩, -⟩ := bk_cells h
  exact ⟨c0, c1, c2, c3, c4, c5, c6, c7, Below.refl _ _⟩
theorem k0qt (w : World) (o1 o2 : Obj) : Below w.heap.size w ((w.alloc o1).alloc o2) := ((Below.refl _ _).alloc (Nat.le_refl _) _).alloc (by simp) _
theorem qt_b8 (W : World) (g : Nat) (X Y : Nat → Int) : Below g W (set8 W g X Y) := set8_below (Below.refl _ _) X Y (Nat.le_refl _)
theorem qt_newok {L : Nat → Int} (h : rightB L zf = true) (w : World) : Calls Try.prog 25 #[v4 (L 0) (L 1) (L 2) (L 3)] w fun e w' => e = .returned (.tuple #[v8 (L 0) (L 1) (L 2) (L 3) 0 0 0 0, .int .i64 0]) ∧ Below w.heap.size w w' :=
  (new_any L w).mono fun e w' ⟨he, hB⟩ => ⟨he.trans (by rw [newR, if_pos h]; rfl), hB⟩
theorem qt_newno {L : Nat → Int} (h : rightB L zf = false) (w : World) : Calls Try.prog 25 #[v4 (L 0) (L 1) (L 2) (L 3)] w fun e w' => e = .returned (.tuple #[v8 0 0 0 0 0 0 0 0, .int .i64 250]) ∧ Below w.heap.size w w' :=
  (new_any L w).mono fun e w' ⟨he, hB⟩ => ⟨he.trans (by rw [newR, if_neg (by rw [h]; decide)]; rfl), hB⟩
theorem qt_rright {L : Nat → Int} {b : Bool} (h : rightB L zf = b) (w : World) : Calls Try.prog 36 #[v8 (L 0) (L 1) (L 2) (L 3) 0 0 0 0] w fun e w' => e = .returned (.bool b) ∧ Below w.heap.size w w' :=
  (rright_any L zf w).mono fun e w' ⟨he, hB⟩ => ⟨he.trans (by rw [h]), hB⟩
theorem qt_nameno {k : Int} (hk : isB k = false) (w : World) : Calls Try.prog 22 #[.int .i64 k] w fun e w' => e = .returned (.string ⟨#[]⟩) ∧ Below w.heap.size w w' :=
  (name_any k w).mono fun e w' ⟨he, hB⟩ => ⟨he.trans (by
    have := (isB_no k).1 hk
    unfold kindNames; rw [if_neg (by omega), if_neg (by omega), if_neg (by omega), if_neg (by omega)]), hB⟩
theorem qt_name0 (w : World) : Calls Try.prog 22 #[.int .i64 0] w fun e w' => e = .returned (.string ⟨#[101, 118, 101, 110, 116, 115]⟩) ∧ Below w.heap.size w w' :=
  (name_any 0 w).mono fun e w' ⟨he, hB⟩ => ⟨he.trans rfl, hB⟩
theorem qt_name1 (w : World) : Calls Try.prog 22 #[.int .i64 1] w fun e w' => e = .returned (.string ⟨#[99, 101, 108, 108, 115]⟩) ∧ Below w.heap.size w w' :=
  (name_any 1 w).mono fun e w' ⟨he, hB⟩ => ⟨he.trans rfl, hB⟩
theorem qt_name2 (w : World) : Calls Try.prog 22 #[.int .i64 2] w fun e w' => e = .returned (.string ⟨#[112, 111, 114, 116, 115]⟩) ∧ Below w.heap.size w w' :=
  (name_any 2 w).mono fun e w' ⟨he, hB⟩ => ⟨he.trans rfl, hB⟩
theorem qt_name3 (w : World) : Calls Try.prog 22 #[.int .i64 3] w fun e w' => e = .returned (.string ⟨#[104, 97, 110, 100, 108, 101, 115]⟩) ∧ Below w.heap.size w w' :=
  (name_any 3 w).mono fun e w' ⟨he, hB⟩ => ⟨he.trans rfl, hB⟩

set_option maxRecDepth 100000 in
set_option maxHeartbeats 8000000 in
theorem tells_any (L U : Nat → Int) (v : Value) (cs : List (Int × Int)) (k n : Int) (w : World) (hs : SrcC w v cs) :
    Calls Try.prog 23 #[.agg (bk L U), v, .int .i64 k, .int .i64 n] w fun e w' => e = .returned (.bool true) ∧ Below w.heap.size w w' := by
  have hsm := hs.small
  obtain ⟨a, c, rfl⟩ := hs.shape
  have HS := Hd.mk hs
  clear hs
  have HB0 : Hd (Below w.heap.size w (w.alloc (.cells (bk L U) 27))) := ⟨(Below.refl _ _).alloc (Nat.le_refl _) _⟩
  have HG0 : Hd ((w.alloc (.cells (bk L U) 27)).heap[w.heap.size]? = some (.cells (bk L U) 27 (0, 0))) := ⟨World.alloc_heap_new w _⟩
  by_cases h100 : 100 < cs.length
  · have hi : (100 : Int) < (cs.length : Int) := by omega
    go_enter Try.func23, Try.ntmps23
    go_wp2_with fail
    go_ret
    exact ⟨rfl, HB0.out⟩
  have hi : ¬ ((100 : Int) < (cs.length : Int)) := by omega
  have HL := Hd.mk h100
  obtain ⟨X1, Y1, i1, e1, h13, h34⟩ := qt_steps L U cs
  obtain ⟨X2, Y2, i2, e2, h17, h35⟩ := qt_bar L U cs
  obtain ⟨P, e3, h14, h38⟩ := qt_peak L U cs
  obtain ⟨S, e4, h18, h39⟩ := qt_sum cs
  obtain ⟨bs, e5, hbl, h20, h40⟩ := qt_back cs
  obtain ⟨r, e6, h16, h42⟩ := qt_room L U k
  obtain ⟨X3, Y3, e7, h15, h43⟩ := qt_lim L U k n
  have H13 := Hd.mk h13
  have H34 := Hd.mk h34
  have H17 := Hd.mk h17
  have H35 := Hd.mk h35
  have H14 := Hd.mk h14
  have H38 := Hd.mk h38
  have H18 := Hd.mk h18
  have H39 := Hd.mk h39
  have H20 := Hd.mk h20
  have H40 := Hd.mk h40
  have H16 := Hd.mk h16
  have H42 := Hd.mk h42
  have H15 := Hd.mk h15
  have H43 := Hd.mk h43
  have HBL := Hd.mk hbl
  clear h13 h34 h17 h35 h14 h38 h18 h39 h20 h40 h16 h42 h15 h43 hbl h100
  go_enter Try.func23, Try.ntmps23
  go_upto_region 1 with fail
  obtain ⟨W0, hW0⟩ : ∃ x, x = w.alloc (.cells (bk L U) 27) := ⟨_, rfl⟩
  rw [← hW0] at HB0 HG0 ⊢
  have HS0 := Hd.mk (HS.out.below (show Below w.heap.size w W0 from HB0.out))
  clear hW0 HS
  go_upto_region 3 with fail
  go_cut [9, 10] (fun v9 v10 wx => ∃ g ao co, v9 = .pointer (some ⟨g, 0, none⟩) ∧ wx.heap[g]? = some (.cells #[.int .i64 (L 0), .int .i64 (L 1), .int .i64 (L 2), .int .i64 (L 3), .int .i64 (U 0), .int .i64 (U 1), .int .i64 (U 2), .int .i64 (U 3)] 68 (0, 0)) ∧ v10 = .slice ao cs.length co ∧ SrcC wx (.slice ao cs.length co) cs ∧ Below W0.heap.size W0 wx)
  case first =>
    have hS0 := qt8_of HG0.out
    go_region_held3 (fun W => W.cell? ⟨w.heap.size, 0, none⟩ = some (.int .i64 (L 0)) ∧ W.cell? ⟨w.heap.size, 1, none⟩ = some (.int .i64 (L 1)) ∧ W.cell? ⟨w.heap.size, 2, none⟩ = some (.int .i64 (L 2)) ∧ W.cell? ⟨w.heap.size, 3, none⟩ = some (.int .i64 (L 3)) ∧ W.cell? ⟨w.heap.size, 4, none⟩ = some (.int .i64 (U 0)) ∧ W.cell? ⟨w.heap.size, 5, none⟩ = some (.int .i64 (U 1)) ∧ W.cell? ⟨w.heap.size, 6, none⟩ = some (.int .i64 (U 2)) ∧ W.cell? ⟨w.heap.size, 7, none⟩ = some (.int .i64 (U 3)) ∧ Below W0.heap.size W0 W)
      (first | with_reducible assumption | exact qt8_keep hS0 (by repeat (with_reducible first | exact Below.refl _ _ | apply bl_alloc | apply bl_drew | (refine bl_set ?_ (by simp) _) | (apply bl_call; assumption))))
      (first
      | (go_at_call 32; refine (qt_theirs _ cs (by have := HL.out; omega) _ (HS0.out.below (qt8_below (by assumption)))).mono ?_; rintro e wk ⟨ao, co, rfl, hso, hBk⟩; (first | (have hz := hBk.block (W0.heap.size) (by (try rw [drew_heap]); simp only [World.size_alloc]; omega); (try rw [drew_heap] at hz); rw [two_old] at hz; first | (obtain ⟨⟨e0, e1, e2, e3, e4, e5, e6, e7⟩, ⟨f0, f1, f2, f3, f4, f5, f6, f7⟩⟩ := z_cellsT hz) | skip) | (have hz := hBk.block (W0.heap.size + 1) (by (try rw [drew_heap]); simp only [World.size_alloc]; omega); (try rw [drew_heap] at hz); rw [two_new] at hz; first | (obtain ⟨⟨e0, e1, e2, e3, e4, e5, e6, e7⟩, ⟨f0, f1, f2, f3, f4, f5, f6, f7⟩⟩ := z_cellsT hz) | skip) | (have hz := hBk.block (W0.heap.size) (by (try rw [drew_heap]); simp only [World.size_alloc]; omega); (try rw [drew_heap] at hz); rw [World.alloc_heap_new] at hz; first | (obtain ⟨⟨e0, e1, e2, e3, e4, e5, e6, e7⟩, ⟨f0, f1, f2, f3, f4, f5, f6, f7⟩⟩ := z_cellsT hz) | skip) | skip))
      )
    · have HF := Hd.mk (qt8_below (by assumption))
      go_wp2_with fail
      go_meet
      exact ⟨_, _, _, rfl, World.alloc_heap_new _ _, rfl, hso.1.below ((Below.refl _ _).alloc (Nat.le_refl _) _), HF.out⟩
    · have HF := Hd.mk (qt8_below (by assumption))
      have HZ := Hd.mk (set_bkL L U hz)
      have HQ := Hd.mk (hso.2 W0.heap.size L U (by (try rw [drew_heap]); simp))
      go_wp2_with fail
      go_meet
      exact ⟨_, _, _, rfl, HZ.out, rfl, HQ.out, HF.out⟩
  case rest =>
  obtain ⟨g9, ao, co, rfl, hG, rfl, hso, hBx⟩ := hcut
  have HB_1 := Hd.mk (ch4 HB0.out hBx)
  have HT4_1 := Hd.mk (keep HG0.out hBx)
  have SV_1 := Hd.mk (HS0.out.below hBx)
  clear HB0 HG0 HS0
  have HT9 : Hd (wc.heap[g9]? = some (.cells (bk L U) 68 (0, 0))) := ⟨hG⟩
  have HSO := Hd.mk hso
  clear hG hso hBx
  obtain ⟨Wz, hWz⟩ : ∃ x, x = wc := ⟨_, rfl⟩
  subst hWz
  go_wp2_with fail
  refine (qt_clone _ cs (by have := HL.out; omega) _ SV_1.out).mono ?_
  rintro e w2 ⟨aw, cw, rfl, hSn, hB⟩
  have HB_2 := Hd.mk (ch4 HB_1.out hB)
  have HT4_2 := Hd.mk (keep HT4_1.out hB)
  have HT9_2 := Hd.mk (keep HT9.out hB)
  have SV_2 := Hd.mk (SV_1.out.below hB)
  have SO_2 := Hd.mk (HSO.out.below hB)
  clear HB_1 HT4_1 HT9 SV_1 HSO
  have HW := Hd.mk hSn
  clear hB hSn
  obtain ⟨c0, c1, c2, c3, c4, c5, c6, c7⟩ := lit8 HT4_2.out
  go_wp2_with fail
  refine (H13.out _ _ HW.out).mono ?_
  rintro e w3 ⟨rfl, hB⟩
  have HB_3 := Hd.mk (ch4 HB_2.out hB)
  have HT4_3 := Hd.mk (keep HT4_2.out hB)
  have HT9_3 := Hd.mk (keep HT9_2.out hB)
  have SV_3 := Hd.mk (SV_2.out.below hB)
  have SO_3 := Hd.mk (SO_2.out.below hB)
  have SW_3 := Hd.mk (HW.out.below hB)
  clear HB_2 HT4_2 HT9_2 SV_2 SO_2 HW
  clear hB
  clear c0 c1 c2 c3 c4 c5 c6 c7
  go_upto_region 6 with fail
  obtain ⟨W3, hW⟩ : ∃ W, W = w3.alloc (.cells (bk X1 Y1) 27) := ⟨_, rfl⟩
  have hX : Below w3.heap.size w3 W3 := by rw [hW]; exact (Below.refl _ _).alloc (Nat.le_refl _) _
  have hT : W3.heap[w3.heap.size]? = some (.cells (bk X1 Y1) 27 (0, 0)) := by rw [hW]; exact World.alloc_heap_new _ _
  simp only [bk] at hW
  rw [← hW]
  have HT12 := Hd.mk hT
  clear hW hT
  have HB_c3 := Hd.mk (ch4 HB_3.out hX)
  have HT4_c3 := Hd.mk (keep HT4_3.out hX)
  have HT9_c3 := Hd.mk (keep HT9_3.out hX)
  have SV_c3 := Hd.mk (SV_3.out.below hX)
  have SO_c3 := Hd.mk (SO_3.out.below hX)
  have SW_c3 := Hd.mk (SW_3.out.below hX)
  clear HB_3 HT4_3 HT9_3 SV_3 SO_3 SW_3
  clear hX
  obtain ⟨c0, c1, c2, c3, c4, c5, c6, c7⟩ := lit8 HT9_c3.out
  go_wp2_with fail
  refine (H34.out _ _ SO_c3.out).mono ?_
  rintro e w4 ⟨rfl, hB⟩
  have HB_4 := Hd.mk (ch4 HB_c3.out hB)
  have HT4_4 := Hd.mk (keep HT4_c3.out hB)
  have HT9_4 := Hd.mk (keep HT9_c3.out hB)
  have HT12_4 := Hd.mk (keep HT12.out hB)
  have SV_4 := Hd.mk (SV_c3.out.below hB)
  have SO_4 := Hd.mk (SO_c3.out.below hB)
  have SW_4 := Hd.mk (SW_c3.out.below hB)
  clear HB_c3 HT4_c3 HT9_c3 HT12 SV_c3 SO_c3 SW_c3
  clear hB
  clear c0 c1 c2 c3 c4 c5 c6 c7
  go_upto_region 7 with fail
  obtain ⟨W4, hW⟩ : ∃ W, W = w4.alloc (.cells (bk X1 Y1) 68) := ⟨_, rfl⟩
  have hX : Below w4.heap.size w4 W4 := by rw [hW]; exact (Below.refl _ _).alloc (Nat.le_refl _) _
  have hT : W4.heap[w4.heap.size]? = some (.cells (bk X1 Y1) 68 (0, 0)) := by rw [hW]; exact World.alloc_heap_new _ _
  simp only [bk] at hW
  rw [← hW]
  have HT15 := Hd.mk hT
  clear hW hT
  have HB_c4 := Hd.mk (ch4 HB_4.out hX)
  have HT4_c4 := Hd.mk (keep HT4_4.out hX)
  have HT9_c4 := Hd.mk (keep HT9_4.out hX)
  have HT12_c4 := Hd.mk (keep HT12_4.out hX)
  have SV_c4 := Hd.mk (SV_4.out.below hX)
  have SO_c4 := Hd.mk (SO_4.out.below hX)
  have SW_c4 := Hd.mk (SW_4.out.below hX)
  clear HB_4 HT4_4 HT9_4 HT12_4 SV_4 SO_4 SW_4
  clear hX
  obtain ⟨c0, c1, c2, c3, c4, c5, c6, c7⟩ := lit8 HT4_c4.out
  go_wp2_with fail
  refine (H17.out _ _ SW_c4.out).mono ?_
  rintro e w5 ⟨rfl, hB⟩
  have HB_5 := Hd.mk (ch4 HB_c4.out hB)
  have HT4_5 := Hd.mk (keep HT4_c4.out hB)
  have HT9_5 := Hd.mk (keep HT9_c4.out hB)
  have HT12_5 := Hd.mk (keep HT12_c4.out hB)
  have HT15_5 := Hd.mk (keep HT15.out hB)
  have SV_5 := Hd.mk (SV_c4.out.below hB)
  have SO_5 := Hd.mk (SO_c4.out.below hB)
  have SW_5 := Hd.mk (SW_c4.out.below hB)
  clear HB_c4 HT4_c4 HT9_c4 HT12_c4 HT15 SV_c4 SO_c4 SW_c4
  clear hB
  clear c0 c1 c2 c3 c4 c5 c6 c7
  go_upto_region 8 with fail
  obtain ⟨W5, hW⟩ : ∃ W, W = w5.alloc (.cells (bk X2 Y2) 27) := ⟨_, rfl⟩
  have hX : Below w5.heap.size w5 W5 := by rw [hW]; exact (Below.refl _ _).alloc (Nat.le_refl _) _
  have hT : W5.heap[w5.heap.size]? = some (.cells (bk X2 Y2) 27 (0, 0)) := by rw [hW]; exact World.alloc_heap_new _ _
  simp only [bk] at hW
  rw [← hW]
  have HT18 := Hd.mk hT
  clear hW hT
  have HB_c5 := Hd.mk (ch4 HB_5.out hX)
  have HT4_c5 := Hd.mk (keep HT4_5.out hX)
  have HT9_c5 := Hd.mk (keep HT9_5.out hX)
  have HT12_c5 := Hd.mk (keep HT12_5.out hX)
  have HT15_c5 := Hd.mk (keep HT15_5.out hX)
  have SV_c5 := Hd.mk (SV_5.out.below hX)
  have SO_c5 := Hd.mk (SO_5.out.below hX)
  have SW_c5 := Hd.mk (SW_5.out.below hX)
  clear HB_5 HT4_5 HT9_5 HT12_5 HT15_5 SV_5 SO_5 SW_5
  clear hX
  obtain ⟨c0, c1, c2, c3, c4, c5, c6, c7⟩ := lit8 HT9_c5.out
  go_wp2_with fail
  refine (H35.out _ _ SO_c5.out).mono ?_
  rintro e w6 ⟨rfl, hB⟩
  have HB_6 := Hd.mk (ch4 HB_c5.out hB)
  have HT4_6 := Hd.mk (keep HT4_c5.out hB)
  have HT9_6 := Hd.mk (keep HT9_c5.out hB)
  have HT12_6 := Hd.mk (keep HT12_c5.out hB)
  have HT15_6 := Hd.mk (keep HT15_c5.out hB)
  have HT18_6 := Hd.mk (keep HT18.out hB)
  have SV_6 := Hd.mk (SV_c5.out.below hB)
  have SO_6 := Hd.mk (SO_c5.out.below hB)
  have SW_6 := Hd.mk (SW_c5.out.below hB)
  clear HB_c5 HT4_c5 HT9_c5 HT12_c5 HT15_c5 HT18 SV_c5 SO_c5 SW_c5
  clear hB
  clear c0 c1 c2 c3 c4 c5 c6 c7
  go_upto_region 9 with fail
  obtain ⟨W6, hW⟩ : ∃ W, W = w6.alloc (.cells (bk X2 Y2) 68) := ⟨_, rfl⟩
  have hX : Below w6.heap.size w6 W6 := by rw [hW]; exact (Below.refl _ _).alloc (Nat.le_refl _) _
  have hT : W6.heap[w6.heap.size]? = some (.cells (bk X2 Y2) 68 (0, 0)) := by rw [hW]; exact World.alloc_heap_new _ _
  simp only [bk] at hW
  rw [← hW]
  have HT21 := Hd.mk hT
  clear hW hT
  have HB_c6 := Hd.mk (ch4 HB_6.out hX)
  have HT4_c6 := Hd.mk (keep HT4_6.out hX)
  have HT9_c6 := Hd.mk (keep HT9_6.out hX)
  have HT12_c6 := Hd.mk (keep HT12_6.out hX)
  have HT15_c6 := Hd.mk (keep HT15_6.out hX)
  have HT18_c6 := Hd.mk (keep HT18_6.out hX)
  have SV_c6 := Hd.mk (SV_6.out.below hX)
  have SO_c6 := Hd.mk (SO_6.out.below hX)
  have SW_c6 := Hd.mk (SW_6.out.below hX)
  clear HB_6 HT4_6 HT9_6 HT12_6 HT15_6 HT18_6 SV_6 SO_6 SW_6
  clear hX
  refine rT9 L U X1 Y1 X2 Y2 i1 e1 i2 e2 cs ao aw co cw _ _ _ _ _ _ _ HT4_c6 HT9_c6 HT12_c6 HT15_c6 HT18_c6 HT21 SO_c6 SW_c6 _ (fun _ _ _ _ _ h => h) ?_
  intro rb cb ck wx hBx
  have HB_7 := Hd.mk (ch4 HB_c6.out hBx)
  have HT4_7 := Hd.mk (keep HT4_c6.out hBx)
  have HT9_7 := Hd.mk (keep HT9_c6.out hBx)
  have HT12_7 := Hd.mk (keep HT12_c6.out hBx)
  have HT15_7 := Hd.mk (keep HT15_c6.out hBx)
  have HT18_7 := Hd.mk (keep HT18_c6.out hBx)
  have HT21_7 := Hd.mk (keep HT21.out hBx)
  have SV_7 := Hd.mk (SV_c6.out.below hBx)
  have SO_7 := Hd.mk (SO_c6.out.below hBx)
  have SW_7 := Hd.mk (SW_c6.out.below hBx)
  clear HB_c6 HT4_c6 HT9_c6 HT12_c6 HT15_c6 HT18_c6 HT21 SV_c6 SO_c6 SW_c6
  clear hBx
  obtain ⟨c0, c1, c2, c3, c4, c5, c6, c7⟩ := lit8 HT4_7.out
  go_wp2_with fail
  refine (H14.out _ _ SW_7.out).mono ?_
  rintro e w8 ⟨rfl, hB⟩
  have HB_8 := Hd.mk (ch4 HB_7.out hB)
  have HT4_8 := Hd.mk (keep HT4_7.out hB)
  have HT9_8 := Hd.mk (keep HT9_7.out hB)
  have SV_8 := Hd.mk (SV_7.out.below hB)
  have SO_8 := Hd.mk (SO_7.out.below hB)
  have SW_8 := Hd.mk (SW_7.out.below hB)
  clear HB_7 HT4_7 HT9_7 SV_7 SO_7 SW_7
  clear hB
  clear c0 c1 c2 c3 c4 c5 c6 c7
  simp only [ar]
  go_upto_region 12 with fail
  obtain ⟨W8, hW⟩ : ∃ W, W = w8.alloc (.cells (ar P) 25) := ⟨_, rfl⟩
  have hX : Below w8.heap.size w8 W8 := by rw [hW]; exact (Below.refl _ _).alloc (Nat.le_refl _) _
  have hT : W8.heap[w8.heap.size]? = some (.cells (ar P) 25 (0, 0)) := by rw [hW]; exact World.alloc_heap_new _ _
  simp only [ar] at hW
  rw [← hW]
  have HT24 := Hd.mk hT
  clear hW hT
  have HB_c8 := Hd.mk (ch4 HB_8.out hX)
  have HT4_c8 := Hd.mk (keep HT4_8.out hX)
  have HT9_c8 := Hd.mk (keep HT9_8.out hX)
  have SV_c8 := Hd.mk (SV_8.out.below hX)
  have SO_c8 := Hd.mk (SO_8.out.below hX)
  have SW_c8 := Hd.mk (SW_8.out.below hX)
  clear HB_8 HT4_8 HT9_8 SV_8 SO_8 SW_8
  clear hX
  obtain ⟨c0, c1, c2, c3, c4, c5, c6, c7⟩ := lit8 HT9_c8.out
  go_wp2_with fail
  refine (H38.out _ _ SO_c8.out).mono ?_
  rintro e w9 ⟨rfl, hB⟩
  have HB_9 := Hd.mk (ch4 HB_c8.out hB)
  have HT4_9 := Hd.mk (keep HT4_c8.out hB)
  have HT9_9 := Hd.mk (keep HT9_c8.out hB)
  have HT24_9 := Hd.mk (keep HT24.out hB)
  have SV_9 := Hd.mk (SV_c8.out.below hB)
  have SO_9 := Hd.mk (SO_c8.out.below hB)
  have SW_9 := Hd.mk (SW_c8.out.below hB)
  clear HB_c8 HT4_c8 HT9_c8 HT24 SV_c8 SO_c8 SW_c8
  clear hB
  clear c0 c1 c2 c3 c4 c5 c6 c7
  simp only [ar]
  go_upto_region 13 with fail
  obtain ⟨W9, hW⟩ : ∃ W, W = w9.alloc (.cells (ar P) 25) := ⟨_, rfl⟩
  have hX : Below w9.heap.size w9 W9 := by rw [hW]; exact (Below.refl _ _).alloc (Nat.le_refl _) _
  have hT : W9.heap[w9.heap.size]? = some (.cells (ar P) 25 (0, 0)) := by rw [hW]; exact World.alloc_heap_new _ _
  simp only [ar] at hW
  rw [← hW]
  have HT25 := Hd.mk hT
  clear hW hT
  have HB_c9 := Hd.mk (ch4 HB_9.out hX)
  have HT4_c9 := Hd.mk (keep HT4_9.out hX)
  have HT9_c9 := Hd.mk (keep HT9_9.out hX)
  have HT24_c9 := Hd.mk (keep HT24_9.out hX)
  have SV_c9 := Hd.mk (SV_9.out.below hX)
  have SO_c9 := Hd.mk (SO_9.out.below hX)
  have SW_c9 := Hd.mk (SW_9.out.below hX)
  clear HB_9 HT4_9 HT9_9 HT24_9 SV_9 SO_9 SW_9
  clear hX
  go_wp2_with fail
  refine (H18.out _ _ SW_c9.out).mono ?_
  rintro e w10 ⟨rfl, hB⟩
  have HB_10 := Hd.mk (ch4 HB_c9.out hB)
  have HT4_10 := Hd.mk (keep HT4_c9.out hB)
  have HT9_10 := Hd.mk (keep HT9_c9.out hB)
  have HT24_10 := Hd.mk (keep HT24_c9.out hB)
  have HT25_10 := Hd.mk (keep HT25.out hB)
  have SV_10 := Hd.mk (SV_c9.out.below hB)
  have SO_10 := Hd.mk (SO_c9.out.below hB)
  have SW_10 := Hd.mk (SW_c9.out.below hB)
  clear HB_c9 HT4_c9 HT9_c9 HT24_c9 HT25 SV_c9 SO_c9 SW_c9
  clear hB
  simp only [ar]
  go_upto_region 14 with fail
  obtain ⟨W10, hW⟩ : ∃ W, W = w10.alloc (.cells (ar S) 25) := ⟨_, rfl⟩
  have hX : Below w10.heap.size w10 W10 := by rw [hW]; exact (Below.refl _ _).alloc (Nat.le_refl _) _
  have hT : W10.heap[w10.heap.size]? = some (.cells (ar S) 25 (0, 0)) := by rw [hW]; exact World.alloc_heap_new _ _
  simp only [ar] at hW
  rw [← hW]
  have HT26 := Hd.mk hT
  clear hW hT
  have HB_c10 := Hd.mk (ch4 HB_10.out hX)
  have HT4_c10 := Hd.mk (keep HT4_10.out hX)
  have HT9_c10 := Hd.mk (keep HT9_10.out hX)
  have HT24_c10 := Hd.mk (keep HT24_10.out hX)
  have HT25_c10 := Hd.mk (keep HT25_10.out hX)
  have SV_c10 := Hd.mk (SV_10.out.below hX)
  have SO_c10 := Hd.mk (SO_10.out.below hX)
  have SW_c10 := Hd.mk (SW_10.out.below hX)
  clear HB_10 HT4_10 HT9_10 HT24_10 HT25_10 SV_10 SO_10 SW_10
  clear hX
  go_wp2_with fail
  refine (H39.out _ _ SO_c10.out).mono ?_
  rintro e w11 ⟨rfl, hB⟩
  have HB_11 := Hd.mk (ch4 HB_c10.out hB)
  have HT4_11 := Hd.mk (keep HT4_c10.out hB)
  have HT9_11 := Hd.mk (keep HT9_c10.out hB)
  have HT24_11 := Hd.mk (keep HT24_c10.out hB)
  have HT25_11 := Hd.mk (keep HT25_c10.out hB)
  have HT26_11 := Hd.mk (keep HT26.out hB)
  have SV_11 := Hd.mk (SV_c10.out.below hB)
  have SO_11 := Hd.mk (SO_c10.out.below hB)
  have SW_11 := Hd.mk (SW_c10.out.below hB)
  clear HB_c10 HT4_c10 HT9_c10 HT24_c10 HT25_c10 HT26 SV_c10 SO_c10 SW_c10
  clear hB
  simp only [ar]
  go_upto_region 15 with fail
  obtain ⟨W11, hW⟩ : ∃ W, W = w11.alloc (.cells (ar S) 25) := ⟨_, rfl⟩
  have hX : Below w11.heap.size w11 W11 := by rw [hW]; exact (Below.refl _ _).alloc (Nat.le_refl _) _
  have hT : W11.heap[w11.heap.size]? = some (.cells (ar S) 25 (0, 0)) := by rw [hW]; exact World.alloc_heap_new _ _
  simp only [ar] at hW
  rw [← hW]
  have HT27 := Hd.mk hT
  clear hW hT
  have HB_c11 := Hd.mk (ch4 HB_11.out hX)
  have HT4_c11 := Hd.mk (keep HT4_11.out hX)
  have HT9_c11 := Hd.mk (keep HT9_11.out hX)
  have HT24_c11 := Hd.mk (keep HT24_11.out hX)
  have HT25_c11 := Hd.mk (keep HT25_11.out hX)
  have HT26_c11 := Hd.mk (keep HT26_11.out hX)
  have SV_c11 := Hd.mk (SV_11.out.below hX)
  have SO_c11 := Hd.mk (SO_11.out.below hX)
  have SW_c11 := Hd.mk (SW_11.out.below hX)
  clear HB_11 HT4_11 HT9_11 HT24_11 HT25_11 HT26_11 SV_11 SO_11 SW_11
  clear hX
  have KT4 := HT4_c11
  have KT9 := HT9_c11
  have KV := SV_c11
  have KO := SO_c11
  have KW := SW_c11
  have KB := HB_c11
  have HX0 : Hd (Below W11.heap.size W11 W11) := ⟨Below.refl _ _⟩
  go_wp2_with fail
  refine (H20.out _ _ SW_c11.out).mono ?_
  rintro e w12 ⟨ab, cb', rfl, hSn, hB⟩
  have HB_12 := Hd.mk (ch4 HB_c11.out hB)
  have HT4_12 := Hd.mk (keep HT4_c11.out hB)
  have HT9_12 := Hd.mk (keep HT9_c11.out hB)
  have HT24_12 := Hd.mk (keep HT24_c11.out hB)
  have HT25_12 := Hd.mk (keep HT25_c11.out hB)
  have HT26_12 := Hd.mk (keep HT26_c11.out hB)
  have HT27_12 := Hd.mk (keep HT27.out hB)
  have SV_12 := Hd.mk (SV_c11.out.below hB)
  have SO_12 := Hd.mk (SO_c11.out.below hB)
  have SW_12 := Hd.mk (SW_c11.out.below hB)
  clear HB_c11 HT4_c11 HT9_c11 HT24_c11 HT25_c11 HT26_c11 HT27 SV_c11 SO_c11 SW_c11
  have HX1 := Hd.mk (ch4 HX0.out hB)
  have HBK := Hd.mk hSn
  clear hB hSn HX0
  go_wp2_with fail
  refine (H40.out _ _ SO_12.out).mono ?_
  rintro e w13 ⟨aq, cq, rfl, hSn, hB⟩
  have HB_13 := Hd.mk (ch4 HB_12.out hB)
  have HT4_13 := Hd.mk (keep HT4_12.out hB)
  have HT9_13 := Hd.mk (keep HT9_12.out hB)
  have HT24_13 := Hd.mk (keep HT24_12.out hB)
  have HT25_13 := Hd.mk (keep HT25_12.out hB)
  have HT26_13 := Hd.mk (keep HT26_12.out hB)
  have HT27_13 := Hd.mk (keep HT27_12.out hB)
  have SV_13 := Hd.mk (SV_12.out.below hB)
  have SO_13 := Hd.mk (SO_12.out.below hB)
  have SW_13 := Hd.mk (SW_12.out.below hB)
  clear HB_12 HT4_12 HT9_12 HT24_12 HT25_12 HT26_12 HT27_12 SV_12 SO_12 SW_12
  have HX2 := Hd.mk (ch4 HX1.out hB)
  have HBK2 := Hd.mk (HBK.out.below hB)
  have HSQ := Hd.mk hSn
  clear hB hSn HX1 HBK
  obtain ⟨c0, c1, c2, c3⟩ := lit4 HT24_13.out
  obtain ⟨d0, d1, d2, d3⟩ := lit4 HT25_13.out
  obtain ⟨p0, p1, p2, p3⟩ := lit4 HT26_13.out
  obtain ⟨q0, q1, q2, q3⟩ := lit4 HT27_13.out
  have hneP : ∀ W : World, (binOp .neq 25 (v4 (P 0) (P 1) (P 2) (P 3)) (v4 (P 0) (P 1) (P 2) (P 3))).run Try.prog W = .ok (.bool false) W := fun W => by have := nev_ar P P W; rwa [eq4_self] at this
  have hneS : ∀ W : World, (binOp .neq 25 (v4 (S 0) (S 1) (S 2) (S 3)) (v4 (S 0) (S 1) (S 2) (S 3))).run Try.prog W = .ok (.bool false) W := fun W => by have := nev_ar S S W; rwa [eq4_self] at this
  have gd25 := guard25
  go_wp2_with fail
  clear c0 c1 c2 c3
  clear d0 d1 d2 d3
  clear p0 p1 p2 p3
  clear q0 q1 q2 q3
  refine (qt_theirs _ bs (by have := HL.out; have := HBL.out; omega) _ HBK2.out.src).mono ?_
  rintro e w14 ⟨at_, ct_, rfl, ⟨hSn, -⟩, hB⟩
  have HB_14 := Hd.mk (ch4 HB_13.out hB)
  have HT4_14 := Hd.mk (keep HT4_13.out hB)
  have HT9_14 := Hd.mk (keep HT9_13.out hB)
  have HT24_14 := Hd.mk (keep HT24_13.out hB)
  have HT25_14 := Hd.mk (keep HT25_13.out hB)
  have HT26_14 := Hd.mk (keep HT26_13.out hB)
  have HT27_14 := Hd.mk (keep HT27_13.out hB)
  have SV_14 := Hd.mk (SV_13.out.below hB)
  have SO_14 := Hd.mk (SO_13.out.below hB)
  have SW_14 := Hd.mk (SW_13.out.below hB)
  have SQ_14 := Hd.mk (HSQ.out.below hB)
  clear HB_13 HT4_13 HT9_13 HT24_13 HT25_13 HT26_13 HT27_13 SV_13 SO_13 SW_13 HSQ
  have HX3 := Hd.mk (ch4 HX2.out hB)
  have HBK3 := Hd.mk (HBK2.out.below hB)
  have HST := Hd.mk hSn
  clear hB hSn HX2 HBK2
  go_wp2_with fail
  refine (qt_req _ _ bs _ HST.out SQ_14.out).mono ?_
  rintro e w15 ⟨rfl, hB⟩
  have HB_15 := Hd.mk (ch4 HB_14.out hB)
  have HT4_15 := Hd.mk (keep HT4_14.out hB)
  have HT9_15 := Hd.mk (keep HT9_14.out hB)
  have HT24_15 := Hd.mk (keep HT24_14.out hB)
  have HT25_15 := Hd.mk (keep HT25_14.out hB)
  have HT26_15 := Hd.mk (keep HT26_14.out hB)
  have HT27_15 := Hd.mk (keep HT27_14.out hB)
  have SV_15 := Hd.mk (SV_14.out.below hB)
  have SO_15 := Hd.mk (SO_14.out.below hB)
  have SW_15 := Hd.mk (SW_14.out.below hB)
  have SQ_15 := Hd.mk (SQ_14.out.below hB)
  have ST_15 := Hd.mk (HST.out.below hB)
  clear HB_14 HT4_14 HT9_14 HT24_14 HT25_14 HT26_14 HT27_14 SV_14 SO_14 SW_14 SQ_14 HST
  have HX4 := Hd.mk (ch4 HX3.out hB)
  have HBK4 := Hd.mk (HBK3.out.below hB)
  clear hB HX3 HBK3 hneP hneS
  have hm0 : (0 : Int) ≤ (bs.length : Int) := by omega
  go_wp2_with fail
  clear HB_15 HT4_15 HT9_15 HT24_15 HT25_15 HT26_15 HT27_15 SV_15 SO_15 SW_15 SQ_15 ST_15
  go_loopw [184] (fun i W => ∃ m : Nat, m ≤ bs.length ∧ i = .int .i64 m ∧ (∃ xs, W.ownsRow W11.heap.size 32 2 (.slice ab bs.length cb') bs.length xs) ∧ Below W11.heap.size W11 W) (fun i _ => bs.length - (intOf i).toNat)
  case atStart => exact ⟨0, Nat.zero_le _, rfl, ⟨_, HBK4.out⟩, HX4.out⟩
  case round =>
    obtain ⟨m, hm, rfl, ⟨xs, ho⟩, hB⟩ := hrel
    have HB := Hd.mk hB
    clear HBK4 HX4
    by_cases hlt : m < bs.length
    · clear hB
      obtain ⟨g, hv⟩ : ∃ g, ab = some ⟨g, 0, none⟩ := by
        rcases ho.2 with ⟨hv, h0⟩ | ⟨g, cap, cur, hv, -⟩
        · omega
        · simp only [Value.slice.injEq] at hv; exact ⟨g, hv.1⟩
      subst hv
      have hxl : xs.length = bs.length * 2 := ho.1
      have hc1 := ho.cellAt (m * 2) (by omega)
      have hc2 := ho.cellAt (m * 2 + 1) (by omega)
      rw [List.getElem?_eq_getElem (by omega)] at hc1 hc2
      have hf1 := ho.frozenAt (m * 2)
      have hf2 := ho.frozenAt (m * 2 + 1)
      obtain ⟨z1, hz1⟩ : ∃ z, xs[m * 2]'(by omega) = z := ⟨_, rfl⟩
      obtain ⟨z2, hz2⟩ : ∃ z, xs[m * 2 + 1]'(by omega) = z := ⟨_, rfl⟩
      rw [hz1] at hc1
      rw [hz2] at hc2
      have HON := Hd.mk ((ho.stored (m * 2) (.int .i64 (-7))).1.stored (m * 2 + 1) (.int .i64 0)).1
      have hgb := (World.ownsRow.lt ho g rfl).1
      have HBN := Hd.mk ((HB.out.setCell (p := ⟨g, m * 2, none⟩) hgb (.int .i64 (-7))).setCell (p := ⟨g, m * 2 + 1, none⟩) hgb (.int .i64 0))
      have m0 : (0 : Int) ≤ (m : Int) := by omega
      have m1 : (m : Int) < (bs.length : Int) := by omega
      have hbl2 : bs.length ≤ 100 := by have := HBL.out; have := HL.out; omega
      clear hz1 hz2 ho hxl
      go_wp2_with fail
      go_roundw
      case rel => exact ⟨m + 1, by omega, by go_num, ⟨_, HON.out⟩, HBN.out⟩
      case measure => simp [intOf] <;> omega
    · obtain rfl : m = bs.length := by omega
      clear hlt hm ho
      have HB_20 := Hd.mk (ch4 KB.out hB)
      have HT4_20 := Hd.mk (keep KT4.out hB)
      have HT9_20 := Hd.mk (keep KT9.out hB)
      have SV_20 := Hd.mk (KV.out.below hB)
      have SW_20 := Hd.mk (KW.out.below hB)
      clear KB KT4 KT9 KV KW
      clear hB HB KO
      obtain ⟨c0, c1, c2, c3, c4, c5, c6, c7⟩ := lit8 HT4_20.out
      go_wp2_with fail
      refine (H16.out _).mono ?_
      rintro e w21 ⟨rfl, hB⟩
      have HB_21 := Hd.mk (ch4 HB_20.out hB)
      have HT4_21 := Hd.mk (keep HT4_20.out hB)
      have HT9_21 := Hd.mk (keep HT9_20.out hB)
      have SV_21 := Hd.mk (SV_20.out.below hB)
      have SW_21 := Hd.mk (SW_20.out.below hB)
      clear HB_20 HT4_20 HT9_20 SV_20 SW_20
      clear hB
      clear c0 c1 c2 c3 c4 c5 c6 c7
      obtain ⟨c0, c1, c2, c3, c4, c5, c6, c7⟩ := lit8 HT9_21.out
      go_wp2_with fail
      refine (H42.out _).mono ?_
      rintro e w22 ⟨rfl, hB⟩
      have HB_22 := Hd.mk (ch4 HB_21.out hB)
      have HT4_22 := Hd.mk (keep HT4_21.out hB)
      have HT9_22 := Hd.mk (keep HT9_21.out hB)
      have SV_22 := Hd.mk (SV_21.out.below hB)
      have SW_22 := Hd.mk (SW_21.out.below hB)
      clear HB_21 HT4_21 HT9_21 SV_21 SW_21
      clear hB
      clear c0 c1 c2 c3 c4 c5 c6 c7
      obtain ⟨c0, c1, c2, c3, c4, c5, c6, c7⟩ := lit8 HT4_22.out
      go_wp2_with fail
      refine (H15.out _).mono ?_
      rintro e w23 ⟨rfl, hB⟩
      have HB_23 := Hd.mk (ch4 HB_22.out hB)
      have HT4_23 := Hd.mk (keep HT4_22.out hB)
      have HT9_23 := Hd.mk (keep HT9_22.out hB)
      have SV_23 := Hd.mk (SV_22.out.below hB)
      have SW_23 := Hd.mk (SW_22.out.below hB)
      clear HB_22 HT4_22 HT9_22 SV_22 SW_22
      clear hB
      clear c0 c1 c2 c3 c4 c5 c6 c7
      go_upto_region 27 with fail
      obtain ⟨W23, hW⟩ : ∃ W, W = w23.alloc (.cells (bk X3 Y3) 27) := ⟨_, rfl⟩
      have hX : Below w23.heap.size w23 W23 := by rw [hW]; exact (Below.refl _ _).alloc (Nat.le_refl _) _
      have hT : W23.heap[w23.heap.size]? = some (.cells (bk X3 Y3) 27 (0, 0)) := by rw [hW]; exact World.alloc_heap_new _ _
      simp only [bk] at hW
      rw [← hW]
      have HT35 := Hd.mk hT
      clear hW hT
      have HB_c23 := Hd.mk (ch4 HB_23.out hX)
      have HT4_c23 := Hd.mk (keep HT4_23.out hX)
      have HT9_c23 := Hd.mk (keep HT9_23.out hX)
      have SV_c23 := Hd.mk (SV_23.out.below hX)
      have SW_c23 := Hd.mk (SW_23.out.below hX)
      clear HB_23 HT4_23 HT9_23 SV_23 SW_23
      clear hX
      obtain ⟨c0, c1, c2, c3, c4, c5, c6, c7⟩ := lit8 HT9_c23.out
      go_wp2_with fail
      refine (H43.out _).mono ?_
      rintro e w24 ⟨rfl, hB⟩
      have HB_24 := Hd.mk (ch4 HB_c23.out hB)
      have HT4_24 := Hd.mk (keep HT4_c23.out hB)
      have HT9_24 := Hd.mk (keep HT9_c23.out hB)
      have HT35_24 := Hd.mk (keep HT35.out hB)
      have SV_24 := Hd.mk (SV_c23.out.below hB)
      have SW_24 := Hd.mk (SW_c23.out.below hB)
      clear HB_c23 HT4_c23 HT9_c23 HT35 SV_c23 SW_c23
      clear hB
      clear c0 c1 c2 c3 c4 c5 c6 c7
      go_upto_region 28 with fail
      obtain ⟨W24, hW⟩ : ∃ W, W = w24.alloc (.cells (bk X3 Y3) 68) := ⟨_, rfl⟩
      have hX : Below w24.heap.size w24 W24 := by rw [hW]; exact (Below.refl _ _).alloc (Nat.le_refl _) _
      have hT : W24.heap[w24.heap.size]? = some (.cells (bk X3 Y3) 68 (0, 0)) := by rw [hW]; exact World.alloc_heap_new _ _
      simp only [bk] at hW
      rw [← hW]
      have HT36 := Hd.mk hT
      clear hW hT
      have HB_c24 := Hd.mk (ch4 HB_24.out hX)
      have HT4_c24 := Hd.mk (keep HT4_24.out hX)
      have HT9_c24 := Hd.mk (keep HT9_24.out hX)
      have HT35_c24 := Hd.mk (keep HT35_24.out hX)
      have SV_c24 := Hd.mk (SV_24.out.below hX)
      have SW_c24 := Hd.mk (SW_24.out.below hX)
      clear HB_24 HT4_24 HT9_24 HT35_24 SV_24 SW_24
      clear hX
      obtain ⟨c0, c1, c2, c3, c4, c5, c6, c7⟩ := lit8 HT4_c24.out
      go_wp2_with fail
      cases hrb : rightB L zf
      · have HRB := Hd.mk hrb
        clear hrb
        refine (qt_newno HRB.out _).mono ?_
        rintro e w25 ⟨rfl, hB⟩
        have HB_25 := Hd.mk (ch4 HB_c24.out hB)
        have HT4_25 := Hd.mk (keep HT4_c24.out hB)
        have HT9_25 := Hd.mk (keep HT9_c24.out hB)
        have HT35_25 := Hd.mk (keep HT35_c24.out hB)
        have HT36_25 := Hd.mk (keep HT36.out hB)
        have SV_25 := Hd.mk (SV_c24.out.below hB)
        have SW_25 := Hd.mk (SW_c24.out.below hB)
        clear HB_c24 HT4_c24 HT9_c24 HT35_c24 HT36 SV_c24 SW_c24
        clear hB
        clear c0 c1 c2 c3 c4 c5 c6 c7
        go_upto_region 29 with fail
        obtain ⟨W25, hW⟩ : ∃ W, W = w25.alloc (.cells #[.int .i64 0, .int .i64 0, .int .i64 0, .int .i64 0, .int .i64 0, .int .i64 0, .int .i64 0, .int .i64 0] 27) := ⟨_, rfl⟩
        have hX : Below w25.heap.size w25 W25 := by rw [hW]; exact (Below.refl _ _).alloc (Nat.le_refl _) _
        have hT : W25.heap[w25.heap.size]? = some (.cells #[.int .i64 0, .int .i64 0, .int .i64 0, .int .i64 0, .int .i64 0, .int .i64 0, .int .i64 0, .int .i64 0] 27 (0, 0)) := by rw [hW]; exact World.alloc_heap_new _ _
        rw [← hW]
        have HT37 := Hd.mk hT
        clear hW hT
        have HB_c25 := Hd.mk (ch4 HB_25.out hX)
        have HT4_c25 := Hd.mk (keep HT4_25.out hX)
        have HT9_c25 := Hd.mk (keep HT9_25.out hX)
        have HT35_c25 := Hd.mk (keep HT35_25.out hX)
        have HT36_c25 := Hd.mk (keep HT36_25.out hX)
        have SV_c25 := Hd.mk (SV_25.out.below hX)
        have SW_c25 := Hd.mk (SW_25.out.below hX)
        clear HB_25 HT4_25 HT9_25 HT35_25 HT36_25 SV_25 SW_25
        clear hX
        obtain ⟨c0, c1, c2, c3, c4, c5, c6, c7⟩ := lit8 HT4_c25.out
        go_upto_region 30 with fail
        obtain ⟨W26, hW⟩ : ∃ W, W = W25.alloc (.cells #[.int .i64 (L 0), .int .i64 (L 1), .int .i64 (L 2), .int .i64 (L 3), .int .i64 0, .int .i64 0, .int .i64 0, .int .i64 0] 68) := ⟨_, rfl⟩
        have hX : Below W25.heap.size W25 W26 := by rw [hW]; exact (Below.refl _ _).alloc (Nat.le_refl _) _
        have hT : W26.heap[W25.heap.size]? = some (.cells #[.int .i64 (L 0), .int .i64 (L 1), .int .i64 (L 2), .int .i64 (L 3), .int .i64 0, .int .i64 0, .int .i64 0, .int .i64 0] 68 (0, 0)) := by rw [hW]; exact World.alloc_heap_new _ _
        rw [← hW]
        have HT38 := Hd.mk hT
        clear hW hT
        have HB_c26 := Hd.mk (ch4 HB_c25.out hX)
        have HT4_c26 := Hd.mk (keep HT4_c25.out hX)
        have HT9_c26 := Hd.mk (keep HT9_c25.out hX)
        have HT35_c26 := Hd.mk (keep HT35_c25.out hX)
        have HT36_c26 := Hd.mk (keep HT36_c25.out hX)
        have HT37_c26 := Hd.mk (keep HT37.out hX)
        have SV_c26 := Hd.mk (SV_c25.out.below hX)
        have SW_c26 := Hd.mk (SW_c25.out.below hX)
        clear HB_c25 HT4_c25 HT9_c25 HT35_c25 HT36_c25 HT37 SV_c25 SW_c25
        clear hX
        clear c0 c1 c2 c3 c4 c5 c6 c7
        obtain ⟨c0, c1, c2, c3, c4, c5, c6, c7⟩ := lit8 HT38.out
        go_wp2_with fail
        refine (qt_rright HRB.out _).mono ?_
        rintro e w27 ⟨rfl, hB⟩
        have HB_27 := Hd.mk (ch4 HB_c26.out hB)
        have HT4_27 := Hd.mk (keep HT4_c26.out hB)
        have HT9_27 := Hd.mk (keep HT9_c26.out hB)
        have HT35_27 := Hd.mk (keep HT35_c26.out hB)
        have HT36_27 := Hd.mk (keep HT36_c26.out hB)
        have HT37_27 := Hd.mk (keep HT37_c26.out hB)
        have HT38_27 := Hd.mk (keep HT38.out hB)
        have SV_27 := Hd.mk (SV_c26.out.below hB)
        have SW_27 := Hd.mk (SW_c26.out.below hB)
        clear HB_c26 HT4_c26 HT9_c26 HT35_c26 HT36_c26 HT37_c26 HT38 SV_c26 SW_c26
        clear hB
        clear c0 c1 c2 c3 c4 c5 c6 c7
        obtain ⟨c0, c1, c2, c3, c4, c5, c6, c7⟩ := lit8 HT35_27.out
        obtain ⟨d0, d1, d2, d3, d4, d5, d6, d7⟩ := lit8 HT36_27.out
        obtain ⟨p0, p1, p2, p3, p4, p5, p6, p7⟩ := lit8 HT37_27.out
        have hn3 : ∀ W : World, (binOp .neq 68 (v8 (X3 0) (X3 1) (X3 2) (X3 3) (Y3 0) (Y3 1) (Y3 2) (Y3 3)) (v8 (X3 0) (X3 1) (X3 2) (X3 3) (Y3 0) (Y3 1) (Y3 2) (Y3 3))).run Try.prog W = .ok (.bool false) W := fun W => by have := nev_rb X3 Y3 X3 Y3 W; rwa [eq4_self, eq4_self] at this
        have hn4 : ∀ W : World, (binOp .neq 27 (v8 0 0 0 0 0 0 0 0) (v8 0 0 0 0 0 0 0 0)).run Try.prog W = .ok (.bool false) W := fun W => by have := nev_bk zf zf zf zf W; rwa [eq4_self] at this
        have gd68 := guard68
        have gd27 := guard27
        go_upto_region 33 with fail
        clear c0 c1 c2 c3 c4 c5 c6 c7
        clear d0 d1 d2 d3 d4 d5 d6 d7
        clear p0 p1 p2 p3 p4 p5 p6 p7
        clear hn3 hn4 gd68 gd27
        have hk5 : k < 0 ∨ 3 < k ∨ k = 0 ∨ k = 1 ∨ k = 2 ∨ k = 3 := by omega
        rcases hk5 with hk | hk | rfl | rfl | rfl | rfl
        · have hkb : isB k = false := (isB_no k).2 (by omega)
          have HKB := Hd.mk hkb
          clear hkb
          go_wp2_with fail
          refine (qt_nameno HKB.out _).mono ?_
          rintro e w28 ⟨rfl, hB⟩
          have HB_28 := Hd.mk (ch4 HB_27.out hB)
          have HT4_28 := Hd.mk (keep HT4_27.out hB)
          have HT9_28 := Hd.mk (keep HT9_27.out hB)
          have SV_28 := Hd.mk (SV_27.out.below hB)
          have SW_28 := Hd.mk (SW_27.out.below hB)
          clear HB_27 HT4_27 HT9_27 SV_27 SW_27
          clear hB
          go_wp2_with fail
          refine (qt_eq _ _ cs _ SW_28.out SV_28.out).mono ?_
          rintro e w29 ⟨rfl, hB⟩
          have HB_29 := Hd.mk (ch4 HB_28.out hB)
          have HT4_29 := Hd.mk (keep HT4_28.out hB)
          have HT9_29 := Hd.mk (keep HT9_28.out hB)
          have SV_29 := Hd.mk (SV_28.out.below hB)
          have SW_29 := Hd.mk (SW_28.out.below hB)
          clear HB_28 HT4_28 HT9_28 SV_28 SW_28
          clear hB
          go_wp2_with fail
          go_ret
          exact ⟨rfl, HB_29.out⟩
        · have hkb : isB k = false := (isB_no k).2 (by omega)
          have HKB := Hd.mk hkb
          clear hkb
          go_wp2_with fail
          refine (qt_nameno HKB.out _).mono ?_
          rintro e w28 ⟨rfl, hB⟩
          have HB_28 := Hd.mk (ch4 HB_27.out hB)
          have HT4_28 := Hd.mk (keep HT4_27.out hB)
          have HT9_28 := Hd.mk (keep HT9_27.out hB)
          have SV_28 := Hd.mk (SV_27.out.below hB)
          have SW_28 := Hd.mk (SW_27.out.below hB)
          clear HB_27 HT4_27 HT9_27 SV_27 SW_27
          clear hB
          go_wp2_with fail
          refine (qt_eq _ _ cs _ SW_28.out SV_28.out).mono ?_
          rintro e w29 ⟨rfl, hB⟩
          have HB_29 := Hd.mk (ch4 HB_28.out hB)
          have HT4_29 := Hd.mk (keep HT4_28.out hB)
          have HT9_29 := Hd.mk (keep HT9_28.out hB)
          have SV_29 := Hd.mk (SV_28.out.below hB)
          have SW_29 := Hd.mk (SW_28.out.below hB)
          clear HB_28 HT4_28 HT9_28 SV_28 SW_28
          clear hB
          go_wp2_with fail
          go_ret
          exact ⟨rfl, HB_29.out⟩
        · go_wp2_with fail
          obtain ⟨W28, hW⟩ : ∃ W, W = w27.alloc (.cells #[.string ⟨#[101, 118, 101, 110, 116, 115]⟩, .string ⟨#[99, 101, 108, 108, 115]⟩, .string ⟨#[112, 111, 114, 116, 115]⟩, .string ⟨#[104, 97, 110, 100, 108, 101, 115]⟩] 9) := ⟨_, rfl⟩
          have hX : Below w27.heap.size w27 W28 := by rw [hW]; exact (Below.refl _ _).alloc (Nat.le_refl _) _
          rw [← hW]
          clear hW
          have HB_c28 := Hd.mk (ch4 HB_27.out hX)
          have HT4_c28 := Hd.mk (keep HT4_27.out hX)
          have HT9_c28 := Hd.mk (keep HT9_27.out hX)
          have SV_c28 := Hd.mk (SV_27.out.below hX)
          have SW_c28 := Hd.mk (SW_27.out.below hX)
          clear HB_27 HT4_27 HT9_27 SV_27 SW_27
          clear hX
          refine (qt_name0 _).mono ?_
          rintro e w28 ⟨rfl, hB⟩
          have HB_28 := Hd.mk (ch4 HB_c28.out hB)
          have HT4_28 := Hd.mk (keep HT4_c28.out hB)
          have HT9_28 := Hd.mk (keep HT9_c28.out hB)
          have SV_28 := Hd.mk (SV_c28.out.below hB)
          have SW_28 := Hd.mk (SW_c28.out.below hB)
          clear HB_c28 HT4_c28 HT9_c28 SV_c28 SW_c28
          clear hB
          go_wp2_with fail
          refine (qt_eq _ _ cs _ SW_28.out SV_28.out).mono ?_
          rintro e w29 ⟨rfl, hB⟩
          have HB_29 := Hd.mk (ch4 HB_28.out hB)
          have HT4_29 := Hd.mk (keep HT4_28.out hB)
          have HT9_29 := Hd.mk (keep HT9_28.out hB)
          have SV_29 := Hd.mk (SV_28.out.below hB)
          have SW_29 := Hd.mk (SW_28.out.below hB)
          clear HB_28 HT4_28 HT9_28 SV_28 SW_28
          clear hB
          go_wp2_with fail
          go_ret
          exact ⟨rfl, HB_29.out⟩
        · go_wp2_with fail
          obtain ⟨W28, hW⟩ : ∃ W, W = w27.alloc (.cells #[.string ⟨#[101, 118, 101, 110, 116, 115]⟩, .string ⟨#[99, 101, 108, 108, 115]⟩, .string ⟨#[112, 111, 114, 116, 115]⟩, .string ⟨#[104, 97, 110, 100, 108, 101, 115]⟩] 9) := ⟨_, rfl⟩
          have hX : Below w27.heap.size w27 W28 := by rw [hW]; exact (Below.refl _ _).alloc (Nat.le_refl _) _
          rw [← hW]
          clear hW
          have HB_c28 := Hd.mk (ch4 HB_27.out hX)
          have HT4_c28 := Hd.mk (keep HT4_27.out hX)
          have HT9_c28 := Hd.mk (keep HT9_27.out hX)
          have SV_c28 := Hd.mk (SV_27.out.below hX)
          have SW_c28 := Hd.mk (SW_27.out.below hX)
          clear HB_27 HT4_27 HT9_27 SV_27 SW_27
          clear hX
          refine (qt_name1 _).mono ?_
          rintro e w28 ⟨rfl, hB⟩
          have HB_28 := Hd.mk (ch4 HB_c28.out hB)
          have HT4_28 := Hd.mk (keep HT4_c28.out hB)
          have HT9_28 := Hd.mk (keep HT9_c28.out hB)
          have SV_28 := Hd.mk (SV_c28.out.below hB)
          have SW_28 := Hd.mk (SW_c28.out.below hB)
          clear HB_c28 HT4_c28 HT9_c28 SV_c28 SW_c28
          clear hB
          go_wp2_with fail
          refine (qt_eq _ _ cs _ SW_28.out SV_28.out).mono ?_
          rintro e w29 ⟨rfl, hB⟩
          have HB_29 := Hd.mk (ch4 HB_28.out hB)
          have HT4_29 := Hd.mk (keep HT4_28.out hB)
          have HT9_29 := Hd.mk (keep HT9_28.out hB)
          have SV_29 := Hd.mk (SV_28.out.below hB)
          have SW_29 := Hd.mk (SW_28.out.below hB)
          clear HB_28 HT4_28 HT9_28 SV_28 SW_28
          clear hB
          go_wp2_with fail
          go_ret
          exact ⟨rfl, HB_29.out⟩
        · go_wp2_with fail
          obtain ⟨W28, hW⟩ : ∃ W, W = w27.alloc (.cells #[.string ⟨#[101, 118, 101, 110, 116, 115]⟩, .string ⟨#[99, 101, 108, 108, 115]⟩, .string ⟨#[112, 111, 114, 116, 115]⟩, .string ⟨#[104, 97, 110, 100, 108, 101, 115]⟩] 9) := ⟨_, rfl⟩
          have hX : Below w27.heap.size w27 W28 := by rw [hW]; exact (Below.refl _ _).alloc (Nat.le_refl _) _
          rw [← hW]
          clear hW
          have HB_c28 := Hd.mk (ch4 HB_27.out hX)
          have HT4_c28 := Hd.mk (keep HT4_27.out hX)
          have HT9_c28 := Hd.mk (keep HT9_27.out hX)
          have SV_c28 := Hd.mk (SV_27.out.below hX)
          have SW_c28 := Hd.mk (SW_27.out.below hX)
          clear HB_27 HT4_27 HT9_27 SV_27 SW_27
          clear hX
          refine (qt_name2 _).mono ?_
          rintro e w28 ⟨rfl, hB⟩
          have HB_28 := Hd.mk (ch4 HB_c28.out hB)
          have HT4_28 := Hd.mk (keep HT4_c28.out hB)
          have HT9_28 := Hd.mk (keep HT9_c28.out hB)
          have SV_28 := Hd.mk (SV_c28.out.below hB)
          have SW_28 := Hd.mk (SW_c28.out.below hB)
          clear HB_c28 HT4_c28 HT9_c28 SV_c28 SW_c28
          clear hB
          go_wp2_with fail
          refine (qt_eq _ _ cs _ SW_28.out SV_28.out).mono ?_
          rintro e w29 ⟨rfl, hB⟩
          have HB_29 := Hd.mk (ch4 HB_28.out hB)
          have HT4_29 := Hd.mk (keep HT4_28.out hB)
          have HT9_29 := Hd.mk (keep HT9_28.out hB)
          have SV_29 := Hd.mk (SV_28.out.below hB)
          have SW_29 := Hd.mk (SW_28.out.below hB)
          clear HB_28 HT4_28 HT9_28 SV_28 SW_28
          clear hB
          go_wp2_with fail
          go_ret
          exact ⟨rfl, HB_29.out⟩
        · go_wp2_with fail
          obtain ⟨W28, hW⟩ : ∃ W, W = w27.alloc (.cells #[.string ⟨#[101, 118, 101, 110, 116, 115]⟩, .string ⟨#[99, 101, 108, 108, 115]⟩, .string ⟨#[112, 111, 114, 116, 115]⟩, .string ⟨#[104, 97, 110, 100, 108, 101, 115]⟩] 9) := ⟨_, rfl⟩
          have hX : Below w27.heap.size w27 W28 := by rw [hW]; exact (Below.refl _ _).alloc (Nat.le_refl _) _
          rw [← hW]
          clear hW
          have HB_c28 := Hd.mk (ch4 HB_27.out hX)
          have HT4_c28 := Hd.mk (keep HT4_27.out hX)
          have HT9_c28 := Hd.mk (keep HT9_27.out hX)
          have SV_c28 := Hd.mk (SV_27.out.below hX)
          have SW_c28 := Hd.mk (SW_27.out.below hX)
          clear HB_27 HT4_27 HT9_27 SV_27 SW_27
          clear hX
          refine (qt_name3 _).mono ?_
          rintro e w28 ⟨rfl, hB⟩
          have HB_28 := Hd.mk (ch4 HB_c28.out hB)
          have HT4_28 := Hd.mk (keep HT4_c28.out hB)
          have HT9_28 := Hd.mk (keep HT9_c28.out hB)
          have SV_28 := Hd.mk (SV_c28.out.below hB)
          have SW_28 := Hd.mk (SW_c28.out.below hB)
          clear HB_c28 HT4_c28 HT9_c28 SV_c28 SW_c28
          clear hB
          go_wp2_with fail
          refine (qt_eq _ _ cs _ SW_28.out SV_28.out).mono ?_
          rintro e w29 ⟨rfl, hB⟩
          have HB_29 := Hd.mk (ch4 HB_28.out hB)
          have HT4_29 := Hd.mk (keep HT4_28.out hB)
          have HT9_29 := Hd.mk (keep HT9_28.out hB)
          have SV_29 := Hd.mk (SV_28.out.below hB)
          have SW_29 := Hd.mk (SW_28.out.below hB)
          clear HB_28 HT4_28 HT9_28 SV_28 SW_28
          clear hB
          go_wp2_with fail
          go_ret
          exact ⟨rfl, HB_29.out⟩
      · have HRB := Hd.mk hrb
        clear hrb
        refine (qt_newok HRB.out _).mono ?_
        rintro e w25 ⟨rfl, hB⟩
        have HB_25 := Hd.mk (ch4 HB_c24.out hB)
        have HT4_25 := Hd.mk (keep HT4_c24.out hB)
        have HT9_25 := Hd.mk (keep HT9_c24.out hB)
        have HT35_25 := Hd.mk (keep HT35_c24.out hB)
        have HT36_25 := Hd.mk (keep HT36.out hB)
        have SV_25 := Hd.mk (SV_c24.out.below hB)
        have SW_25 := Hd.mk (SW_c24.out.below hB)
        clear HB_c24 HT4_c24 HT9_c24 HT35_c24 HT36 SV_c24 SW_c24
        clear hB
        clear c0 c1 c2 c3 c4 c5 c6 c7
        go_upto_region 29 with fail
        obtain ⟨W25, hW⟩ : ∃ W, W = w25.alloc (.cells #[.int .i64 (L 0), .int .i64 (L 1), .int .i64 (L 2), .int .i64 (L 3), .int .i64 0, .int .i64 0, .int .i64 0, .int .i64 0] 27) := ⟨_, rfl⟩
        have hX : Below w25.heap.size w25 W25 := by rw [hW]; exact (Below.refl _ _).alloc (Nat.le_refl _) _
        have hT : W25.heap[w25.heap.size]? = some (.cells #[.int .i64 (L 0), .int .i64 (L 1), .int .i64 (L 2), .int .i64 (L 3), .int .i64 0, .int .i64 0, .int .i64 0, .int .i64 0] 27 (0, 0)) := by rw [hW]; exact World.alloc_heap_new _ _
        rw [← hW]
        have HT37 := Hd.mk hT
        clear hW hT
        have HB_c25 := Hd.mk (ch4 HB_25.out hX)
        have HT4_c25 := Hd.mk (keep HT4_25.out hX)
        have HT9_c25 := Hd.mk (keep HT9_25.out hX)
        have HT35_c25 := Hd.mk (keep HT35_25.out hX)
        have HT36_c25 := Hd.mk (keep HT36_25.out hX)
        have SV_c25 := Hd.mk (SV_25.out.below hX)
        have SW_c25 := Hd.mk (SW_25.out.below hX)
        clear HB_25 HT4_25 HT9_25 HT35_25 HT36_25 SV_25 SW_25
        clear hX
        obtain ⟨c0, c1, c2, c3, c4, c5, c6, c7⟩ := lit8 HT4_c25.out
        go_upto_region 30 with fail
        obtain ⟨W26, hW⟩ : ∃ W, W = W25.alloc (.cells #[.int .i64 (L 0), .int .i64 (L 1), .int .i64 (L 2), .int .i64 (L 3), .int .i64 0, .int .i64 0, .int .i64 0, .int .i64 0] 68) := ⟨_, rfl⟩
        have hX : Below W25.heap.size W25 W26 := by rw [hW]; exact (Below.refl _ _).alloc (Nat.le_refl _) _
        have hT : W26.heap[W25.heap.size]? = some (.cells #[.int .i64 (L 0), .int .i64 (L 1), .int .i64 (L 2), .int .i64 (L 3), .int .i64 0, .int .i64 0, .int .i64 0, .int .i64 0] 68 (0, 0)) := by rw [hW]; exact World.alloc_heap_new _ _
        rw [← hW]
        have HT38 := Hd.mk hT
        clear hW hT
        have HB_c26 := Hd.mk (ch4 HB_c25.out hX)
        have HT4_c26 := Hd.mk (keep HT4_c25.out hX)
        have HT9_c26 := Hd.mk (keep HT9_c25.out hX)
        have HT35_c26 := Hd.mk (keep HT35_c25.out hX)
        have HT36_c26 := Hd.mk (keep HT36_c25.out hX)
        have HT37_c26 := Hd.mk (keep HT37.out hX)
        have SV_c26 := Hd.mk (SV_c25.out.below hX)
        have SW_c26 := Hd.mk (SW_c25.out.below hX)
        clear HB_c25 HT4_c25 HT9_c25 HT35_c25 HT36_c25 HT37 SV_c25 SW_c25
        clear hX
        clear c0 c1 c2 c3 c4 c5 c6 c7
        obtain ⟨c0, c1, c2, c3, c4, c5, c6, c7⟩ := lit8 HT38.out
        go_wp2_with fail
        refine (qt_rright HRB.out _).mono ?_
        rintro e w27 ⟨rfl, hB⟩
        have HB_27 := Hd.mk (ch4 HB_c26.out hB)
        have HT4_27 := Hd.mk (keep HT4_c26.out hB)
        have HT9_27 := Hd.mk (keep HT9_c26.out hB)
        have HT35_27 := Hd.mk (keep HT35_c26.out hB)
        have HT36_27 := Hd.mk (keep HT36_c26.out hB)
        have HT37_27 := Hd.mk (keep HT37_c26.out hB)
        have HT38_27 := Hd.mk (keep HT38.out hB)
        have SV_27 := Hd.mk (SV_c26.out.below hB)
        have SW_27 := Hd.mk (SW_c26.out.below hB)
        clear HB_c26 HT4_c26 HT9_c26 HT35_c26 HT36_c26 HT37_c26 HT38 SV_c26 SW_c26
        clear hB
        clear c0 c1 c2 c3 c4 c5 c6 c7
        obtain ⟨c0, c1, c2, c3, c4, c5, c6, c7⟩ := lit8 HT35_27.out
        obtain ⟨d0, d1, d2, d3, d4, d5, d6, d7⟩ := lit8 HT36_27.out
        obtain ⟨p0, p1, p2, p3, p4, p5, p6, p7⟩ := lit8 HT37_27.out
        obtain ⟨q0, q1, q2, q3, q4, q5, q6, q7⟩ := lit8 HT38_27.out
        have hn3 : ∀ W : World, (binOp .neq 68 (v8 (X3 0) (X3 1) (X3 2) (X3 3) (Y3 0) (Y3 1) (Y3 2) (Y3 3)) (v8 (X3 0) (X3 1) (X3 2) (X3 3) (Y3 0) (Y3 1) (Y3 2) (Y3 3))).run Try.prog W = .ok (.bool false) W := fun W => by have := nev_rb X3 Y3 X3 Y3 W; rwa [eq4_self, eq4_self] at this
        have hn4 : ∀ W : World, (binOp .neq 68 (v8 (L 0) (L 1) (L 2) (L 3) 0 0 0 0) (v8 (L 0) (L 1) (L 2) (L 3) 0 0 0 0)).run Try.prog W = .ok (.bool false) W := fun W => by have := nev_rb L zf L zf W; rwa [eq4_self, eq4_self] at this
        have gd68 := guard68
        have gd27 := guard27
        go_upto_region 33 with fail
        clear c0 c1 c2 c3 c4 c5 c6 c7
        clear d0 d1 d2 d3 d4 d5 d6 d7
        clear p0 p1 p2 p3 p4 p5 p6 p7
        clear q0 q1 q2 q3 q4 q5 q6 q7
        clear hn3 hn4 gd68 gd27
        have hk5 : k < 0 ∨ 3 < k ∨ k = 0 ∨ k = 1 ∨ k = 2 ∨ k = 3 := by omega
        rcases hk5 with hk | hk | rfl | rfl | rfl | rfl
        · have hkb : isB k = false := (isB_no k).2 (by omega)
          have HKB := Hd.mk hkb
          clear hkb
          go_wp2_with fail
          refine (qt_nameno HKB.out _).mono ?_
          rintro e w28 ⟨rfl, hB⟩
          have HB_28 := Hd.mk (ch4 HB_27.out hB)
          have HT4_28 := Hd.mk (keep HT4_27.out hB)
          have HT9_28 := Hd.mk (keep HT9_27.out hB)
          have SV_28 := Hd.mk (SV_27.out.below hB)
          have SW_28 := Hd.mk (SW_27.out.below hB)
          clear HB_27 HT4_27 HT9_27 SV_27 SW_27
          clear hB
          go_wp2_with fail
          refine (qt_eq _ _ cs _ SW_28.out SV_28.out).mono ?_
          rintro e w29 ⟨rfl, hB⟩
          have HB_29 := Hd.mk (ch4 HB_28.out hB)
          have HT4_29 := Hd.mk (keep HT4_28.out hB)
          have HT9_29 := Hd.mk (keep HT9_28.out hB)
          have SV_29 := Hd.mk (SV_28.out.below hB)
          have SW_29 := Hd.mk (SW_28.out.below hB)
          clear HB_28 HT4_28 HT9_28 SV_28 SW_28
          clear hB
          go_wp2_with fail
          go_ret
          exact ⟨rfl, HB_29.out⟩
        · have hkb : isB k = false := (isB_no k).2 (by omega)
          have HKB := Hd.mk hkb
          clear hkb
          go_wp2_with fail
          refine (qt_nameno HKB.out _).mono ?_
          rintro e w28 ⟨rfl, hB⟩
          have HB_28 := Hd.mk (ch4 HB_27.out hB)
          have HT4_28 := Hd.mk (keep HT4_27.out hB)
          have HT9_28 := Hd.mk (keep HT9_27.out hB)
          have SV_28 := Hd.mk (SV_27.out.below hB)
          have SW_28 := Hd.mk (SW_27.out.below hB)
          clear HB_27 HT4_27 HT9_27 SV_27 SW_27
          clear hB
          go_wp2_with fail
          refine (qt_eq _ _ cs _ SW_28.out SV_28.out).mono ?_
          rintro e w29 ⟨rfl, hB⟩
          have HB_29 := Hd.mk (ch4 HB_28.out hB)
          have HT4_29 := Hd.mk (keep HT4_28.out hB)
          have HT9_29 := Hd.mk (keep HT9_28.out hB)
          have SV_29 := Hd.mk (SV_28.out.below hB)
          have SW_29 := Hd.mk (SW_28.out.below hB)
          clear HB_28 HT4_28 HT9_28 SV_28 SW_28
          clear hB
          go_wp2_with fail
          go_ret
          exact ⟨rfl, HB_29.out⟩
        · go_wp2_with fail
          obtain ⟨W28, hW⟩ : ∃ W, W = w27.alloc (.cells #[.string ⟨#[101, 118, 101, 110, 116, 115]⟩, .string ⟨#[99, 101, 108, 108, 115]⟩, .string ⟨#[112, 111, 114, 116, 115]⟩, .string ⟨#[104, 97, 110, 100, 108, 101, 115]⟩] 9) := ⟨_, rfl⟩
          have hX : Below w27.heap.size w27 W28 := by rw [hW]; exact (Below.refl _ _).alloc (Nat.le_refl _) _
          rw [← hW]
          clear hW
          have HB_c28 := Hd.mk (ch4 HB_27.out hX)
          have HT4_c28 := Hd.mk (keep HT4_27.out hX)
          have HT9_c28 := Hd.mk (keep HT9_27.out hX)
          have SV_c28 := Hd.mk (SV_27.out.below hX)
          have SW_c28 := Hd.mk (SW_27.out.below hX)
          clear HB_27 HT4_27 HT9_27 SV_27 SW_27
          clear hX
          refine (qt_name0 _).mono ?_
          rintro e w28 ⟨rfl, hB⟩
          have HB_28 := Hd.mk (ch4 HB_c28.out hB)
          have HT4_28 := Hd.mk (keep HT4_c28.out hB)
          have HT9_28 := Hd.mk (keep HT9_c28.out hB)
          have SV_28 := Hd.mk (SV_c28.out.below hB)
          have SW_28 := Hd.mk (SW_c28.out.below hB)
          clear HB_c28 HT4_c28 HT9_c28 SV_c28 SW_c28
          clear hB
          go_wp2_with fail
          refine (qt_eq _ _ cs _ SW_28.out SV_28.out).mono ?_
          rintro e w29 ⟨rfl, hB⟩
          have HB_29 := Hd.mk (ch4 HB_28.out hB)
          have HT4_29 := Hd.mk (keep HT4_28.out hB)
          have HT9_29 := Hd.mk (keep HT9_28.out hB)
          have SV_29 := Hd.mk (SV_28.out.below hB)
          have SW_29 := Hd.mk (SW_28.out.below hB)
          clear HB_28 HT4_28 HT9_28 SV_28 SW_28
          clear hB
          go_wp2_with fail
          go_ret
          exact ⟨rfl, HB_29.out⟩
        · go_wp2_with fail
          obtain ⟨W28, hW⟩ : ∃ W, W = w27.alloc (.cells #[.string ⟨#[101, 118, 101, 110, 116, 115]⟩, .string ⟨#[99, 101, 108, 108, 115]⟩, .string ⟨#[112, 111, 114, 116, 115]⟩, .string ⟨#[104, 97, 110, 100, 108, 101, 115]⟩] 9) := ⟨_, rfl⟩
          have hX : Below w27.heap.size w27 W28 := by rw [hW]; exact (Below.refl _ _).alloc (Nat.le_refl _) _
          rw [← hW]
          clear hW
          have HB_c28 := Hd.mk (ch4 HB_27.out hX)
          have HT4_c28 := Hd.mk (keep HT4_27.out hX)
          have HT9_c28 := Hd.mk (keep HT9_27.out hX)
          have SV_c28 := Hd.mk (SV_27.out.below hX)
          have SW_c28 := Hd.mk (SW_27.out.below hX)
          clear HB_27 HT4_27 HT9_27 SV_27 SW_27
          clear hX
          refine (qt_name1 _).mono ?_
          rintro e w28 ⟨rfl, hB⟩
          have HB_28 := Hd.mk (ch4 HB_c28.out hB)
          have HT4_28 := Hd.mk (keep HT4_c28.out hB)
          have HT9_28 := Hd.mk (keep HT9_c28.out hB)
          have SV_28 := Hd.mk (SV_c28.out.below hB)
          have SW_28 := Hd.mk (SW_c28.out.below hB)
          clear HB_c28 HT4_c28 HT9_c28 SV_c28 SW_c28
          clear hB
          go_wp2_with fail
          refine (qt_eq _ _ cs _ SW_28.out SV_28.out).mono ?_
          rintro e w29 ⟨rfl, hB⟩
          have HB_29 := Hd.mk (ch4 HB_28.out hB)
          have HT4_29 := Hd.mk (keep HT4_28.out hB)
          have HT9_29 := Hd.mk (keep HT9_28.out hB)
          have SV_29 := Hd.mk (SV_28.out.below hB)
          have SW_29 := Hd.mk (SW_28.out.below hB)
          clear HB_28 HT4_28 HT9_28 SV_28 SW_28
          clear hB
          go_wp2_with fail
          go_ret
          exact ⟨rfl, HB_29.out⟩
        · go_wp2_with fail
          obtain ⟨W28, hW⟩ : ∃ W, W = w27.alloc (.cells #[.string ⟨#[101, 118, 101, 110, 116, 115]⟩, .string ⟨#[99, 101, 108, 108, 115]⟩, .string ⟨#[112, 111, 114, 116, 115]⟩, .string ⟨#[104, 97, 110, 100, 108, 101, 115]⟩] 9) := ⟨_, rfl⟩
          have hX : Below w27.heap.size w27 W28 := by rw [hW]; exact (Below.refl _ _).alloc (Nat.le_refl _) _
          rw [← hW]
          clear hW
          have HB_c28 := Hd.mk (ch4 HB_27.out hX)
          have HT4_c28 := Hd.mk (keep HT4_27.out hX)
          have HT9_c28 := Hd.mk (keep HT9_27.out hX)
          have SV_c28 := Hd.mk (SV_27.out.below hX)
          have SW_c28 := Hd.mk (SW_27.out.below hX)
          clear HB_27 HT4_27 HT9_27 SV_27 SW_27
          clear hX
          refine (qt_name2 _).mono ?_
          rintro e w28 ⟨rfl, hB⟩
          have HB_28 := Hd.mk (ch4 HB_c28.out hB)
          have HT4_28 := Hd.mk (keep HT4_c28.out hB)
          have HT9_28 := Hd.mk (keep HT9_c28.out hB)
          have SV_28 := Hd.mk (SV_c28.out.below hB)
          have SW_28 := Hd.mk (SW_c28.out.below hB)
          clear HB_c28 HT4_c28 HT9_c28 SV_c28 SW_c28
          clear hB
          go_wp2_with fail
          refine (qt_eq _ _ cs _ SW_28.out SV_28.out).mono ?_
          rintro e w29 ⟨rfl, hB⟩
          have HB_29 := Hd.mk (ch4 HB_28.out hB)
          have HT4_29 := Hd.mk (keep HT4_28.out hB)
          have HT9_29 := Hd.mk (keep HT9_28.out hB)
          have SV_29 := Hd.mk (SV_28.out.below hB)
          have SW_29 := Hd.mk (SW_28.out.below hB)
          clear HB_28 HT4_28 HT9_28 SV_28 SW_28
          clear hB
          go_wp2_with fail
          go_ret
          exact ⟨rfl, HB_29.out⟩
        · go_wp2_with fail
          obtain ⟨W28, hW⟩ : ∃ W, W = w27.alloc (.cells #[.string ⟨#[101, 118, 101, 110, 116, 115]⟩, .string ⟨#[99, 101, 108, 108, 115]⟩, .string ⟨#[112, 111, 114, 116, 115]⟩, .string ⟨#[104, 97, 110, 100, 108, 101, 115]⟩] 9) := ⟨_, rfl⟩
          have hX : Below w27.heap.size w27 W28 := by rw [hW]; exact (Below.refl _ _).alloc (Nat.le_refl _) _
          rw [← hW]
          clear hW
          have HB_c28 := Hd.mk (ch4 HB_27.out hX)
          have HT4_c28 := Hd.mk (keep HT4_27.out hX)
          have HT9_c28 := Hd.mk (keep HT9_27.out hX)
          have SV_c28 := Hd.mk (SV_27.out.below hX)
          have SW_c28 := Hd.mk (SW_27.out.below hX)
          clear HB_27 HT4_27 HT9_27 SV_27 SW_27
          clear hX
          refine (qt_name3 _).mono ?_
          rintro e w28 ⟨rfl, hB⟩
          have HB_28 := Hd.mk (ch4 HB_c28.out hB)
          have HT4_28 := Hd.mk (keep HT4_c28.out hB)
          have HT9_28 := Hd.mk (keep HT9_c28.out hB)
          have SV_28 := Hd.mk (SV_c28.out.below hB)
          have SW_28 := Hd.mk (SW_c28.out.below hB)
          clear HB_c28 HT4_c28 HT9_c28 SV_c28 SW_c28
          clear hB
          go_wp2_with fail
          refine (qt_eq _ _ cs _ SW_28.out SV_28.out).mono ?_
          rintro e w29 ⟨rfl, hB⟩
          have HB_29 := Hd.mk (ch4 HB_28.out hB)
          have HT4_29 := Hd.mk (keep HT4_28.out hB)
          have HT9_29 := Hd.mk (keep HT9_28.out hB)
          have SV_29 := Hd.mk (SV_28.out.below hB)
          have SW_29 := Hd.mk (SW_28.out.below hB)
          clear HB_28 HT4_28 HT9_28 SV_28 SW_28
          clear hB
          go_wp2_with fail
          go_ret
          exact ⟨rfl, HB_29.out⟩
end Go.Proofs.Ytppfhcocmpmadaa
