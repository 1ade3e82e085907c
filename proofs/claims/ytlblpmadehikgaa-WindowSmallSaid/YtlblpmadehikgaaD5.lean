/- The law WindowLater: its walk. -/
import Derived.Test.YtlblpmadehikgaaE2
import Derived.Deep.DeepCutAuto
import Derived.Test.YtlblpmadehikgaaD4
import Derived.Deep.RegionHeld3
namespace Go.Proofs.Ytlblpmadehikgaa
open Go.RowKit Go.Shelf
set_option linter.unusedVariables false

theorem winB_from {ah g h : Int} : ∀ (S : List Int) (b : Int), (∀ t ∈ S, h ≤ t) → b ≤ h → winB ah g b S = winB ah g h S
  | [], _, _, _ => rfl
  | t :: ts, b, hS, hb => by
    have := hS t List.mem_cons_self
    rw [winB_cons ah g b, winB_cons ah g h]
    by_cases h1 : g ≤ t
    · rw [if_pos h1, if_pos h1]
    · rw [if_neg h1, if_neg h1, if_neg (by omega), if_neg (by omega)]
theorem winB_filter {ah g h : Int} (hg : h ≤ g) : ∀ (S : List Int), S.Pairwise (· ≤ ·) → winB ah g h (S.filter (fun t => decide (h ≤ t))) = winB ah g h S
  | [], _ => rfl
  | t :: ts, hp => by
    have hp' := List.pairwise_cons.1 hp
    by_cases h1 : h ≤ t
    · rw [List.filter_eq_self.2]
      intro s hs
      rcases List.mem_cons.1 hs with rfl | hs
      · simpa using h1
      · have := hp'.1 s hs; simp; omega
    · rw [List.filter_cons_of_neg (by simpa using h1), winB_cons ah g h, if_neg (by omega), if_pos (by omega)]
      exact winB_filter hg ts hp'.2
theorem fromF_mem {h t : Int} {l : List Int} : t ∈ fromF h l ↔ t ∈ l ∧ h ≤ t := by rw [fromF, List.mem_filter, decide_eq_true_eq]
theorem sort_from (h : Int) (l : List Int) : sortV (fromF h l) = (sortV l).filter (fun t => decide (h ≤ t)) :=
  sort_eq ((sort_pw l).filter _) ((sort_perm l).filter _)
theorem winsV_from {A H G : Int} {T : List Int} (hT : ∀ t ∈ T, timeB t = true) (h0 : 0 ≤ H) (hg : H ≤ G) : winsV A G (fromF H T) = winB A G H (sortV T) := by
  rw [winsV_winB (fun t ht => hT t (fromF_mem.1 ht).1), sort_from, winB_from _ 0 (fun t ht => by simpa using (List.mem_filter.1 ht).2) h0, winB_filter hg _ (sort_pw T)]
/-- Windows up to two horizons. -/
structure WL (X Y Z : List (Int × Int)) : Prop where
  len : X.length ≤ Y.length
  eq : ∀ i (h1 : i < X.length) (h2 : i < Y.length), X[i].1 = Y[i].1 ∧ X[i].2 ≤ Y[i].2 ∧ (i + 1 < X.length → X[i] = Y[i])
  lo : Y.length ≤ X.length + Z.length
  hi : X.length + Z.length ≤ Y.length + 1
theorem WL.of {A H G : Int} {T : List Int} (hA : 1 ≤ A) (hT : ∀ t ∈ T, timeB t = true) (h0 : 0 ≤ H) (hg : H ≤ G) : WL (winsV A H T) (winsV A G T) (winsV A G (fromF H T)) := by
  rw [winsV_winB hT, winsV_winB hT, winsV_from hT h0 hg]
  have h1 := winB_later hA hg (sortV T) 0 (sort_pw T)
  have h2 := winB_cut hA hg (sortV T) 0 (sort_pw T) h0
  exact ⟨h1.1, h1.2, h2.1, h2.2⟩
theorem s5_keep {W0 W W' : World} {p q r s : Addr} {a b c d : Value} (h : W.cell? p = some a ∧ W.cell? q = some b ∧ W.cell? r = some c ∧ W.cell? s = some d ∧ Below W0.heap.size W0 W) (hB : Below W.heap.size W W') :
    W'.cell? p = some a ∧ W'.cell? q = some b ∧ W'.cell? r = some c ∧ W'.cell? s = some d ∧ Below W0.heap.size W0 W' := s11_keep h hB

set_option maxRecDepth 100000 in
set_option maxHeartbeats 8000000 in
theorem later_law (lv : Value) (ls : List Int) (ah p q : Nat) (w : World) (hl : SrcE e64 w lv ls) (hlb : ∀ x ∈ ls, 0 ≤ x ∧ x < 18446744073709551616) (ha : ah < 18446744073709551616) (hp : p < 18446744073709551616) (hq : q < 18446744073709551616) :
    Calls Try.prog 10 #[lv, .int .u64 (ah : Int), .int .u64 (p : Int), .int .u64 (q : Int)] w fun e w' => e = .returned (.bool true) ∧ Below w.heap.size w w' := by
  have FL := Hd.mk hl
  have HLB := Hd.mk hlb
  clear hl hlb
  go_enter Try.func10, Try.ntmps10
  go_wp2_with fail
  refine (times_any _ ls _ FL.out HLB.out).mono ?_
  rintro e w1 ⟨v1, rfl, hO, hB⟩
  have HB2 := Hd.mk hB
  have Fl_2 := Hd.mk (FL.out.below hB)
  clear FL
  have FO := Hd.mk (AppI.lower hO (Nat.le_refl _))
  have HL50 := Hd.mk (times_len ls)
  have HTR := Hd.mk (times_right ls)
  clear hB hO
  clear Fl_2
  generalize timesV ls = T at *
  go_wp2_with fail
  refine (ahead_of ah ha _).mono ?_
  rintro e w3 ⟨rfl, hB⟩
  have HB4 := Hd.mk (ch4 HB2.out hB)
  have Fo_4 := Hd.mk (FO.out.below hB)
  clear HB2 FO
  clear hB
  go_wp2_with fail
  obtain ⟨hA0, hA1⟩ := ahead_le (ahead_right ah)
  have HAR := Hd.mk (ahead_right ah)
  generalize aheadV ah = A at *
  obtain ⟨hp0, hp1⟩ := hor_iff.1 (hor_right p)
  obtain ⟨hq0, hq1⟩ := hor_iff.1 (hor_right q)
  refine (hor_of p hp _).mono ?_
  rintro e w5 ⟨rfl, hB⟩
  have HB6 := Hd.mk (ch4 HB4.out hB)
  have Fo_6 := Hd.mk (Fo_4.out.below hB)
  clear HB4 Fo_4
  clear hB
  go_wp2_with fail
  refine (hor_of q hq _).mono ?_
  rintro e w7 ⟨rfl, hB⟩
  have HB8 := Hd.mk (ch4 HB6.out hB)
  have Fo_8 := Hd.mk (Fo_6.out.below hB)
  clear HB6 Fo_6
  clear hB
  go_wp2_with fail
  refine (hor_of p hp _).mono ?_
  rintro e w9 ⟨rfl, hB⟩
  have HB10 := Hd.mk (ch4 HB8.out hB)
  have Fo_10 := Hd.mk (Fo_8.out.below hB)
  clear HB8 Fo_8
  clear hB
  go_wp2_with fail
  refine (hor_of q hq _).mono ?_
  rintro e w11 ⟨rfl, hB⟩
  have HB12 := Hd.mk (ch4 HB10.out hB)
  have Fo_12 := Hd.mk (Fo_10.out.below hB)
  clear HB10 Fo_10
  clear hB
  generalize horV p = P at *
  generalize horV q = Q at *
  obtain ⟨H, hH⟩ : ∃ H, min P Q = H := ⟨_, rfl⟩
  obtain ⟨G, hG⟩ : ∃ G, max P Q = G := ⟨_, rfl⟩
  have hHG : H ≤ G := by omega
  have hH0 : 0 ≤ H := by omega
  have hG1 : G ≤ 281474976710657 := by omega
  have HHR := Hd.mk (hor_iff.2 (And.intro hH0 (by omega : H ≤ 281474976710657)))
  have HGR := Hd.mk (hor_iff.2 (And.intro (by omega : 0 ≤ G) hG1))
  have HW1 : Hd (wrE T A H = 0) := ⟨by rw [wrE, if_neg (by have := HL50.out; omega), if_pos]; rw [HAR.out, HHR.out, List.all_eq_true.2 HTR.out]; rfl⟩
  have HW2 : Hd (wrE T A G = 0) := ⟨by rw [wrE, if_neg (by have := HL50.out; omega), if_pos]; rw [HAR.out, HGR.out, List.all_eq_true.2 HTR.out]; rfl⟩
  have HW3 : Hd (wrE (fromF H T) A G = 0) := ⟨by rw [wrE, if_neg (by have := HL50.out; have := fromF_len H T; omega), if_pos]; rw [HAR.out, HGR.out, List.all_eq_true.2 (fun t ht => HTR.out t (fromF_mem.1 ht).1)]; rfl⟩
  have HWL := Hd.mk (WL.of hA0 HTR.out hH0 hHG)
  have HX1 := Hd.mk (WX.of hA0 HTR.out (H := H))
  have HX2 := Hd.mk (WX.of hA0 HTR.out (H := G))
  obtain ⟨X, hX⟩ : ∃ X, winsV A H T = X := ⟨_, rfl⟩
  obtain ⟨Y, hY⟩ : ∃ X, winsV A G T = X := ⟨_, rfl⟩
  obtain ⟨Z, hZ⟩ : ∃ X, winsV A G (fromF H T) = X := ⟨_, rfl⟩
  rw [hX] at HWL HX1
  rw [hY] at HWL HX2
  rw [hZ] at HWL
  have HXX := Hd.mk hX
  have HYY := Hd.mk hY
  have HZZ := Hd.mk hZ
  have hXl : X.length ≤ 50 := Nat.le_trans HX1.out.len HL50.out
  have hYl : Y.length ≤ 50 := Nat.le_trans HX2.out.len HL50.out
  clear hX hY hZ
  go_wp2_with fail
  clear hH hG
  obtain ⟨A13, hW⟩ : ∃ W, (w11.alloc (.cells #[.int .i64 H] 3)) = W := ⟨_, rfl⟩
  have hX : Below w11.heap.size w11 A13 := by rw [← hW]; exact bl_alloc (Below.refl _ _)
  have hF : BoxF A13 w11.heap.size (.cells #[.int .i64 H] 3 (0, 0)) := by rw [← hW]; exact World.alloc_heap_new _ _
  have HZA13 : Hd (A13.heap.size = w11.heap.size + 1) := ⟨by rw [← hW]; simp⟩
  rw [hW]
  clear hW
  have HB14 := Hd.mk (ch4 HB12.out hX)
  have Fo_14 := Hd.mk (Fo_12.out.below hX)
  clear HB12 Fo_12
  clear hX
  have FB14 := Hd.mk hF
  clear hF
  refine (plan_at HW1.out HXX.out (OwnE.src Fo_14.out)).mono ?_
  rintro e w15 ⟨v13, rfl, hO, hB⟩
  have FNx15 := Hd.mk (hO.src)
  have HB16 := Hd.mk (ch4 HB14.out hB)
  have Fo_16 := Hd.mk (Fo_14.out.below hB)
  have Fb11_16 := Hd.mk (FB14.out.below hB)
  clear HB14 Fo_14 FB14
  clear hB hO
  go_wp2_with fail
  refine (plan_at HW2.out HYY.out (OwnE.src Fo_16.out)).mono ?_
  rintro e w17 ⟨v15, rfl, hO, hB⟩
  have FNy17 := Hd.mk (hO.src)
  have HB18 := Hd.mk (ch4 HB16.out hB)
  have Fo_18 := Hd.mk (Fo_16.out.below hB)
  have Fb11_18 := Hd.mk (Fb11_16.out.below hB)
  have Fx_18 := Hd.mk (FNx15.out.below hB)
  clear HB16 Fo_16 Fb11_16 FNx15
  clear hB hO
  obtain ⟨a2, c2, rfl⟩ := Fx_18.out.shape
  obtain ⟨a3, c3, rfl⟩ := FNy17.out.shape
  have hXY : X.length ≤ Y.length := HWL.out.len
  have hdx : decide ((Y.length : Int) < (X.length : Int)) = false := decide_eq_false (by omega)
  have hdx2 : decide (Y.length < X.length) = false := decide_eq_false (by omega)
  go_wp2_with fail
  clear hdx hdx2
  go_loopw [62] (fun i W => ∃ k : Nat, k ≤ X.length ∧ i = .int .i64 k ∧ Below w17.heap.size w17 W) (fun i _ => X.length - (intOf i).toNat)
  case atStart => exact ⟨0, by omega, rfl, Below.refl _ _⟩
  case round =>
    obtain ⟨k, hk, rfl, hB⟩ := hrel
    by_cases hlt : k < X.length
    · have hltY : k < Y.length := by omega
      obtain ⟨bx, ox, rfl, hbx, e0, e1⟩ := SrcC.at (Fx_18.out.below hB) k hlt
      obtain ⟨by_, oy, rfl, hby, f0, f1⟩ := SrcC.at (FNy17.out.below hB) k hltY
      obtain ⟨q1, q2, q3⟩ := HWL.out.eq k hlt hltY
      obtain ⟨x, hx⟩ : ∃ x, X[k].1 = x := ⟨_, rfl⟩
      obtain ⟨m, hm⟩ : ∃ x, X[k].2 = x := ⟨_, rfl⟩
      obtain ⟨n, hn⟩ : ∃ x, Y[k].2 = x := ⟨_, rfl⟩
      have HQ3 : Hd (k + 1 < X.length → m = n) := ⟨fun h => by rw [← hm, ← hn, q3 h]⟩
      rw [← q1, hx] at f0
      rw [hn] at f1
      rw [hx] at e0
      rw [hm] at e1
      have hmn : m ≤ n := by omega
      have hdn : decide (n < m) = false := decide_eq_false (by omega)
      have k0 : (0 : Int) ≤ (k : Int) := by omega
      have k1 : (k : Int) < (X.length : Int) := by omega
      have k2 : (k : Int) < (Y.length : Int) := by omega
      have wxl : IntKind.i64.wrap ((X.length : Int) - 1) = (X.length : Int) - 1 := IntWalk.i64_in _ ⟨by omega, by omega⟩
      have HLT := Hd.mk hlt
      have HBR := Hd.mk hB
      have hxx : (x != x) = false := by simp
      clear q1 q2 q3 hx hm hn
      go_upto_region 10 with fail
      obtain ⟨wb, hW⟩ : ∃ W, (wr.alloc (.cells #[.int .i64 x, .int .i64 m] 28)) = W := ⟨_, rfl⟩
      have hBb : Below wr.heap.size wr wb := by rw [← hW]; exact bl_alloc (Below.refl _ _)
      have hFb : BoxF wb wr.heap.size (.cells #[.int .i64 x, .int .i64 m] 28 (0, 0)) := by rw [← hW]; exact World.alloc_heap_new _ _
      try rw [hW]
      clear hW
      have e0' := cells_cell hFb 0
      have e1' := cells_cell hFb 1
      simp only [List.getElem?_toArray, List.getElem?_cons_zero, List.getElem?_cons_succ] at e0' e1'
      have f0' := (hBb.cell (p := ⟨by_, oy + k * 2, none⟩) hby).trans f0
      have f1' := (hBb.cell (p := ⟨by_, oy + k * 2 + 1, none⟩) hby).trans f1
      have HBWB := Hd.mk (HBR.out.trans (hBb.mono HBR.out.size))
      clear hB hbx hby hFb hBb hlt e0 e1 f0 f1
      by_cases hla : k + 1 < X.length
      · have hd1 : decide ((k : Int) < (X.length : Int) - 1) = true := decide_eq_true (by omega)
        have hd2 : decide ((k : Int) + 1 < (X.length : Int)) = true := decide_eq_true (by omega)
        obtain rfl := HQ3.out hla
        have heq : ∀ W, (binOp .neq 28 (.agg #[.int .i64 x, .int .i64 m]) (.agg #[.int .i64 x, .int .i64 m])).run Try.prog W = .ok (.bool false) W := fun W => by rw [nev_w28]; simp
        have gd := guard28
        have hS0 : wb.cell? ⟨wr.heap.size, 0, none⟩ = some (.int .i64 x) ∧ wb.cell? ⟨wr.heap.size, 1, none⟩ = some (.int .i64 m) ∧ wb.cell? ⟨by_, oy + k * 2, none⟩ = some (.int .i64 x) ∧ wb.cell? ⟨by_, oy + k * 2 + 1, none⟩ = some (.int .i64 m) ∧ Below wb.heap.size wb wb := ⟨e0', e1', f0', f1', Below.refl _ _⟩
        clear hla
        refine wp_region_held_drew (S := fun W => W.cell? ⟨wr.heap.size, 0, none⟩ = some (.int .i64 x) ∧ W.cell? ⟨wr.heap.size, 1, none⟩ = some (.int .i64 m) ∧ W.cell? ⟨by_, oy + k * 2, none⟩ = some (.int .i64 x) ∧ W.cell? ⟨by_, oy + k * 2 + 1, none⟩ = some (.int .i64 m) ∧ Below wb.heap.size wb W) (by kernel_rfl) (s5_keep hS0 (bl_drew (Below.refl _ _))) (fun hS_ => ?_)
        try dsimp only at hS_
        refine takeW 0 ?_ rfl (by kernel_rfl) (by kernel_rfl) (by kernel_rfl) (fun _ _ _ h => h) (by rfl) ?_ hS_ ?_
        rotate_left
        · intro w hSw
          try dsimp only at hSw
          go_simp
          with_reducible rfl
        try simp only [Act.put, List.setIfInBounds_toArray, List.set_cons_zero, List.set_cons_succ]
        refine takeW 1 ?_ rfl (by kernel_rfl) (by kernel_rfl) (by kernel_rfl) (fun _ _ _ h => h) (by rfl) ?_ hS_ ?_
        rotate_left
        · intro w hSw
          try dsimp only at hSw
          go_simp
          with_reducible rfl
        try simp only [Act.put, List.setIfInBounds_toArray, List.set_cons_zero, List.set_cons_succ]
        refine takeW 2 ?_ rfl (by kernel_rfl) (by kernel_rfl) (by kernel_rfl) (fun _ _ _ h => h) (by rfl) ?_ hS_ ?_
        rotate_left
        · intro w hSw
          try dsimp only at hSw
          go_simp
          with_reducible rfl
        try simp only [Act.put, List.setIfInBounds_toArray, List.set_cons_zero, List.set_cons_succ]
        refine takeW 3 ?_ rfl (by kernel_rfl) (by kernel_rfl) (by kernel_rfl) (fun _ _ _ h => h) (by rfl) ?_ hS_ ?_
        rotate_left
        · intro w hSw
          try dsimp only at hSw
          go_simp
          with_reducible rfl
        try simp only [Act.put, List.setIfInBounds_toArray, List.set_cons_zero, List.set_cons_succ]
        refine takeW 4 ?_ rfl (by kernel_rfl) (by kernel_rfl) (by kernel_rfl) (fun _ _ _ h => h) (by rfl) ?_ hS_ ?_
        rotate_left
        · intro w hSw
          try dsimp only at hSw
          go_simp
          with_reducible rfl
        try simp only [Act.put, List.setIfInBounds_toArray, List.set_cons_zero, List.set_cons_succ]
        refine takeW 5 ?_ rfl (by kernel_rfl) (by kernel_rfl) (by kernel_rfl) (fun _ _ _ h => h) (by rfl) ?_ hS_ ?_
        rotate_left
        · intro w hSw
          try dsimp only at hSw
          go_simp
          with_reducible rfl
        try simp only [Act.put, List.setIfInBounds_toArray, List.set_cons_zero, List.set_cons_succ]
        refine takeW 6 ?_ rfl (by kernel_rfl) (by kernel_rfl) (by kernel_rfl) (fun _ _ _ h => h) (by rfl) ?_ hS_ ?_
        rotate_left
        · intro w hSw
          try dsimp only at hSw
          go_simp
          with_reducible rfl
        try simp only [Act.put, List.setIfInBounds_toArray, List.set_cons_zero, List.set_cons_succ]
        refine takeW 7 ?_ rfl (by kernel_rfl) (by kernel_rfl) (by kernel_rfl) (fun _ _ _ h => h) (by rfl) ?_ hS_ ?_
        rotate_left
        · intro w hSw
          try dsimp only at hSw
          go_simp
          with_reducible rfl
        try simp only [Act.put, List.setIfInBounds_toArray, List.set_cons_zero, List.set_cons_succ]
        refine takeW 8 ?_ rfl (by kernel_rfl) (by kernel_rfl) (by kernel_rfl) (fun _ _ _ h => h) (by rfl) ?_ hS_ ?_
        rotate_left
        · intro w hSw
          try dsimp only at hSw
          go_simp
          with_reducible rfl
        try simp only [Act.put, List.setIfInBounds_toArray, List.set_cons_zero, List.set_cons_succ]
        refine takeW 9 ?_ rfl (by kernel_rfl) (by kernel_rfl) (by kernel_rfl) (fun _ _ _ h => h) (by rfl) ?_ hS_ ?_
        rotate_left
        · intro w hSw
          try dsimp only at hSw
          go_simp
          with_reducible rfl
        try simp only [Act.put, List.setIfInBounds_toArray, List.set_cons_zero, List.set_cons_succ]
        refine takeW 10 ?_ rfl (by kernel_rfl) (by kernel_rfl) (by kernel_rfl) (fun _ _ _ h => h) (by rfl) ?_ hS_ ?_
        rotate_left
        · intro w hSw
          try dsimp only at hSw
          go_simp
          with_reducible rfl
        try simp only [Act.put, List.setIfInBounds_toArray, List.set_cons_zero, List.set_cons_succ]
        refine takeW 11 ?_ rfl (by kernel_rfl) (by kernel_rfl) (by kernel_rfl) (fun _ _ _ h => h) (by rfl) ?_ hS_ ?_
        rotate_left
        · intro w hSw
          try dsimp only at hSw
          go_simp
          with_reducible rfl
        try simp only [Act.put, List.setIfInBounds_toArray, List.set_cons_zero, List.set_cons_succ]
        refine takeW 12 ?_ rfl (by kernel_rfl) (by kernel_rfl) (by kernel_rfl) (fun _ _ _ h => h) (by rfl) ?_ hS_ ?_
        rotate_left
        · intro w hSw
          try dsimp only at hSw
          go_simp
          with_reducible rfl
        try simp only [Act.put, List.setIfInBounds_toArray, List.set_cons_zero, List.set_cons_succ]
        refine takeW 13 ?_ rfl (by kernel_rfl) (by kernel_rfl) (by kernel_rfl) (fun _ _ _ h => h) (by rfl) ?_ hS_ ?_
        rotate_left
        · intro w hSw
          try dsimp only at hSw
          go_simp
          with_reducible rfl
        try simp only [Act.put, List.setIfInBounds_toArray, List.set_cons_zero, List.set_cons_succ]
        refine takeW 14 ?_ rfl (by kernel_rfl) (by kernel_rfl) (by kernel_rfl) (fun _ _ _ h => h) (by rfl) ?_ hS_ ?_
        rotate_left
        · intro w hSw
          try dsimp only at hSw
          go_simp
          with_reducible rfl
        try simp only [Act.put, List.setIfInBounds_toArray, List.set_cons_zero, List.set_cons_succ]
        refine takeW 15 ?_ rfl (by kernel_rfl) (by kernel_rfl) (by kernel_rfl) (fun _ _ _ h => h) (by rfl) ?_ hS_ ?_
        rotate_left
        · intro w hSw
          try dsimp only at hSw
          go_simp
          with_reducible rfl
        try simp only [Act.put, List.setIfInBounds_toArray, List.set_cons_zero, List.set_cons_succ]
        refine takeW 16 ?_ rfl (by kernel_rfl) (by kernel_rfl) (by kernel_rfl) (fun _ _ _ h => h) (by rfl) ?_ hS_ ?_
        rotate_left
        · intro w hSw
          try dsimp only at hSw
          go_simp
          with_reducible rfl
        try simp only [Act.put, List.setIfInBounds_toArray, List.set_cons_zero, List.set_cons_succ]
        refine takeW 17 ?_ rfl (by kernel_rfl) (by kernel_rfl) (by kernel_rfl) (fun _ _ _ h => h) (by rfl) ?_ hS_ ?_
        rotate_left
        · intro w hSw
          try dsimp only at hSw
          go_simp
          with_reducible rfl
        try simp only [Act.put, List.setIfInBounds_toArray, List.set_cons_zero, List.set_cons_succ]
        refine takeW 18 ?_ rfl (by kernel_rfl) (by kernel_rfl) (by kernel_rfl) (fun _ _ _ h => h) (by rfl) ?_ hS_ ?_
        rotate_left
        · intro w hSw
          try dsimp only at hSw
          go_simp
          with_reducible rfl
        try simp only [Act.put, List.setIfInBounds_toArray, List.set_cons_zero, List.set_cons_succ]
        refine takeW 19 ?_ rfl (by kernel_rfl) (by kernel_rfl) (by kernel_rfl) (fun _ _ _ h => h) (by rfl) ?_ hS_ ?_
        rotate_left
        · intro w hSw
          try dsimp only at hSw
          go_simp
          with_reducible rfl
        try simp only [Act.put, List.setIfInBounds_toArray, List.set_cons_zero, List.set_cons_succ]
        refine takeW 20 ?_ rfl (by kernel_rfl) (by kernel_rfl) (by kernel_rfl) (fun _ _ _ h => h) (by rfl) ?_ hS_ ?_
        rotate_left
        · intro w hSw
          try dsimp only at hSw
          go_simp
          with_reducible rfl
        try simp only [Act.put, List.setIfInBounds_toArray, List.set_cons_zero, List.set_cons_succ]
        refine takeW 21 ?_ rfl (by kernel_rfl) (by kernel_rfl) (by kernel_rfl) (fun _ _ _ h => h) (by rfl) ?_ hS_ ?_
        rotate_left
        · intro w hSw
          try dsimp only at hSw
          go_simp
          with_reducible rfl
        try simp only [Act.put, List.setIfInBounds_toArray, List.set_cons_zero, List.set_cons_succ]
        refine takeW 22 ?_ rfl (by kernel_rfl) (by kernel_rfl) (by kernel_rfl) (fun _ _ _ h => h) (by rfl) ?_ hS_ ?_
        rotate_left
        · intro w hSw
          try dsimp only at hSw
          go_simp
          with_reducible rfl
        try simp only [Act.put, List.setIfInBounds_toArray, List.set_cons_zero, List.set_cons_succ]
        refine takeW 23 ?_ rfl (by kernel_rfl) (by kernel_rfl) (by kernel_rfl) (fun _ _ _ h => h) (by rfl) ?_ hS_ ?_
        rotate_left
        · intro w hSw
          try dsimp only at hSw
          go_simp
          with_reducible rfl
        try simp only [Act.put, List.setIfInBounds_toArray, List.set_cons_zero, List.set_cons_succ]
        refine takeW 24 ?_ rfl (by kernel_rfl) (by kernel_rfl) (by kernel_rfl) (fun _ _ _ h => h) (by rfl) ?_ hS_ ?_
        rotate_left
        · intro w hSw
          try dsimp only at hSw
          go_simp
          with_reducible rfl
        try simp only [Act.put, List.setIfInBounds_toArray, List.set_cons_zero, List.set_cons_succ]
        refine takeW 25 ?_ rfl (by kernel_rfl) (by kernel_rfl) (by kernel_rfl) (fun _ _ _ h => h) (by rfl) ?_ hS_ ?_
        rotate_left
        · intro w hSw
          try dsimp only at hSw
          go_simp
          with_reducible rfl
        try simp only [Act.put, List.setIfInBounds_toArray, List.set_cons_zero, List.set_cons_succ]
        refine takeW 26 ?_ rfl (by kernel_rfl) (by kernel_rfl) (by kernel_rfl) (fun _ _ _ h => h) (by rfl) ?_ hS_ ?_
        rotate_left
        · intro w hSw
          try dsimp only at hSw
          go_simp
          with_reducible rfl
        try simp only [Act.put, List.setIfInBounds_toArray, List.set_cons_zero, List.set_cons_succ]
        refine takeW 27 ?_ rfl (by kernel_rfl) (by kernel_rfl) (by kernel_rfl) (fun _ _ _ h => h) (by rfl) ?_ hS_ ?_
        rotate_left
        · intro w hSw
          try dsimp only at hSw
          go_simp
          with_reducible rfl
        try simp only [Act.put, List.setIfInBounds_toArray, List.set_cons_zero, List.set_cons_succ]
        refine takeW 28 ?_ rfl (by kernel_rfl) (by kernel_rfl) (by kernel_rfl) (fun _ _ _ h => h) (by rfl) ?_ hS_ ?_
        rotate_left
        · intro w hSw
          try dsimp only at hSw
          go_simp
          with_reducible rfl
        try simp only [Act.put, List.setIfInBounds_toArray, List.set_cons_zero, List.set_cons_succ]
        refine takeW 29 ?_ rfl (by kernel_rfl) (by kernel_rfl) (by kernel_rfl) (fun _ _ _ h => h) (by rfl) ?_ hS_ ?_
        rotate_left
        · intro w hSw
          try dsimp only at hSw
          go_simp
          with_reducible rfl
        try simp only [Act.put, List.setIfInBounds_toArray, List.set_cons_zero, List.set_cons_succ]
        refine takeW 30 ?_ rfl (by kernel_rfl) (by kernel_rfl) (by kernel_rfl) (fun _ _ _ h => h) (by rfl) ?_ hS_ ?_
        rotate_left
        · intro w hSw
          try dsimp only at hSw
          go_simp
          with_reducible rfl
        try simp only [Act.put, List.setIfInBounds_toArray, List.set_cons_zero, List.set_cons_succ]
        refine takeW 31 ?_ rfl (by kernel_rfl) (by kernel_rfl) (by kernel_rfl) (fun _ _ _ h => h) (by rfl) ?_ hS_ ?_
        rotate_left
        · intro w hSw
          try dsimp only at hSw
          go_simp
          with_reducible rfl
        try simp only [Act.put, List.setIfInBounds_toArray, List.set_cons_zero, List.set_cons_succ]
        refine takeW 32 ?_ rfl (by kernel_rfl) (by kernel_rfl) (by kernel_rfl) (fun _ _ _ h => h) (by rfl) ?_ hS_ ?_
        rotate_left
        · intro w hSw
          try dsimp only at hSw
          go_simp
          with_reducible rfl
        try simp only [Act.put, List.setIfInBounds_toArray, List.set_cons_zero, List.set_cons_succ]
        refine wpAnyH_done (by kernel_rfl) ?_ _
        clear hS_ hS0
        go_wp2_with fail
        go_roundw
        case rel => exact ⟨k + 1, HLT.out, by go_num, HBWB.out.drew⟩
        case measure => have := HLT.out; simp [intOf] <;> omega
      · have hd1 : decide ((k : Int) < (X.length : Int) - 1) = false := decide_eq_false (by omega)
        have hd2 : decide ((k : Int) + 1 < (X.length : Int)) = false := decide_eq_false (by omega)
        have hS0 : wb.cell? ⟨wr.heap.size, 0, none⟩ = some (.int .i64 x) ∧ wb.cell? ⟨wr.heap.size, 1, none⟩ = some (.int .i64 m) ∧ wb.cell? ⟨by_, oy + k * 2, none⟩ = some (.int .i64 x) ∧ wb.cell? ⟨by_, oy + k * 2 + 1, none⟩ = some (.int .i64 n) ∧ Below wb.heap.size wb wb := ⟨e0', e1', f0', f1', Below.refl _ _⟩
        clear hla
        refine wp_region_held_drew (S := fun W => W.cell? ⟨wr.heap.size, 0, none⟩ = some (.int .i64 x) ∧ W.cell? ⟨wr.heap.size, 1, none⟩ = some (.int .i64 m) ∧ W.cell? ⟨by_, oy + k * 2, none⟩ = some (.int .i64 x) ∧ W.cell? ⟨by_, oy + k * 2 + 1, none⟩ = some (.int .i64 n) ∧ Below wb.heap.size wb W) (by kernel_rfl) (s5_keep hS0 (bl_drew (Below.refl _ _))) (fun hS_ => ?_)
        try dsimp only at hS_
        refine takeW 0 ?_ rfl (by kernel_rfl) (by kernel_rfl) (by kernel_rfl) (fun _ _ _ h => h) (by rfl) ?_ hS_ ?_
        rotate_left
        · intro w hSw
          try dsimp only at hSw
          go_simp
          with_reducible rfl
        try simp only [Act.put, List.setIfInBounds_toArray, List.set_cons_zero, List.set_cons_succ]
        refine takeW 1 ?_ rfl (by kernel_rfl) (by kernel_rfl) (by kernel_rfl) (fun _ _ _ h => h) (by rfl) ?_ hS_ ?_
        rotate_left
        · intro w hSw
          try dsimp only at hSw
          go_simp
          with_reducible rfl
        try simp only [Act.put, List.setIfInBounds_toArray, List.set_cons_zero, List.set_cons_succ]
        refine takeW 2 ?_ rfl (by kernel_rfl) (by kernel_rfl) (by kernel_rfl) (fun _ _ _ h => h) (by rfl) ?_ hS_ ?_
        rotate_left
        · intro w hSw
          try dsimp only at hSw
          go_simp
          with_reducible rfl
        try simp only [Act.put, List.setIfInBounds_toArray, List.set_cons_zero, List.set_cons_succ]
        refine takeW 3 ?_ rfl (by kernel_rfl) (by kernel_rfl) (by kernel_rfl) (fun _ _ _ h => h) (by rfl) ?_ hS_ ?_
        rotate_left
        · intro w hSw
          try dsimp only at hSw
          go_simp
          with_reducible rfl
        try simp only [Act.put, List.setIfInBounds_toArray, List.set_cons_zero, List.set_cons_succ]
        refine takeW 4 ?_ rfl (by kernel_rfl) (by kernel_rfl) (by kernel_rfl) (fun _ _ _ h => h) (by rfl) ?_ hS_ ?_
        rotate_left
        · intro w hSw
          try dsimp only at hSw
          go_simp
          with_reducible rfl
        try simp only [Act.put, List.setIfInBounds_toArray, List.set_cons_zero, List.set_cons_succ]
        refine takeW 5 ?_ rfl (by kernel_rfl) (by kernel_rfl) (by kernel_rfl) (fun _ _ _ h => h) (by rfl) ?_ hS_ ?_
        rotate_left
        · intro w hSw
          try dsimp only at hSw
          go_simp
          with_reducible rfl
        try simp only [Act.put, List.setIfInBounds_toArray, List.set_cons_zero, List.set_cons_succ]
        refine takeW 6 ?_ rfl (by kernel_rfl) (by kernel_rfl) (by kernel_rfl) (fun _ _ _ h => h) (by rfl) ?_ hS_ ?_
        rotate_left
        · intro w hSw
          try dsimp only at hSw
          go_simp
          with_reducible rfl
        try simp only [Act.put, List.setIfInBounds_toArray, List.set_cons_zero, List.set_cons_succ]
        refine takeW 7 ?_ rfl (by kernel_rfl) (by kernel_rfl) (by kernel_rfl) (fun _ _ _ h => h) (by rfl) ?_ hS_ ?_
        rotate_left
        · intro w hSw
          try dsimp only at hSw
          go_simp
          with_reducible rfl
        try simp only [Act.put, List.setIfInBounds_toArray, List.set_cons_zero, List.set_cons_succ]
        refine takeW 8 ?_ rfl (by kernel_rfl) (by kernel_rfl) (by kernel_rfl) (fun _ _ _ h => h) (by rfl) ?_ hS_ ?_
        rotate_left
        · intro w hSw
          try dsimp only at hSw
          go_simp
          with_reducible rfl
        try simp only [Act.put, List.setIfInBounds_toArray, List.set_cons_zero, List.set_cons_succ]
        refine takeW 9 ?_ rfl (by kernel_rfl) (by kernel_rfl) (by kernel_rfl) (fun _ _ _ h => h) (by rfl) ?_ hS_ ?_
        rotate_left
        · intro w hSw
          try dsimp only at hSw
          go_simp
          with_reducible rfl
        try simp only [Act.put, List.setIfInBounds_toArray, List.set_cons_zero, List.set_cons_succ]
        refine takeW 10 ?_ rfl (by kernel_rfl) (by kernel_rfl) (by kernel_rfl) (fun _ _ _ h => h) (by rfl) ?_ hS_ ?_
        rotate_left
        · intro w hSw
          try dsimp only at hSw
          go_simp
          with_reducible rfl
        try simp only [Act.put, List.setIfInBounds_toArray, List.set_cons_zero, List.set_cons_succ]
        refine takeW 11 ?_ rfl (by kernel_rfl) (by kernel_rfl) (by kernel_rfl) (fun _ _ _ h => h) (by rfl) ?_ hS_ ?_
        rotate_left
        · intro w hSw
          try dsimp only at hSw
          go_simp
          with_reducible rfl
        try simp only [Act.put, List.setIfInBounds_toArray, List.set_cons_zero, List.set_cons_succ]
        refine takeW 12 ?_ rfl (by kernel_rfl) (by kernel_rfl) (by kernel_rfl) (fun _ _ _ h => h) (by rfl) ?_ hS_ ?_
        rotate_left
        · intro w hSw
          try dsimp only at hSw
          go_simp
          with_reducible rfl
        try simp only [Act.put, List.setIfInBounds_toArray, List.set_cons_zero, List.set_cons_succ]
        refine takeW 13 ?_ rfl (by kernel_rfl) (by kernel_rfl) (by kernel_rfl) (fun _ _ _ h => h) (by rfl) ?_ hS_ ?_
        rotate_left
        · intro w hSw
          try dsimp only at hSw
          go_simp
          with_reducible rfl
        try simp only [Act.put, List.setIfInBounds_toArray, List.set_cons_zero, List.set_cons_succ]
        refine takeW 14 ?_ rfl (by kernel_rfl) (by kernel_rfl) (by kernel_rfl) (fun _ _ _ h => h) (by rfl) ?_ hS_ ?_
        rotate_left
        · intro w hSw
          try dsimp only at hSw
          go_simp
          with_reducible rfl
        try simp only [Act.put, List.setIfInBounds_toArray, List.set_cons_zero, List.set_cons_succ]
        refine takeW 15 ?_ rfl (by kernel_rfl) (by kernel_rfl) (by kernel_rfl) (fun _ _ _ h => h) (by rfl) ?_ hS_ ?_
        rotate_left
        · intro w hSw
          try dsimp only at hSw
          go_simp
          with_reducible rfl
        try simp only [Act.put, List.setIfInBounds_toArray, List.set_cons_zero, List.set_cons_succ]
        refine takeW 16 ?_ rfl (by kernel_rfl) (by kernel_rfl) (by kernel_rfl) (fun _ _ _ h => h) (by rfl) ?_ hS_ ?_
        rotate_left
        · intro w hSw
          try dsimp only at hSw
          go_simp
          with_reducible rfl
        try simp only [Act.put, List.setIfInBounds_toArray, List.set_cons_zero, List.set_cons_succ]
        refine takeW 17 ?_ rfl (by kernel_rfl) (by kernel_rfl) (by kernel_rfl) (fun _ _ _ h => h) (by rfl) ?_ hS_ ?_
        rotate_left
        · intro w hSw
          try dsimp only at hSw
          go_simp
          with_reducible rfl
        try simp only [Act.put, List.setIfInBounds_toArray, List.set_cons_zero, List.set_cons_succ]
        refine takeW 18 ?_ rfl (by kernel_rfl) (by kernel_rfl) (by kernel_rfl) (fun _ _ _ h => h) (by rfl) ?_ hS_ ?_
        rotate_left
        · intro w hSw
          try dsimp only at hSw
          go_simp
          with_reducible rfl
        try simp only [Act.put, List.setIfInBounds_toArray, List.set_cons_zero, List.set_cons_succ]
        refine takeW 19 ?_ rfl (by kernel_rfl) (by kernel_rfl) (by kernel_rfl) (fun _ _ _ h => h) (by rfl) ?_ hS_ ?_
        rotate_left
        · intro w hSw
          try dsimp only at hSw
          go_simp
          with_reducible rfl
        try simp only [Act.put, List.setIfInBounds_toArray, List.set_cons_zero, List.set_cons_succ]
        refine takeW 20 ?_ rfl (by kernel_rfl) (by kernel_rfl) (by kernel_rfl) (fun _ _ _ h => h) (by rfl) ?_ hS_ ?_
        rotate_left
        · intro w hSw
          try dsimp only at hSw
          go_simp
          with_reducible rfl
        try simp only [Act.put, List.setIfInBounds_toArray, List.set_cons_zero, List.set_cons_succ]
        refine takeW 21 ?_ rfl (by kernel_rfl) (by kernel_rfl) (by kernel_rfl) (fun _ _ _ h => h) (by rfl) ?_ hS_ ?_
        rotate_left
        · intro w hSw
          try dsimp only at hSw
          go_simp
          with_reducible rfl
        try simp only [Act.put, List.setIfInBounds_toArray, List.set_cons_zero, List.set_cons_succ]
        refine takeW 22 ?_ rfl (by kernel_rfl) (by kernel_rfl) (by kernel_rfl) (fun _ _ _ h => h) (by rfl) ?_ hS_ ?_
        rotate_left
        · intro w hSw
          try dsimp only at hSw
          go_simp
          with_reducible rfl
        try simp only [Act.put, List.setIfInBounds_toArray, List.set_cons_zero, List.set_cons_succ]
        refine takeW 23 ?_ rfl (by kernel_rfl) (by kernel_rfl) (by kernel_rfl) (fun _ _ _ h => h) (by rfl) ?_ hS_ ?_
        rotate_left
        · intro w hSw
          try dsimp only at hSw
          go_simp
          with_reducible rfl
        try simp only [Act.put, List.setIfInBounds_toArray, List.set_cons_zero, List.set_cons_succ]
        refine takeW 24 ?_ rfl (by kernel_rfl) (by kernel_rfl) (by kernel_rfl) (fun _ _ _ h => h) (by rfl) ?_ hS_ ?_
        rotate_left
        · intro w hSw
          try dsimp only at hSw
          go_simp
          with_reducible rfl
        try simp only [Act.put, List.setIfInBounds_toArray, List.set_cons_zero, List.set_cons_succ]
        refine takeN 25 rfl (by kernel_rfl) (by kernel_rfl) (by kernel_rfl) (fun _ _ _ h => h) (by rfl) hS_ ?_
        try simp only [Act.put, List.setIfInBounds_toArray, List.set_cons_zero, List.set_cons_succ]
        refine takeN 26 rfl (by kernel_rfl) (by kernel_rfl) (by kernel_rfl) (fun _ _ _ h => h) (by rfl) hS_ ?_
        try simp only [Act.put, List.setIfInBounds_toArray, List.set_cons_zero, List.set_cons_succ]
        refine takeN 27 rfl (by kernel_rfl) (by kernel_rfl) (by kernel_rfl) (fun _ _ _ h => h) (by rfl) hS_ ?_
        try simp only [Act.put, List.setIfInBounds_toArray, List.set_cons_zero, List.set_cons_succ]
        refine takeN 28 rfl (by kernel_rfl) (by kernel_rfl) (by kernel_rfl) (fun _ _ _ h => h) (by rfl) hS_ ?_
        try simp only [Act.put, List.setIfInBounds_toArray, List.set_cons_zero, List.set_cons_succ]
        refine takeN 29 rfl (by kernel_rfl) (by kernel_rfl) (by kernel_rfl) (fun _ _ _ h => h) (by rfl) hS_ ?_
        try simp only [Act.put, List.setIfInBounds_toArray, List.set_cons_zero, List.set_cons_succ]
        refine takeN 30 rfl (by kernel_rfl) (by kernel_rfl) (by kernel_rfl) (fun _ _ _ h => h) (by rfl) hS_ ?_
        try simp only [Act.put, List.setIfInBounds_toArray, List.set_cons_zero, List.set_cons_succ]
        refine takeW 31 ?_ rfl (by kernel_rfl) (by kernel_rfl) (by kernel_rfl) (fun _ _ _ h => h) (by rfl) ?_ hS_ ?_
        rotate_left
        · intro w hSw
          try dsimp only at hSw
          go_simp
          with_reducible rfl
        try simp only [Act.put, List.setIfInBounds_toArray, List.set_cons_zero, List.set_cons_succ]
        refine takeW 32 ?_ rfl (by kernel_rfl) (by kernel_rfl) (by kernel_rfl) (fun _ _ _ h => h) (by rfl) ?_ hS_ ?_
        rotate_left
        · intro w hSw
          try dsimp only at hSw
          go_simp
          with_reducible rfl
        try simp only [Act.put, List.setIfInBounds_toArray, List.set_cons_zero, List.set_cons_succ]
        refine wpAnyH_done (by kernel_rfl) ?_ _
        clear hS_ hS0
        go_wp2_with fail
        go_roundw
        case rel => exact ⟨k + 1, HLT.out, by go_num, HBWB.out.drew⟩
        case measure => have := HLT.out; simp [intOf] <;> omega
    · obtain rfl : k = X.length := by omega
      have HBR := Hd.mk hB
      clear hB hlt hk
      go_wp2_with fail
      have HB19 := Hd.mk (ch4 HB18.out HBR.out)
      have Fo_19 := Hd.mk (Fo_18.out.below HBR.out)
      have Fb11_19 := Hd.mk (Fb11_18.out.below HBR.out)
      have Fx_19 := Hd.mk (Fx_18.out.below HBR.out)
      have Fy_19 := Hd.mk (FNy17.out.below HBR.out)
      clear HB18 Fo_18 Fb11_18 Fx_18 FNy17
      refine (clone_app _ T _ (OwnE.src Fo_19.out) (by have := HL50.out; omega)).mono ?_
      rintro e wc ⟨v29, rfl, hO, hBc⟩
      have HO := Hd.mk (OwnI.of hO)
      have HBc := Hd.mk hBc
      have HBX := Hd.mk (Fb11_19.out.below hBc)
      have HBL := Hd.mk (lt_of_heap Fb11_19.out)
      clear hO hBc
      go_wp2_with fail
      refine (delete_func (base := wr.heap.size) _ T H wr wc HO.out HBX.out HBL.out HBc.out (by have := HL50.out; omega)).mono ?_
      rintro e wd ⟨v30, rfl, hS, hBd⟩
      have FD := Hd.mk hS
      have HBd := Hd.mk hBd
      clear hS hBd HBX HBL HO HBc
      have HB20 := Hd.mk (ch4 HB19.out HBd.out)
      have Fo_20 := Hd.mk (Fo_19.out.below HBd.out)
      have Fb11_20 := Hd.mk (Fb11_19.out.below HBd.out)
      have Fx_20 := Hd.mk (Fx_19.out.below HBd.out)
      have Fy_20 := Hd.mk (Fy_19.out.below HBd.out)
      clear HB19 Fo_19 Fb11_19 Fx_19 Fy_19
      go_wp2_with fail
      refine (count_at (n := Z.length) HW3.out HZZ.out rfl FD.out).mono ?_
      rintro e w21 ⟨rfl, hB⟩
      have HB22 := Hd.mk (ch4 HB20.out hB)
      have Fo_22 := Hd.mk (Fo_20.out.below hB)
      have Fb11_22 := Hd.mk (Fb11_20.out.below hB)
      have Fx_22 := Hd.mk (Fx_20.out.below hB)
      have Fy_22 := Hd.mk (Fy_20.out.below hB)
      have Fd_22 := Hd.mk (FD.out.below hB)
      clear HB20 Fo_20 Fb11_20 Fx_20 Fy_20 FD
      clear hB
      have hlo := HWL.out.lo
      have hhi := HWL.out.hi
      have hd1 : decide ((Y.length : Int) ≤ (X.length : Int) + (Z.length : Int)) = true := decide_eq_true (by omega)
      have hd2 : decide ((X.length : Int) + (Z.length : Int) ≤ (Y.length : Int) + 1) = true := decide_eq_true (by omega)
      go_wp2_with fail
      refine (awake_any _).mono ?_
      rintro e w23 ⟨rfl, hB⟩
      have HB24 := Hd.mk (ch4 HB22.out hB)
      have Fo_24 := Hd.mk (Fo_22.out.below hB)
      have Fb11_24 := Hd.mk (Fb11_22.out.below hB)
      have Fx_24 := Hd.mk (Fx_22.out.below hB)
      have Fy_24 := Hd.mk (Fy_22.out.below hB)
      have Fd_24 := Hd.mk (Fd_22.out.below hB)
      clear HB22 Fo_22 Fb11_22 Fx_22 Fy_22 Fd_22
      clear hB
      go_wp2_with fail
      go_ret
      exact ⟨rfl, HB24.out⟩
end Go.Proofs.Ytlblpmadehikgaa
