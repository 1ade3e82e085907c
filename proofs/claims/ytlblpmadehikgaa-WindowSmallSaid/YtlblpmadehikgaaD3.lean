/- The law WindowSafe: its walk. -/
import Derived.Test.YtlblpmadehikgaaD2
import Derived.Deep.DeepCutAuto
import Derived.Deep.RegionHeld3
namespace Go.Proofs.Ytlblpmadehikgaa
open Go.RowKit Go.Shelf
set_option linter.unusedVariables false

theorem inL_get {l : List Int} {e : Int} {k p : Nat} (hp : p < (inL l e k).length) : ∃ j : Nat, (inL l e k)[p] = (j : Int) ∧ j < k ∧ l.getD j 0 < e := by
  have h : (inL l e k)[p] ∈ ((List.range k).filter (fun i => decide (l.getD i 0 < e))).map (fun i : Nat => (i : Int)) := List.getElem_mem hp
  rw [List.mem_map] at h
  obtain ⟨j, h1, h2⟩ := h
  obtain ⟨h3, h4⟩ := List.mem_filter.1 h1
  exact ⟨j, h2.symm, List.mem_range.1 h3, by simpa using h4⟩
theorem winsV_least {ah h : Int} {l : List Int} {p : Int × Int} {X : List (Int × Int)} (hx : winsV ah h l = p :: X) : ∀ t ∈ l, p.1 ≤ t := by
  intro t ht
  have ht' := (sort_perm l).mem_iff.1 ht
  have hp := sort_pw l
  rw [winsV] at hx
  generalize sortV l = S at *
  cases S with
  | nil => simp at ht'
  | cons s S =>
    rw [winsL] at hx
    split at hx
    · cases hx
    · rw [if_neg (by simp [stillIn])] at hx
      obtain rfl : (s, min (s + ah) h) = p := by simp only [List.cons.injEq] at hx; exact hx.1
      rcases List.mem_cons.1 ht' with rfl | h1
      · exact Int.le_refl _
      · exact (List.pairwise_cons.1 hp).1 t h1
theorem winsV_none {ah h : Int} {l : List Int} (hx : winsV ah h l = []) : ∀ t ∈ l, h ≤ t := by
  intro t ht
  have ht' := (sort_perm l).mem_iff.1 ht
  have hp := sort_pw l
  rw [winsV] at hx
  generalize sortV l = S at *
  cases S with
  | nil => simp at ht'
  | cons s S =>
    rw [winsL] at hx
    split at hx
    · rename_i h1
      rcases List.mem_cons.1 ht' with rfl | h2
      · exact h1
      · have := (List.pairwise_cons.1 hp).1 t h2; omega
    · rw [if_neg (by simp [stillIn])] at hx; cases hx
/-- What Next returns, of what is right. -/
theorem nx_all {T : List Int} {A H : Int} (hz : wrE T A H = 0) : (nxE A H T = 6 ∧ nxI A H T = [] ∧ ∀ t ∈ T, H ≤ t) ∨ (nxE A H T = 0 ∧ (nxW A H T).1 ∈ T ∧ (nxW A H T).1 < H ∧ (nxW A H T).2 = min ((nxW A H T).1 + A) H ∧ (nxW A H T).1 < (nxW A H T).2 ∧ 0 < (nxI A H T).length ∧ (∀ t ∈ T, (nxW A H T).1 ≤ t) ∧ nxI A H T = inL T (nxW A H T).2 T.length) := by
  obtain ⟨a, ha⟩ : ∃ a, winsV A H T = a := ⟨_, rfl⟩
  have h0 := wr_zero hz
  have hA := (ahead_le h0.2.1).1
  cases a with
  | nil =>
    left
    have h1 : nxE A H T = 6 := by rw [nxE, if_pos hz, if_pos ha]
    exact ⟨h1, by rw [nxI, h1, if_neg (by decide)], winsV_none ha⟩
  | cons p X =>
    right
    have h1 : nxE A H T = 0 := by rw [nxE, if_pos hz, ha, if_neg (by simp)]
    have h2 : nxW A H T = p := by rw [nxW, if_pos hz, ha]; rfl
    have h3 : nxI A H T = inL T p.2 T.length := by rw [nxI, if_pos h1, h2]
    obtain ⟨m1, m2, m3, m4⟩ := winsV_mem hA (w := p) (l := T) (by rw [ha]; exact List.mem_cons_self)
    rw [h2, h3]
    exact ⟨h1, m1, m2, m3, m4, inL_pos m1 m4, winsV_least ha, rfl⟩
theorem min_mem : ∀ (l : List Int) (a : Int), l.foldl min a = a ∨ l.foldl min a ∈ l
  | [], a => .inl rfl
  | x :: l, a => by
    rw [List.foldl_cons]
    rcases min_mem l (min a x) with h | h
    · rw [h]
      rcases Int.le_total a x with h1 | h1
      · left; exact Int.min_eq_left h1
      · right; rw [Int.min_eq_right h1]; exact List.mem_cons_self
    · right; exact List.mem_cons_of_mem _ h
theorem minOf_mem {l : List Int} (hl : 0 < l.length) : Lib.minOf l ∈ l := by
  cases l with
  | nil => simp at hl
  | cons x l =>
    rw [Lib.minOf]
    rcases min_mem (x :: l) x with h | h
    · rw [show (x :: l).headD 0 = x from rfl, h]; exact List.mem_cons_self
    · exact h
theorem min_any {v : Value} {l : List Int} {w : World} (hs : SrcI w v l) (hl : 0 < l.length) : Calls Try.prog 24 #[v] w fun e w' => e = .returned (.int .i64 (Lib.minOf l)) ∧ w' = w := by
  obtain ⟨a, c, rfl⟩ := hs.shape
  obtain ⟨b, off, rfl, _, _⟩ := hs.at 0 hl
  have := Try.slices_Min_int b off l.length c l w hl (Nat.le_refl _) hs.small (fun j hj => by
    obtain ⟨b', off', hb, _, hx⟩ := hs.at j hj
    obtain ⟨rfl, rfl⟩ : b = b' ∧ off = off' := by simpa using hb
    rw [hx, List.getD_eq_getElem?_getD, List.getElem?_eq_getElem hj, Option.getD_some])
  rwa [List.take_length] at this
theorem right_at {a b : Int} {r : Bool} (h : rightW a b = r) (w : World) : Calls Try.prog 25 #[.agg #[.int .i64 a, .int .i64 b]] w fun e w' => e = .returned (.bool r) ∧ Below w.heap.size w w' := by
  have := right_any a b w
  rw [h] at this; exact this
theorem after_at {a b t : Int} {r : Bool} (h : afterW a b t = r) (w : World) : Calls Try.prog 26 #[.agg #[.int .i64 a, .int .i64 b], .int .i64 t] w fun e w' => e = .returned (.bool r) ∧ Below w.heap.size w w' := by
  have := after_any a b t w
  rw [h] at this; exact this
theorem right_mk {a b : Int} (h0 : 0 ≤ a) (h1 : a ≤ 281474976710656) (h2 : a < b) (h3 : b ≤ 281474976710657) : rightW a b = true := by
  rw [rightW, timeB, decide_eq_true h0, decide_eq_true h1, decide_eq_true h2, decide_eq_true h3]; rfl
theorem in_mk {a b t : Int} (h0 : 0 ≤ a) (h2 : a ≤ t) (h3 : t < b) (h4 : b ≤ 281474976710657) : inW a b t = true := by
  rw [inW, right_mk h0 (by omega) (by omega) h4, timeB, decide_eq_true (by omega), decide_eq_true (by omega), decide_eq_true h2, decide_eq_true h3]; rfl
theorem after_mk {a b t : Int} (h0 : 0 ≤ a) (h1 : a < b) (h4 : b ≤ 281474976710657) (h5 : b ≤ t) (h6 : t ≤ 281474976710656) : afterW a b t = true := by
  rw [afterW, right_mk h0 (by omega) h1 h4, timeB, decide_eq_true (by omega), decide_eq_true h6, decide_eq_true h5]; rfl
theorem s8_keep {W0 W W' : World} {p q r : Addr} {a b c : Value} (h : W.cell? p = some a ∧ W.cell? q = some b ∧ W.cell? r = some c ∧ Below W0.heap.size W0 W) (hB : Below W.heap.size W W') :
    W'.cell? p = some a ∧ W'.cell? q = some b ∧ W'.cell? r = some c ∧ Below W0.heap.size W0 W' :=
  ⟨(hB.cell (World.block_lt_of_cell? W _ h.1)).trans h.1, (hB.cell (World.block_lt_of_cell? W _ h.2.1)).trans h.2.1, (hB.cell (World.block_lt_of_cell? W _ h.2.2.1)).trans h.2.2.1, ch4 h.2.2.2 hB⟩

set_option maxRecDepth 100000 in
set_option maxHeartbeats 8000000 in
theorem safe_law (lv : Value) (ls : List Int) (ah hz dl which : Nat) (w : World) (hl : SrcE e64 w lv ls) (hlb : ∀ x ∈ ls, 0 ≤ x ∧ x < 18446744073709551616) (ha : ah < 18446744073709551616) (hh : hz < 18446744073709551616) (hdl : dl < 18446744073709551616) (hwh : which ≤ 255) :
    Calls Try.prog 8 #[lv, .int .u64 (ah : Int), .int .u64 (hz : Int), .int .u64 (dl : Int), .int .u8 (which : Int)] w fun e w' => e = .returned (.bool true) ∧ Below w.heap.size w w' := by
  have FL := Hd.mk hl
  have HLB := Hd.mk hlb
  clear hl hlb
  go_enter Try.func8, Try.ntmps8
  go_wp2_with fail
  refine (times_any _ ls _ FL.out HLB.out).mono ?_
  rintro e w1 ⟨v1, rfl, hO, hB⟩
  have HB2 := Hd.mk hB
  have Fl_2 := Hd.mk (FL.out.below hB)
  clear FL
  have FO := Hd.mk (AppI.lower hO (Nat.le_refl _))
  have HL50 := Hd.mk (times_len ls)
  have HWRH := Hd.mk (wr_good ls ah hz)
  have HTR := Hd.mk (times_right ls)
  clear hB hO
  clear Fl_2
  generalize timesV ls = T at *
  go_wp2_with fail
  refine (ahead_of ah ha _).mono ?_
  rintro e w3 ⟨rfl, hB⟩
  have HB4 := Hd.mk (ch4 HB2.out hB)
  have Fo_4 := Hd.mk (FO.out.below hB)
  clear HB2 FO
  clear hB
  go_wp2_with fail
  refine (hor_of hz hh _).mono ?_
  rintro e w5 ⟨rfl, hB⟩
  have HB6 := Hd.mk (ch4 HB4.out hB)
  have Fo_6 := Hd.mk (Fo_4.out.below hB)
  clear HB4 Fo_4
  clear hB
  obtain ⟨hA0, hA1⟩ := ahead_le (ahead_right ah)
  have HAR := Hd.mk (ahead_right ah)
  obtain ⟨hH0, hH1⟩ := hor_iff.1 (hor_right hz)
  have HHRH := Hd.mk (hor_right hz)
  generalize horV hz = H at *
  generalize aheadV ah = A at *
  go_wp2_with fail
  refine (next_any _ T A H _ (OwnE.src Fo_6.out)).mono ?_
  rintro e w7 ⟨v2, rfl, hO, hB⟩
  have FNin7 := Hd.mk (hO.src)
  have HB8 := Hd.mk (ch4 HB6.out hB)
  have Fo_8 := Hd.mk (Fo_6.out.below hB)
  clear HB6 Fo_6
  clear hB hO
  have HK := nx_all HWRH.out
  generalize (nxW A H T).1 = x at *
  generalize (nxW A H T).2 = m at *
  generalize nxI A H T = I at *
  generalize nxE A H T = E at *
  clear HWRH
  obtain ⟨a1, c1, rfl⟩ := SrcE.shape (OwnE.src Fo_8.out)
  rcases HK with ⟨rfl, rfl, hge⟩ | ⟨rfl, hxT, hxH, hm, hxm, hI, hleast, hIe⟩
  · have HGE := Hd.mk hge
    clear hge
    obtain ⟨a2, c2, rfl⟩ := FNin7.out.shape
    by_cases hT0 : T.length = 0
    · have he0 : ((T.length : Int) == 0) = true := by rw [hT0]; rfl
      go_wp2_with fail
      obtain ⟨A9, hW⟩ : ∃ W, (w7.alloc (.cells #[.int .i64 x, .int .i64 m] 28)) = W := ⟨_, rfl⟩
      have hX : Below w7.heap.size w7 A9 := by rw [← hW]; exact bl_alloc (Below.refl _ _)
      have hF : BoxF A9 w7.heap.size (.cells #[.int .i64 x, .int .i64 m] 28 (0, 0)) := by rw [← hW]; exact World.alloc_heap_new _ _
      have HZA9 : Hd (A9.heap.size = w7.heap.size + 1) := ⟨by rw [← hW]; simp⟩
      rw [hW]
      clear hW
      have HB10 := Hd.mk (ch4 HB8.out hX)
      have Fo_10 := Hd.mk (Fo_8.out.below hX)
      have Fin_10 := Hd.mk (FNin7.out.below hX)
      clear HB8 Fo_8 FNin7
      clear hX
      have FB10 := Hd.mk hF
      clear hF
      refine (awake_any _).mono ?_
      rintro e w11 ⟨rfl, hB⟩
      have HB12 := Hd.mk (ch4 HB10.out hB)
      have Fo_12 := Hd.mk (Fo_10.out.below hB)
      have Fin_12 := Hd.mk (Fin_10.out.below hB)
      have Fb14_12 := Hd.mk (FB10.out.below hB)
      clear HB10 Fo_10 Fin_10 FB10
      clear hB
      go_wp2_with fail
      go_ret
      exact ⟨rfl, HB12.out⟩
    · have he0 : ((T.length : Int) == 0) = false := beq_false_of_ne (by omega)
      go_wp2_with fail
      obtain ⟨A9, hW⟩ : ∃ W, (w7.alloc (.cells #[.int .i64 x, .int .i64 m] 28)) = W := ⟨_, rfl⟩
      have hX : Below w7.heap.size w7 A9 := by rw [← hW]; exact bl_alloc (Below.refl _ _)
      have hF : BoxF A9 w7.heap.size (.cells #[.int .i64 x, .int .i64 m] 28 (0, 0)) := by rw [← hW]; exact World.alloc_heap_new _ _
      have HZA9 : Hd (A9.heap.size = w7.heap.size + 1) := ⟨by rw [← hW]; simp⟩
      rw [hW]
      clear hW
      have HB10 := Hd.mk (ch4 HB8.out hX)
      have Fo_10 := Hd.mk (Fo_8.out.below hX)
      have Fin_10 := Hd.mk (FNin7.out.below hX)
      clear HB8 Fo_8 FNin7
      clear hX
      have FB10 := Hd.mk hF
      clear hF
      refine (min_any (OwnE.src Fo_10.out) (by omega)).mono ?_
      rintro e wm ⟨rfl, rfl⟩
      have hmn := HGE.out _ (minOf_mem (l := T) (by omega))
      generalize Lib.minOf T = mn at *
      go_wp2_with fail
      refine (awake_any _).mono ?_
      rintro e w11 ⟨rfl, hB⟩
      have HB12 := Hd.mk (ch4 HB10.out hB)
      have Fo_12 := Hd.mk (Fo_10.out.below hB)
      have Fin_12 := Hd.mk (Fin_10.out.below hB)
      have Fb14_12 := Hd.mk (FB10.out.below hB)
      clear HB10 Fo_10 Fin_10 FB10
      clear hB
      go_wp2_with fail
      go_ret
      exact ⟨rfl, HB12.out⟩
  · obtain ⟨hx0, hx1⟩ := time_iff.1 (HTR.out x hxT)
    have hm1 : m ≤ H := by omega
    have hm2 : m ≤ x + A := by omega
    obtain ⟨p, hp⟩ : ∃ p, which % I.length = p := ⟨_, rfl⟩
    have hpl : p < I.length := by rw [← hp]; exact Nat.mod_lt _ hI
    have hpr : (which : Int) % (I.length : Int) = (p : Int) := by rw [← hp]; rfl
    obtain ⟨j, hj1, hj2, hj3⟩ : ∃ j : Nat, I[p] = (j : Int) ∧ j < T.length ∧ T.getD j 0 < m := by subst hIe; exact inL_get hpl
    have hgd : T.getD j 0 = T[j] := by rw [List.getD_eq_getElem?_getD, List.getElem?_eq_getElem hj2, Option.getD_some]
    obtain ⟨t, ht⟩ : ∃ t, T[j] = t := ⟨_, rfl⟩
    rw [hgd, ht] at hj3
    have hxt : x ≤ t := by rw [← ht]; exact hleast _ (List.getElem_mem hj2)
    have HIT := Hd.mk (in_mk hx0 hxt hj3 (by omega : m ≤ 281474976710657))
    have HRT := Hd.mk (right_mk hx0 hx1 hxm (by omega : m ≤ 281474976710657))
    obtain ⟨a2, c2, rfl⟩ := FNin7.out.shape
    obtain ⟨bi, oi, rfl, hbi, hci⟩ := FNin7.out.at p hpl
    obtain ⟨bt, ot, rfl, hbt, hct⟩ := SrcI.at (OwnE.src Fo_8.out) j hj2
    rw [hj1] at hci
    rw [ht] at hct
    have HCI := Hd.mk hci
    have HCT := Hd.mk hct
    have HBI := Hd.mk hbi
    have HBT := Hd.mk hbt
    have HJ := Hd.mk hj2
    have HP := Hd.mk hpl
    have hI1 : ((I.length : Int) == 0) = false := beq_false_of_ne (by omega)
    have hi0 : (0 : Int) < (I.length : Int) := by omega
    have hp0 : (0 : Int) ≤ (p : Int) := by omega
    have hp1 : (p : Int) < (I.length : Int) := by omega
    have hj0 : (0 : Int) ≤ (j : Int) := by omega
    have hjl : (j : Int) < (T.length : Int) := by omega
    have hjn : (T.length : Int) ≤ 50 := by have := HL50.out; omega
    have hIn := (FNin7.out.cap).2.2
    have wxa : IntKind.i64.wrap (x + A) = x + A := IntWalk.i64_in _ ⟨by omega, by omega⟩
    clear hIe hm hp hj1 hgd ht hleast hci hct hbi hbt hxT hj2 hpl hI
    have HBW0 : Hd (Bel w7 w7) := ⟨⟨Below.refl _ _⟩⟩
    go_upto_if 39 with fail
    obtain ⟨A9, hW⟩ : ∃ W, (w7.alloc (.cells #[.int .i64 x, .int .i64 m] 28)) = W := ⟨_, rfl⟩
    have hX : Below w7.heap.size w7 A9 := by rw [← hW]; exact bl_alloc (Below.refl _ _)
    have hF : BoxF A9 w7.heap.size (.cells #[.int .i64 x, .int .i64 m] 28 (0, 0)) := by rw [← hW]; exact World.alloc_heap_new _ _
    have HZA9 : Hd (A9.heap.size = w7.heap.size + 1) := ⟨by rw [← hW]; simp⟩
    rw [hW]
    clear hW
    have HB10 := Hd.mk (ch4 HB8.out hX)
    have Fo_10 := Hd.mk (Fo_8.out.below hX)
    have Fin_10 := Hd.mk (FNin7.out.below hX)
    have Fbw_10 := Hd.mk (HBW0.out.below hX)
    clear HB8 Fo_8 FNin7 HBW0
    clear hX
    have FB10 := Hd.mk hF
    clear hF
    have c0 := cells_cell FB10.out 0
    have c1 := cells_cell FB10.out 1
    go_wp2_with fail
    refine (right_at HRT.out _).mono ?_
    rintro e w11 ⟨rfl, hB⟩
    have HB12 := Hd.mk (ch4 HB10.out hB)
    have Fo_12 := Hd.mk (Fo_10.out.below hB)
    have Fin_12 := Hd.mk (Fin_10.out.below hB)
    have Fbw_12 := Hd.mk (Fbw_10.out.below hB)
    have Fb14_12 := Hd.mk (FB10.out.below hB)
    clear HB10 Fo_10 Fin_10 Fbw_10 FB10
    clear hB c0 c1
    have c0 := cells_cell Fb14_12.out 0
    have c1 := cells_cell Fb14_12.out 1
    obtain ⟨d0, hd0⟩ : ∃ d, dl % 281474976710656 = d := ⟨_, rfl⟩
    have r1 : Int.tmod (dl : Int) 281474976710656 = (d0 : Int) := by rw [Int.tmod_eq_emod_of_nonneg (by omega)]; omega
    have r2 : (dl : Int) % 281474976710656 = (d0 : Int) := by omega
    have r3 : d0 < 281474976710656 := by omega
    obtain ⟨d1, hd1⟩ : ∃ d, dl % 5 = d := ⟨_, rfl⟩
    have r4 : Int.tmod (dl : Int) 5 = (d1 : Int) := by rw [Int.tmod_eq_emod_of_nonneg (by omega)]; omega
    have r5 : (dl : Int) % 5 = (d1 : Int) := by omega
    have r6 : d1 < 5 := by omega
    have w1 : IntKind.i64.wrap (d0 : Int) = (d0 : Int) := IntWalk.i64_in _ ⟨by omega, by omega⟩
    have w2 : IntKind.i64.wrap (d1 : Int) = (d1 : Int) := IntWalk.i64_in _ ⟨by omega, by omega⟩
    clear hd0 hd1
    have hti : w11.cell? ⟨bi, oi + p, none⟩ = some (.int .i64 j) := ((Fbw_12.out.b.cell (p := ⟨bi, oi + p, none⟩) HBI.out)).trans HCI.out
    have htt : w11.cell? ⟨bt, ot + j, none⟩ = some (.int .i64 t) := ((Fbw_12.out.b.cell (p := ⟨bt, ot + j, none⟩) HBT.out)).trans HCT.out
    have HS0 := Hd.mk (show w11.cell? ⟨w7.heap.size, 0, none⟩ = some (.int .i64 x) ∧ w11.cell? ⟨w7.heap.size, 1, none⟩ = some (.int .i64 m) ∧ w11.cell? ⟨bt, ot + j, none⟩ = some (.int .i64 t) ∧ Below w11.heap.size w11 w11 from ⟨c0, c1, htt, Below.refl _ _⟩)
    have H16 := Hd.mk (fun W => in_at HIT.out W)
    have hdj : decide ((j : Int) < 0) = false := decide_eq_false (by omega)
    have hdl : decide (T.length ≤ j) = false := decide_eq_false (by omega)
    have hS0 := HS0.out
    go_upto_region 8 with fail
    go_region_held3 (fun W => W.cell? ⟨w7.heap.size, 0, none⟩ = some (.int .i64 x) ∧ W.cell? ⟨w7.heap.size, 1, none⟩ = some (.int .i64 m) ∧ W.cell? ⟨bt, ot + j, none⟩ = some (.int .i64 t) ∧ Below w11.heap.size w11 W)
      (first | with_reducible assumption | exact s8_keep hS0 (by repeat (with_reducible first | exact Below.refl _ _ | apply bl_drew | (apply bl_call; assumption))))
      (first | (go_at_call 16; with_reducible refine (H16.out _).mono ?_; rintro e wk ⟨rfl, hBk⟩))
    have hS9 : wk.cell? ⟨w7.heap.size, 0, none⟩ = some (.int .i64 x) ∧ wk.cell? ⟨w7.heap.size, 1, none⟩ = some (.int .i64 m) ∧ wk.cell? ⟨bt, ot + j, none⟩ = some (.int .i64 t) ∧ Below w11.heap.size w11 wk := by assumption
    clear hS0 c0 c1 hti htt HS0 hdj hdl
    have HB9 := Hd.mk hS9.2.2.2
    have HHT := Hd.mk hS9.2.2.1
    clear hS9
    have HB13 := Hd.mk (ch4 HB12.out HB9.out)
    have Fo_13 := Hd.mk (Fo_12.out.below HB9.out)
    have Fin_13 := Hd.mk (Fin_12.out.below HB9.out)
    have Fbw_13 := Hd.mk (Fbw_12.out.below HB9.out)
    have Fb14_13 := Hd.mk (Fb14_12.out.below HB9.out)
    clear HB12 Fo_12 Fin_12 Fbw_12 Fb14_12
    have htt := HHT.out
    have c0 := cells_cell Fb14_13.out 0
    have c1 := cells_cell Fb14_13.out 1
    obtain ⟨d, hd⟩ : ∃ d, A + (d0 : Int) = d := ⟨_, rfl⟩
    have w3 : IntKind.i64.wrap (A + (d0 : Int)) = d := by rw [hd]; exact IntWalk.i64_in _ ⟨by omega, by omega⟩
    have w3b : IntKind.i64.wrap ((d0 : Int) + A) = d := by rw [Int.add_comm, hd]; exact IntWalk.i64_in _ ⟨by omega, by omega⟩
    have hdA : A ≤ d := by omega
    have hdB : d ≤ 282574488338431 := by omega
    have HIN := HIT.out
    have hq0 : A - 1 - (d1 : Int) < A := by omega
    have w4 : IntKind.i64.wrap (A - 1) = A - 1 := IntWalk.i64_in _ ⟨by omega, by omega⟩
    have w5 : IntKind.i64.wrap (A - 1 - (d1 : Int)) = A - 1 - (d1 : Int) := IntWalk.i64_in _ ⟨by omega, by omega⟩
    have w6 : IntKind.i64.wrap (t + d) = t + d := IntWalk.i64_in _ ⟨by omega, by omega⟩
    have HEL := Hd.mk (show emE x m A t (A - 1 - (d1 : Int)) = 270 by rw [emE, HIN, HAR.out, Bool.and_self, if_pos rfl, if_pos hq0])
    by_cases hov : 281474976710656 - t < d
    all_goals have HTT := Hd.mk htt
    · have HE := Hd.mk (show emE x m A t d = 271 by rw [emE, HIN, HAR.out, Bool.and_self, if_pos rfl, if_neg (by omega), if_pos hov])
      have hle : decide (t + d ≤ 281474976710656) = false := decide_eq_false (by omega)
      clear HIN
      go_wp2_with fail
      refine (emit_at (v := 0) (E := 271) HE.out (by rw [emV, HE.out]; rfl) _).mono ?_
      rintro e w14 ⟨rfl, hB⟩
      have HB15 := Hd.mk (ch4 HB13.out hB)
      have Fo_15 := Hd.mk (Fo_13.out.below hB)
      have Fin_15 := Hd.mk (Fin_13.out.below hB)
      have Fbw_15 := Hd.mk (Fbw_13.out.below hB)
      have Fb14_15 := Hd.mk (Fb14_13.out.below hB)
      clear HB13 Fo_13 Fin_13 Fbw_13 Fb14_13
      clear hB
      clear c0 c1
      have c0 := cells_cell Fb14_15.out 0
      have c1 := cells_cell Fb14_15.out 1
      go_wp2_with fail
      refine (emit_at (v := 0) (E := 270) HEL.out (by rw [emV, HEL.out]; rfl) _).mono ?_
      rintro e w16 ⟨rfl, hB⟩
      have HB17 := Hd.mk (ch4 HB15.out hB)
      have Fo_17 := Hd.mk (Fo_15.out.below hB)
      have Fin_17 := Hd.mk (Fin_15.out.below hB)
      have Fbw_17 := Hd.mk (Fbw_15.out.below hB)
      have Fb14_17 := Hd.mk (Fb14_15.out.below hB)
      clear HB15 Fo_15 Fin_15 Fbw_15 Fb14_15
      clear hB
      go_wp2_with fail
      refine (awake_any _).mono ?_
      rintro e w18 ⟨rfl, hB⟩
      have HB19 := Hd.mk (ch4 HB17.out hB)
      have Fo_19 := Hd.mk (Fo_17.out.below hB)
      have Fin_19 := Hd.mk (Fin_17.out.below hB)
      have Fbw_19 := Hd.mk (Fbw_17.out.below hB)
      have Fb14_19 := Hd.mk (Fb14_17.out.below hB)
      clear HB17 Fo_17 Fin_17 Fbw_17 Fb14_17
      clear hB
      go_wp2_with fail
      go_ret
      exact ⟨rfl, HB19.out⟩
    · have HE := Hd.mk (show emE x m A t d = 0 by rw [emE, HIN, HAR.out, Bool.and_self, if_pos rfl, if_neg (by omega), if_neg hov])
      have HAF := Hd.mk (after_mk hx0 hxm (by omega : m ≤ 281474976710657) (by omega : m ≤ t + d) (by omega))
      have hne : (t + d != t + d) = false := by simp
      clear HIN
      go_wp2_with fail
      refine (emit_at (v := t + d) (E := 0) HE.out (by rw [emV, HE.out]; rfl) _).mono ?_
      rintro e w14 ⟨rfl, hB⟩
      have HB15 := Hd.mk (ch4 HB13.out hB)
      have Fo_15 := Hd.mk (Fo_13.out.below hB)
      have Fin_15 := Hd.mk (Fin_13.out.below hB)
      have Fbw_15 := Hd.mk (Fbw_13.out.below hB)
      have Fb14_15 := Hd.mk (Fb14_13.out.below hB)
      clear HB13 Fo_13 Fin_13 Fbw_13 Fb14_13
      clear hB
      clear c0 c1
      have c0 := cells_cell Fb14_15.out 0
      have c1 := cells_cell Fb14_15.out 1
      go_wp2_with fail
      refine (after_at HAF.out _).mono ?_
      rintro e w16 ⟨rfl, hB⟩
      have HB17 := Hd.mk (ch4 HB15.out hB)
      have Fo_17 := Hd.mk (Fo_15.out.below hB)
      have Fin_17 := Hd.mk (Fin_15.out.below hB)
      have Fbw_17 := Hd.mk (Fbw_15.out.below hB)
      have Fb14_17 := Hd.mk (Fb14_15.out.below hB)
      clear HB15 Fo_15 Fin_15 Fbw_15 Fb14_15
      clear hB
      clear c0 c1
      have c0 := cells_cell Fb14_17.out 0
      have c1 := cells_cell Fb14_17.out 1
      go_wp2_with fail
      refine (emit_at (v := 0) (E := 270) HEL.out (by rw [emV, HEL.out]; rfl) _).mono ?_
      rintro e w18 ⟨rfl, hB⟩
      have HB19 := Hd.mk (ch4 HB17.out hB)
      have Fo_19 := Hd.mk (Fo_17.out.below hB)
      have Fin_19 := Hd.mk (Fin_17.out.below hB)
      have Fbw_19 := Hd.mk (Fbw_17.out.below hB)
      have Fb14_19 := Hd.mk (Fb14_17.out.below hB)
      clear HB17 Fo_17 Fin_17 Fbw_17 Fb14_17
      clear hB
      go_wp2_with fail
      refine (awake_any _).mono ?_
      rintro e w20 ⟨rfl, hB⟩
      have HB21 := Hd.mk (ch4 HB19.out hB)
      have Fo_21 := Hd.mk (Fo_19.out.below hB)
      have Fin_21 := Hd.mk (Fin_19.out.below hB)
      have Fbw_21 := Hd.mk (Fbw_19.out.below hB)
      have Fb14_21 := Hd.mk (Fb14_19.out.below hB)
      clear HB19 Fo_19 Fin_19 Fbw_19 Fb14_19
      clear hB
      go_wp2_with fail
      go_ret
      exact ⟨rfl, HB21.out⟩
end Go.Proofs.Ytlblpmadehikgaa
