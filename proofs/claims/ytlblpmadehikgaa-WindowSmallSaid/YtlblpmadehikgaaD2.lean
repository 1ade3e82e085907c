/- The law WindowWrong: its walk. -/
import Derived.Test.YtlblpmadehikgaaD1
import Derived.Deep.DeepCutAuto
namespace Go.Proofs.Ytlblpmadehikgaa
open Go.RowKit Go.Shelf
set_option linter.unusedVariables false

theorem wr_good (l : List Int) (a h : Nat) : wrE (timesV l) (aheadV a) (horV h) = 0 := by
  have h1 := times_len l
  rw [wrE, if_neg (by omega), if_pos]
  rw [ahead_right, hor_right, List.all_eq_true.2 (times_right l)]; rfl
theorem wr_bad {l : List Int} {a h : Int} (hl : l.length ≤ 4096) (hb : (aheadB a && horB h && l.all timeB) = false) : wrE l a h = 2 := by
  rw [wrE, if_neg (by omega), if_neg (by rw [hb]; decide)]
theorem emE_out {a b ah t d : Int} (h : inW a b t = false) : emE a b ah t d = 2 := by rw [emE, h]; rfl
theorem emE_ahead {a b ah t d : Int} (h : aheadB ah = false) : emE a b ah t d = 2 := by rw [emE, h, Bool.and_false]; rfl
theorem in_at {a b t : Int} {r : Bool} (h : inW a b t = r) (w : World) : Calls Try.prog 16 #[.agg #[.int .i64 a, .int .i64 b], .int .i64 t] w fun e w' => e = .returned (.bool r) ∧ Below w.heap.size w w' := by
  have := in_any a b t w
  rw [h] at this; exact this
theorem out_left {a b t : Int} (h : t < a) : inW a b t = false := by
  rw [inW, show decide (a ≤ t) = false from decide_eq_false (by omega), Bool.and_false, Bool.false_and]
theorem out_right {a b t : Int} (h : b ≤ t) : inW a b t = false := by
  rw [inW, show decide (t < b) = false from decide_eq_false (by omega), Bool.and_false]
theorem out_neg {a b t : Int} (h : t < 0) : inW a b t = false := by
  rw [inW, timeB, show decide (0 ≤ t) = false from decide_eq_false (by omega)]
  simp
theorem inL_mem {l : List Int} {e : Int} {k j : Nat} (hj : j < k) (h : l.getD j 0 < e) : (j : Int) ∈ inL l e k := by
  rw [inL, List.mem_map]
  exact ⟨j, List.mem_filter.2 ⟨List.mem_range.2 hj, decide_eq_true h⟩, rfl⟩
theorem inL_pos {l : List Int} {e t : Int} (h : t ∈ l) (ht : t < e) : 0 < (inL l e l.length).length := by
  obtain ⟨j, hj, rfl⟩ := List.mem_iff_getElem.1 h
  exact List.length_pos_of_mem (inL_mem hj (by rw [List.getD_eq_getElem?_getD, List.getElem?_eq_getElem hj]; exact ht))
theorem winsV_mem {ah h : Int} (ha : 1 ≤ ah) {l : List Int} {w : Int × Int} (hw : w ∈ winsV ah h l) : w.1 ∈ l ∧ w.1 < h ∧ w.2 = min (w.1 + ah) h ∧ w.1 < w.2 := by
  obtain ⟨a, b, c, d⟩ := winsL_mem ha _ _ _ hw
  exact ⟨(sort_perm l).mem_iff.2 a, b, c, d⟩
theorem next_any (v : Value) (l : List Int) (ah h : Int) (w : World) (hs : SrcI w v l) : Calls Try.prog 14 #[v, .int .i64 ah, .int .i64 h] w fun e w' =>
    ∃ v', e = .returned (.tuple #[.agg #[.int .i64 (nxW ah h l).1, .int .i64 (nxW ah h l).2], v', .int .i64 (nxE ah h l)]) ∧ OwnI w' w.heap.size v' (nxI ah h l) ∧ Below w.heap.size w w' := by
  by_cases hz : wrE l ah h = 0
  · exact next_ok v l ah h w hs hz
  · have h1 : nxE ah h l = wrE l ah h := by rw [nxE, if_neg hz]
    have h2 : nxW ah h l = (0, 0) := by rw [nxW, if_neg hz]
    have h3 : nxI ah h l = [] := by rw [nxI, h1, if_neg hz]
    rw [h1, h2, h3]
    refine (next_bad v l ah h w hs _ rfl hz).mono ?_
    rintro e w' ⟨rfl, hB⟩
    exact ⟨_, rfl, OwnI.nil _ _, hB⟩
theorem next_wrong {l : List Int} {ah h : Int} (hz : wrE l ah h = 2) {v : Value} {w : World} (hs : SrcI w v l) : Calls Try.prog 14 #[v, .int .i64 ah, .int .i64 h] w fun e w' =>
    e = .returned (.tuple #[.agg #[.int .i64 0, .int .i64 0], .slice none 0 0, .int .i64 2]) ∧ Below w.heap.size w w' := next_bad v l ah h w hs 2 hz (by decide)
theorem plan_wrong {l : List Int} {ah h : Int} (hz : wrE l ah h = 2) {v : Value} {w : World} (hs : SrcI w v l) : Calls Try.prog 17 #[v, .int .i64 ah, .int .i64 h] w fun e w' =>
    ∃ v', e = .returned (.tuple #[v', .int .i64 2]) ∧ OwnC w' w.heap.size 28 v' [] ∧ Below w.heap.size w w' := by
  have := plan_any v l ah h w hs
  rw [plV, hz, if_neg (by decide)] at this; exact this
theorem count_wrong {l : List Int} {ah h : Int} (hz : wrE l ah h = 2) {v : Value} {w : World} (hs : SrcI w v l) : Calls Try.prog 18 #[v, .int .i64 ah, .int .i64 h] w fun e w' =>
    e = .returned (.tuple #[.int .i64 0, .int .i64 2]) ∧ Below w.heap.size w w' := by
  have := count_any v l ah h w hs
  rw [plV, hz, if_neg (by decide)] at this; exact this

theorem nx_cases {T : List Int} {A H : Int} (hz : wrE T A H = 0) : nxE A H T = 6 ∨ (nxE A H T = 0 ∧ (nxW A H T).1 ∈ T ∧ (nxW A H T).1 < H ∧ (nxW A H T).2 = min ((nxW A H T).1 + A) H ∧ (nxW A H T).1 < (nxW A H T).2 ∧ 0 < (nxI A H T).length) := by
  obtain ⟨a, ha⟩ : ∃ a, winsV A H T = a := ⟨_, rfl⟩
  have h0 := wr_zero hz
  have hA := (ahead_le h0.2.1).1
  cases a with
  | nil => left; rw [nxE, if_pos hz, if_pos ha]
  | cons p X =>
    right
    have h1 : nxE A H T = 0 := by rw [nxE, if_pos hz, ha, if_neg (by simp)]
    have h2 : nxW A H T = p := by rw [nxW, if_pos hz, ha]; rfl
    obtain ⟨m1, m2, m3, m4⟩ := winsV_mem hA (w := p) (l := T) (by rw [ha]; exact List.mem_cons_self)
    refine ⟨h1, by rw [h2]; exact m1, by rw [h2]; exact m2, by rw [h2]; exact m3, by rw [h2]; exact m4, ?_⟩
    rw [nxI, if_pos h1, h2]
    exact inL_pos m1 m4
theorem AppI.one (w : World) (x : Int) : AppI (w.alloc (.cells #[.int .i64 x] 3)) w.heap.size (.slice (some ⟨w.heap.size, 0, none⟩) 1 1) [x] :=
  ⟨by simp, .inr ⟨w.heap.size, 1, #[.int .i64 x], rfl, Nat.le_refl _, World.alloc_heap_new _ _, by simp, by simp [maxLen], by simp, by simp⟩⟩
/-- append of a literal of one and a slice. -/
theorem one_app (w : World) (x : Int) {v : Value} {l : List Int} (h : SrcI w v l) (hl : l.length ≤ 100000) :
    ∃ v' w', (Builtin.append_ #[24, 24] 24 #[.slice (some ⟨w.heap.size, 0, none⟩) 1 1, v]).run Try.prog (w.alloc (.cells #[.int .i64 x] 3)) = .ok v' w' ∧ SrcI w' v' (x :: l) ∧ Below w.heap.size w w' := by
  have hB := bl_alloc (o := .cells #[.int .i64 x] 3) (Below.refl w.heap.size w)
  obtain ⟨v', w', hr, ho, hg⟩ := append_i (AppI.one w x) (by simp) (h.below hB) (by simp; omega)
  exact ⟨v', w', hr, OwnE.src ho, OwnE.grown (AppI.one w x) hB (by simp) hg⟩
theorem wr_time {l : List Int} {a h t : Int} (hl : l.length ≤ 4096) (ht : t ∈ l) (hb : timeB t = false) : wrE l a h = 2 := by
  refine wr_bad hl ?_
  rw [Bool.and_eq_false_iff]; right
  rw [← Bool.not_eq_true, List.all_eq_true]
  intro hh
  have := hh t ht
  rw [hb] at this; cases this
theorem time_neg {t : Int} (h : t < 0) : timeB t = false := by rw [timeB, decide_eq_false (by omega)]; rfl
theorem time_big {t : Int} (h : 281474976710656 < t) : timeB t = false := by rw [timeB, show decide (t ≤ 281474976710656) = false from decide_eq_false (by omega), Bool.and_false]
theorem ahead_small {t : Int} (h : t < 1) : aheadB t = false := by rw [aheadB, decide_eq_false (by omega)]; rfl
theorem ahead_big {t : Int} (h : 1099511627776 < t) : aheadB t = false := by rw [aheadB, show decide (t ≤ 1099511627776) = false from decide_eq_false (by omega), Bool.and_false]
theorem hor_neg {t : Int} (h : t < 0) : horB t = false := by rw [horB, decide_eq_false (by omega)]; rfl
theorem hor_big {t : Int} (h : 281474976710657 < t) : horB t = false := by rw [horB, show decide (t ≤ 281474976710657) = false from decide_eq_false (by omega), Bool.and_false]

set_option maxRecDepth 100000 in
set_option maxHeartbeats 8000000 in
theorem wrong_law (lv : Value) (ls : List Int) (ah hz how : Nat) (n : Int) (w : World) (hl : SrcE e64 w lv ls) (hlb : ∀ x ∈ ls, 0 ≤ x ∧ x < 18446744073709551616) (ha : ah < 18446744073709551616) (hh : hz < 18446744073709551616) (hhow : how ≤ 255) (hn1 : -9223372036854775808 ≤ n) (hn2 : n ≤ 9223372036854775807) :
    Calls Try.prog 3 #[lv, .int .u64 (ah : Int), .int .u64 (hz : Int), .int .u8 (how : Int), .int .i64 n] w fun e w' => e = .returned (.bool true) ∧ Below w.heap.size w w' := by
  have FL := Hd.mk hl
  have HLB := Hd.mk hlb
  clear hl hlb
  go_enter Try.func3, Try.ntmps3
  go_wp2_with fail
  refine (times_any _ ls _ FL.out HLB.out).mono ?_
  rintro e w1 ⟨v1, rfl, hO, hB⟩
  have HB2 := Hd.mk hB
  have Fl_2 := Hd.mk (FL.out.below hB)
  clear FL
  have FO := Hd.mk (AppI.lower hO (Nat.le_refl _))
  have HL50 := Hd.mk (times_len ls)
  have HWR := Hd.mk (wr_good ls ah hz)
  have HTR := Hd.mk (times_right ls)
  clear hB hO
  clear Fl_2
  generalize timesV ls = T at *
  go_wp2_with fail
  refine (ahead_of ah ha _).mono ?_
  rintro e w3 ⟨rfl, hB⟩
  have HB4 := Hd.mk (ch4 HB2.out hB)
  have Fo_4 := Hd.mk (FO.out.below hB)
  clear HB2 FO
  clear hB
  go_wp2_with fail
  refine (hor_of hz hh _).mono ?_
  rintro e w5 ⟨rfl, hB⟩
  have HB6 := Hd.mk (ch4 HB4.out hB)
  have Fo_6 := Hd.mk (Fo_4.out.below hB)
  clear HB4 Fo_4
  clear hB
  obtain ⟨hA0, hA1⟩ := ahead_le (ahead_right ah)
  obtain ⟨hH0, hH1⟩ := hor_iff.1 (hor_right hz)
  have HAR := Hd.mk (ahead_right ah)
  have HHR := Hd.mk (hor_right hz)
  generalize aheadV ah = A at *
  generalize horV hz = H at *
  go_wp2_with fail
  refine (next_any _ T A H _ (OwnE.src Fo_6.out)).mono ?_
  rintro e w7 ⟨v2, rfl, hO, hB⟩
  have FNin7 := Hd.mk (hO.src)
  have HB8 := Hd.mk (ch4 HB6.out hB)
  have Fo_8 := Hd.mk (Fo_6.out.below hB)
  clear HB6 Fo_6
  clear hB hO
  have HK := Hd.mk (nx_cases HWR.out)
  generalize (nxW A H T).1 = x at *
  generalize (nxW A H T).2 = m at *
  generalize nxI A H T = I at *
  generalize nxE A H T = E at *
  clear HWR
  go_upto_if 45 with fail
  obtain ⟨A9, hW⟩ : ∃ W, (w7.alloc (.cells #[.int .i64 x, .int .i64 m] 28)) = W := ⟨_, rfl⟩
  have hX : Below w7.heap.size w7 A9 := by rw [← hW]; exact bl_alloc (Below.refl _ _)
  have hF : BoxF A9 w7.heap.size (.cells #[.int .i64 x, .int .i64 m] 28 (0, 0)) := by rw [← hW]; exact World.alloc_heap_new _ _
  have HZA9 : Hd (A9.heap.size = w7.heap.size + 1) := ⟨by rw [← hW]; simp⟩
  rw [hW]
  clear hW
  have HB10 := Hd.mk (ch4 HB8.out hX)
  have Fo_10 := Hd.mk (Fo_8.out.below hX)
  have Fin_10 := Hd.mk (FNin7.out.below hX)
  clear HB8 Fo_8 FNin7
  clear hX
  have FB10 := Hd.mk hF
  clear hF
  go_cut [18, 19, 20, 21, 22] (fun v18 v19 v20 v21 v22 wx => Below A9.heap.size A9 wx)
  case first =>
    rcases HK.out with rfl | ⟨rfl, hxT, hxH, hm, hxm, hI⟩
    · go_wp2_with fail
      go_meet
      exact Below.refl _ _
    · have hxt := time_iff.1 (HTR.out x hxT)
      obtain ⟨hx0, hx1⟩ := hxt
      have HIL := Hd.mk hI
      have hm1 : m ≤ H := by omega
      clear hxT hI hm
      have c0 := cells_cell FB10.out 0
      have c1 := cells_cell FB10.out 1
      obtain ⟨nn, hnn⟩ : ∃ k, min n (-1) = k := ⟨_, rfl⟩
      have hnn0 : nn ≤ -1 := by omega
      have hin : ∀ t ∈ [x - 1, m, nn], inW x m t = false := by
        intro t ht
        simp only [List.mem_cons, List.not_mem_nil, or_false] at ht
        rcases ht with rfl | rfl | rfl
        · exact out_left (by omega)
        · exact out_right (Int.le_refl _)
        · exact out_neg (by omega)
      have HIN := Hd.mk hin
      have hw1 : IntKind.i64.wrap (x - 1) = x - 1 := IntWalk.i64_in _ ⟨by omega, by omega⟩
      clear hin
      obtain ⟨L3, hL3⟩ : ∃ W, A9.alloc (.cells #[.int .i64 (x - 1), .int .i64 m, .int .i64 nn] 3) = W := ⟨_, rfl⟩
      have hBL : Below A9.heap.size A9 L3 := by rw [← hL3]; exact bl_alloc (Below.refl _ _)
      have hSL : SrcI L3 (.slice (some ⟨A9.heap.size, 0, none⟩) 3 3) [x - 1, m, nn] := by rw [← hL3]; exact srcLitI A9 [x - 1, m, nn] (by simp)
      have hFL : BoxF L3 w7.heap.size (.cells #[.int .i64 x, .int .i64 m] 28 (0, 0)) := FB10.out.below hBL
      have HBL := Hd.mk hBL
      have HSL := Hd.mk hSL
      have HFL := Hd.mk hFL
      clear hBL hSL hFL
      go_upto_region 5 with fail
      try rw [hL3]
      clear hL3
      go_loopw [55] (fun i W => ∃ k : Nat, k ≤ 3 ∧ i = .int .i64 k ∧ Below L3.heap.size L3 W) (fun i _ => 3 - (intOf i).toNat)
      case atStart => exact ⟨0, by omega, rfl, Below.refl _ _⟩
      case round =>
        obtain ⟨k, hk, rfl, hB⟩ := hrel
        by_cases hlt : k < 3
        · obtain ⟨bx, ox, hbx, hb, hx⟩ := (HSL.out.below hB).at k hlt
          obtain ⟨rfl, rfl⟩ : A9.heap.size = bx ∧ 0 = ox := by simpa using hbx
          have hit := HIN.out _ (List.getElem_mem hlt)
          obtain ⟨t, ht⟩ : ∃ t, [x - 1, m, nn][k] = t := ⟨_, rfl⟩
          rw [ht] at hx hit
          rw [Nat.zero_add] at hx
          have HIT := Hd.mk hit
          have HF2 := Hd.mk (HFL.out.below hB)
          have d0 := cells_cell HF2.out 0
          have d1 := cells_cell HF2.out 1
          have k0 : (0 : Int) ≤ (k : Int) := by omega
          have k1 : (k : Int) < 3 := by omega
          clear ht hit hb hbx
          go_wp2_with fail
          refine (emit_at (E := 2) (v := 0) (emE_out HIT.out) (by rw [emV, emE_out HIT.out]; rfl) _).mono ?_
          rintro e w9 ⟨rfl, hB9⟩
          have HF3 := Hd.mk (HF2.out.below hB9)
          have HB9 := Hd.mk (hB.trans (hB9.mono hB.size))
          clear d0 d1 hB9 hB
          have d0 := cells_cell HF3.out 0
          have d1 := cells_cell HF3.out 1
          go_wp2_with fail
          refine (in_at HIT.out _).mono ?_
          rintro e w10 ⟨rfl, hB10⟩
          have HB10 := Hd.mk (HB9.out.trans (hB10.mono HB9.out.size))
          clear d0 d1 hB10
          go_wp2_with fail
          go_roundw
          case rel => exact ⟨k + 1, by omega, by go_num, HB10.out⟩
          case measure => simp [intOf]; omega
        · obtain rfl : k = 3 := by omega
          have HB := Hd.mk hB
          have HF2 := Hd.mk (HFL.out.below hB)
          have d0 := cells_cell HF2.out 0
          have d1 := cells_cell HF2.out 1
          obtain ⟨n2, hn2⟩ : ∃ k, min n 0 = k := ⟨_, rfl⟩
          have hn20 : n2 < 1 := by omega
          clear hB
          go_wp2_with fail
          refine (emit_at (E := 2) (v := 0) (emE_ahead (ahead_small hn20)) (by rw [emV, emE_ahead (ahead_small hn20)]; rfl) _).mono ?_
          rintro e w9 ⟨rfl, hB9⟩
          have HB9 := Hd.mk (HB.out.trans (hB9.mono HB.out.size))
          clear d0 d1 hB9
          obtain ⟨vi, ci, rfl⟩ := Fin_10.out.shape
          have hil : ((I.length : Int) == 0) = false := beq_false_of_ne (by have := HIL.out; omega)
          go_wp2_with fail
          go_meet
          exact ch4 HBL.out HB9.out
  case rest =>
  clear FB10 Fin_10
  have HBC := Hd.mk hcut
  clear hcut
  have HB11 := Hd.mk (ch4 HB10.out HBC.out)
  have Fo_11 := Hd.mk (Fo_10.out.below HBC.out)
  clear HB10 Fo_10
  obtain ⟨c4, hc4⟩ : ∃ c, how % 4 = c := ⟨_, rfl⟩
  have hmod : (how : Int) % 4 = (c4 : Int) := by omega
  obtain ⟨W8, rfl⟩ : ∃ W, W = wc := ⟨_, rfl⟩
  rcases (by omega : c4 = 0 ∨ c4 = 1 ∨ (c4 = 2 ∧ how < 128) ∨ (c4 = 2 ∧ 128 ≤ how) ∨ (c4 = 3 ∧ how < 128) ∨ (c4 = 3 ∧ 128 ≤ how)) with rfl | rfl | ⟨rfl, hw⟩ | ⟨rfl, hw⟩ | ⟨rfl, hw⟩ | ⟨rfl, hw⟩
  · obtain ⟨nn, hnn⟩ : ∃ k, min n (-1) = k := ⟨_, rfl⟩
    have hnn0 : nn < 0 := by omega
    obtain ⟨v11, w9, hr, ho2, hB2, -⟩ := push_i nn Fo_11.out HB11.out HB11.out.size (by have := HL50.out; omega)
    have HW9 := Hd.mk hB2
    have FT := Hd.mk (OwnE.src ho2)
    have HWB : Hd (wrE (T ++ [nn]) A H = 2) := ⟨wr_time (by have := HL50.out; simp; omega) (List.mem_append_right _ List.mem_cons_self) (time_neg hnn0)⟩
    clear ho2 hB2
    go_wp2_with (at_builtin; refine wpList_append_run rfl _ _ _ rfl rfl rfl hr ?_; clear hr)
    clear HB11 Fo_11
    refine (next_wrong HWB.out FT.out).mono ?_
    rintro e w12 ⟨rfl, hB⟩
    have HB13 := Hd.mk (ch4 HW9.out hB)
    have Ft_13 := Hd.mk (FT.out.below hB)
    clear HW9 FT
    clear hB
    go_wp2_with fail
    obtain ⟨A14, hW⟩ : ∃ W, (w12.alloc (.cells #[.int .i64 0, .int .i64 0] 28)) = W := ⟨_, rfl⟩
    have hX : Below w12.heap.size w12 A14 := by rw [← hW]; exact bl_alloc (Below.refl _ _)
    have hF : BoxF A14 w12.heap.size (.cells #[.int .i64 0, .int .i64 0] 28 (0, 0)) := by rw [← hW]; exact World.alloc_heap_new _ _
    have HZA14 : Hd (A14.heap.size = w12.heap.size + 1) := ⟨by rw [← hW]; simp⟩
    rw [hW]
    clear hW
    have HB15 := Hd.mk (ch4 HB13.out hX)
    have Ft_15 := Hd.mk (Ft_13.out.below hX)
    clear HB13 Ft_13
    clear hX
    have FB15 := Hd.mk hF
    clear hF
    refine (plan_wrong HWB.out Ft_15.out).mono ?_
    rintro e w16 ⟨v26, rfl, hO, hB⟩
    have HB17 := Hd.mk (ch4 HB15.out hB)
    have Ft_17 := Hd.mk (Ft_15.out.below hB)
    have Fb23_17 := Hd.mk (FB15.out.below hB)
    clear HB15 Ft_15 FB15
    obtain ⟨a26, c26, rfl⟩ := hO.shape
    clear hB hO
    go_wp2_with fail
    refine (count_wrong HWB.out Ft_17.out).mono ?_
    rintro e w18 ⟨rfl, hB⟩
    have HB19 := Hd.mk (ch4 HB17.out hB)
    have Ft_19 := Hd.mk (Ft_17.out.below hB)
    have Fb23_19 := Hd.mk (Fb23_17.out.below hB)
    clear HB17 Ft_17 Fb23_17
    clear hB
    have z0 := cells_cell Fb23_19.out 0
    have z1 := cells_cell Fb23_19.out 1
    have e0 := fun W => eqv_w28 0 0 0 0 W
    have gd := guard28
    go_wp2_with fail
    refine (awake_any _).mono ?_
    rintro e w20 ⟨rfl, hB⟩
    have HB21 := Hd.mk (ch4 HB19.out hB)
    have Ft_21 := Hd.mk (Ft_19.out.below hB)
    have Fb23_21 := Hd.mk (Fb23_19.out.below hB)
    clear HB19 Ft_19 Fb23_19
    clear hB z0 z1 e0
    go_wp2_with fail
    go_ret
    exact ⟨rfl, HB21.out⟩
  · obtain ⟨nn, hnn⟩ : ∃ k, max n 281474976710657 = k := ⟨_, rfl⟩
    have hnn0 : 281474976710656 < nn := by omega
    obtain ⟨v11, w9, hr, ho2, hB2⟩ := one_app W8 nn (OwnE.src Fo_11.out) (by have := HL50.out; omega)
    have HW9 := Hd.mk (HB11.out.trans (hB2.mono HB11.out.size))
    have FT := Hd.mk ho2
    have HWB : Hd (wrE (nn :: T) A H = 2) := ⟨wr_time (by have := HL50.out; simp; omega) List.mem_cons_self (time_big hnn0)⟩
    clear ho2 hB2
    go_wp2_with (at_builtin; refine wpList_append_run rfl _ _ _ rfl rfl rfl hr ?_; clear hr)
    clear HB11 Fo_11
    refine (next_wrong HWB.out FT.out).mono ?_
    rintro e w12 ⟨rfl, hB⟩
    have HB13 := Hd.mk (ch4 HW9.out hB)
    have Ft_13 := Hd.mk (FT.out.below hB)
    clear HW9 FT
    clear hB
    go_wp2_with fail
    obtain ⟨A14, hW⟩ : ∃ W, (w12.alloc (.cells #[.int .i64 0, .int .i64 0] 28)) = W := ⟨_, rfl⟩
    have hX : Below w12.heap.size w12 A14 := by rw [← hW]; exact bl_alloc (Below.refl _ _)
    have hF : BoxF A14 w12.heap.size (.cells #[.int .i64 0, .int .i64 0] 28 (0, 0)) := by rw [← hW]; exact World.alloc_heap_new _ _
    have HZA14 : Hd (A14.heap.size = w12.heap.size + 1) := ⟨by rw [← hW]; simp⟩
    rw [hW]
    clear hW
    have HB15 := Hd.mk (ch4 HB13.out hX)
    have Ft_15 := Hd.mk (Ft_13.out.below hX)
    clear HB13 Ft_13
    clear hX
    have FB15 := Hd.mk hF
    clear hF
    refine (plan_wrong HWB.out Ft_15.out).mono ?_
    rintro e w16 ⟨v26, rfl, hO, hB⟩
    have HB17 := Hd.mk (ch4 HB15.out hB)
    have Ft_17 := Hd.mk (Ft_15.out.below hB)
    have Fb23_17 := Hd.mk (FB15.out.below hB)
    clear HB15 Ft_15 FB15
    obtain ⟨a26, c26, rfl⟩ := hO.shape
    clear hB hO
    go_wp2_with fail
    refine (count_wrong HWB.out Ft_17.out).mono ?_
    rintro e w18 ⟨rfl, hB⟩
    have HB19 := Hd.mk (ch4 HB17.out hB)
    have Ft_19 := Hd.mk (Ft_17.out.below hB)
    have Fb23_19 := Hd.mk (Fb23_17.out.below hB)
    clear HB17 Ft_17 Fb23_17
    clear hB
    have z0 := cells_cell Fb23_19.out 0
    have z1 := cells_cell Fb23_19.out 1
    have e0 := fun W => eqv_w28 0 0 0 0 W
    have gd := guard28
    go_wp2_with fail
    refine (awake_any _).mono ?_
    rintro e w20 ⟨rfl, hB⟩
    have HB21 := Hd.mk (ch4 HB19.out hB)
    have Ft_21 := Hd.mk (Ft_19.out.below hB)
    have Fb23_21 := Hd.mk (Fb23_19.out.below hB)
    clear HB19 Ft_19 Fb23_19
    clear hB z0 z1 e0
    go_wp2_with fail
    go_ret
    exact ⟨rfl, HB21.out⟩
  · obtain ⟨nn, hnn⟩ : ∃ k, min n 0 = k := ⟨_, rfl⟩
    have hnn0 : nn < 1 := by omega
    have HWB : Hd (wrE T nn H = 2) := ⟨wr_bad (by have := HL50.out; omega) (by rw [ahead_small hnn0]; rfl)⟩
    have hw2 : decide ((128 : Int) ≤ (how : Int)) = false := decide_eq_false (by omega)
    go_wp2_with fail
    refine (next_wrong HWB.out (OwnE.src Fo_11.out)).mono ?_
    rintro e w12 ⟨rfl, hB⟩
    have HB13 := Hd.mk (ch4 HB11.out hB)
    have Fo_13 := Hd.mk (Fo_11.out.below hB)
    clear HB11 Fo_11
    clear hB
    go_wp2_with fail
    obtain ⟨A14, hW⟩ : ∃ W, (w12.alloc (.cells #[.int .i64 0, .int .i64 0] 28)) = W := ⟨_, rfl⟩
    have hX : Below w12.heap.size w12 A14 := by rw [← hW]; exact bl_alloc (Below.refl _ _)
    have hF : BoxF A14 w12.heap.size (.cells #[.int .i64 0, .int .i64 0] 28 (0, 0)) := by rw [← hW]; exact World.alloc_heap_new _ _
    have HZA14 : Hd (A14.heap.size = w12.heap.size + 1) := ⟨by rw [← hW]; simp⟩
    rw [hW]
    clear hW
    have HB15 := Hd.mk (ch4 HB13.out hX)
    have Fo_15 := Hd.mk (Fo_13.out.below hX)
    clear HB13 Fo_13
    clear hX
    have FB15 := Hd.mk hF
    clear hF
    refine (plan_wrong HWB.out (OwnE.src Fo_15.out)).mono ?_
    rintro e w16 ⟨v26, rfl, hO, hB⟩
    have HB17 := Hd.mk (ch4 HB15.out hB)
    have Fo_17 := Hd.mk (Fo_15.out.below hB)
    have Fb23_17 := Hd.mk (FB15.out.below hB)
    clear HB15 Fo_15 FB15
    obtain ⟨a26, c26, rfl⟩ := hO.shape
    clear hB hO
    go_wp2_with fail
    refine (count_wrong HWB.out (OwnE.src Fo_17.out)).mono ?_
    rintro e w18 ⟨rfl, hB⟩
    have HB19 := Hd.mk (ch4 HB17.out hB)
    have Fo_19 := Hd.mk (Fo_17.out.below hB)
    have Fb23_19 := Hd.mk (Fb23_17.out.below hB)
    clear HB17 Fo_17 Fb23_17
    clear hB
    have z0 := cells_cell Fb23_19.out 0
    have z1 := cells_cell Fb23_19.out 1
    have e0 := fun W => eqv_w28 0 0 0 0 W
    have gd := guard28
    go_wp2_with fail
    refine (awake_any _).mono ?_
    rintro e w20 ⟨rfl, hB⟩
    have HB21 := Hd.mk (ch4 HB19.out hB)
    have Fo_21 := Hd.mk (Fo_19.out.below hB)
    have Fb23_21 := Hd.mk (Fb23_19.out.below hB)
    clear HB19 Fo_19 Fb23_19
    clear hB z0 z1 e0
    go_wp2_with fail
    go_ret
    exact ⟨rfl, HB21.out⟩
  · obtain ⟨nn, hnn⟩ : ∃ k, max n 1099511627777 = k := ⟨_, rfl⟩
    have hnn0 : 1099511627776 < nn := by omega
    have HWB : Hd (wrE T nn H = 2) := ⟨wr_bad (by have := HL50.out; omega) (by rw [ahead_big hnn0]; rfl)⟩
    have hw2 : decide ((128 : Int) ≤ (how : Int)) = true := decide_eq_true (by omega)
    go_wp2_with fail
    refine (next_wrong HWB.out (OwnE.src Fo_11.out)).mono ?_
    rintro e w12 ⟨rfl, hB⟩
    have HB13 := Hd.mk (ch4 HB11.out hB)
    have Fo_13 := Hd.mk (Fo_11.out.below hB)
    clear HB11 Fo_11
    clear hB
    go_wp2_with fail
    obtain ⟨A14, hW⟩ : ∃ W, (w12.alloc (.cells #[.int .i64 0, .int .i64 0] 28)) = W := ⟨_, rfl⟩
    have hX : Below w12.heap.size w12 A14 := by rw [← hW]; exact bl_alloc (Below.refl _ _)
    have hF : BoxF A14 w12.heap.size (.cells #[.int .i64 0, .int .i64 0] 28 (0, 0)) := by rw [← hW]; exact World.alloc_heap_new _ _
    have HZA14 : Hd (A14.heap.size = w12.heap.size + 1) := ⟨by rw [← hW]; simp⟩
    rw [hW]
    clear hW
    have HB15 := Hd.mk (ch4 HB13.out hX)
    have Fo_15 := Hd.mk (Fo_13.out.below hX)
    clear HB13 Fo_13
    clear hX
    have FB15 := Hd.mk hF
    clear hF
    refine (plan_wrong HWB.out (OwnE.src Fo_15.out)).mono ?_
    rintro e w16 ⟨v26, rfl, hO, hB⟩
    have HB17 := Hd.mk (ch4 HB15.out hB)
    have Fo_17 := Hd.mk (Fo_15.out.below hB)
    have Fb23_17 := Hd.mk (FB15.out.below hB)
    clear HB15 Fo_15 FB15
    obtain ⟨a26, c26, rfl⟩ := hO.shape
    clear hB hO
    go_wp2_with fail
    refine (count_wrong HWB.out (OwnE.src Fo_17.out)).mono ?_
    rintro e w18 ⟨rfl, hB⟩
    have HB19 := Hd.mk (ch4 HB17.out hB)
    have Fo_19 := Hd.mk (Fo_17.out.below hB)
    have Fb23_19 := Hd.mk (Fb23_17.out.below hB)
    clear HB17 Fo_17 Fb23_17
    clear hB
    have z0 := cells_cell Fb23_19.out 0
    have z1 := cells_cell Fb23_19.out 1
    have e0 := fun W => eqv_w28 0 0 0 0 W
    have gd := guard28
    go_wp2_with fail
    refine (awake_any _).mono ?_
    rintro e w20 ⟨rfl, hB⟩
    have HB21 := Hd.mk (ch4 HB19.out hB)
    have Fo_21 := Hd.mk (Fo_19.out.below hB)
    have Fb23_21 := Hd.mk (Fb23_19.out.below hB)
    clear HB19 Fo_19 Fb23_19
    clear hB z0 z1 e0
    go_wp2_with fail
    go_ret
    exact ⟨rfl, HB21.out⟩
  · obtain ⟨nn, hnn⟩ : ∃ k, min n (-1) = k := ⟨_, rfl⟩
    have hnn0 : nn < 0 := by omega
    have HWB : Hd (wrE T A nn = 2) := ⟨wr_bad (by have := HL50.out; omega) (by rw [hor_neg hnn0, Bool.and_false]; rfl)⟩
    have hw2 : decide ((128 : Int) ≤ (how : Int)) = false := decide_eq_false (by omega)
    go_wp2_with fail
    refine (next_wrong HWB.out (OwnE.src Fo_11.out)).mono ?_
    rintro e w12 ⟨rfl, hB⟩
    have HB13 := Hd.mk (ch4 HB11.out hB)
    have Fo_13 := Hd.mk (Fo_11.out.below hB)
    clear HB11 Fo_11
    clear hB
    go_wp2_with fail
    obtain ⟨A14, hW⟩ : ∃ W, (w12.alloc (.cells #[.int .i64 0, .int .i64 0] 28)) = W := ⟨_, rfl⟩
    have hX : Below w12.heap.size w12 A14 := by rw [← hW]; exact bl_alloc (Below.refl _ _)
    have hF : BoxF A14 w12.heap.size (.cells #[.int .i64 0, .int .i64 0] 28 (0, 0)) := by rw [← hW]; exact World.alloc_heap_new _ _
    have HZA14 : Hd (A14.heap.size = w12.heap.size + 1) := ⟨by rw [← hW]; simp⟩
    rw [hW]
    clear hW
    have HB15 := Hd.mk (ch4 HB13.out hX)
    have Fo_15 := Hd.mk (Fo_13.out.below hX)
    clear HB13 Fo_13
    clear hX
    have FB15 := Hd.mk hF
    clear hF
    refine (plan_wrong HWB.out (OwnE.src Fo_15.out)).mono ?_
    rintro e w16 ⟨v26, rfl, hO, hB⟩
    have HB17 := Hd.mk (ch4 HB15.out hB)
    have Fo_17 := Hd.mk (Fo_15.out.below hB)
    have Fb23_17 := Hd.mk (FB15.out.below hB)
    clear HB15 Fo_15 FB15
    obtain ⟨a26, c26, rfl⟩ := hO.shape
    clear hB hO
    go_wp2_with fail
    refine (count_wrong HWB.out (OwnE.src Fo_17.out)).mono ?_
    rintro e w18 ⟨rfl, hB⟩
    have HB19 := Hd.mk (ch4 HB17.out hB)
    have Fo_19 := Hd.mk (Fo_17.out.below hB)
    have Fb23_19 := Hd.mk (Fb23_17.out.below hB)
    clear HB17 Fo_17 Fb23_17
    clear hB
    have z0 := cells_cell Fb23_19.out 0
    have z1 := cells_cell Fb23_19.out 1
    have e0 := fun W => eqv_w28 0 0 0 0 W
    have gd := guard28
    go_wp2_with fail
    refine (awake_any _).mono ?_
    rintro e w20 ⟨rfl, hB⟩
    have HB21 := Hd.mk (ch4 HB19.out hB)
    have Fo_21 := Hd.mk (Fo_19.out.below hB)
    have Fb23_21 := Hd.mk (Fb23_19.out.below hB)
    clear HB19 Fo_19 Fb23_19
    clear hB z0 z1 e0
    go_wp2_with fail
    go_ret
    exact ⟨rfl, HB21.out⟩
  · obtain ⟨nn, hnn⟩ : ∃ k, max n 281474976710658 = k := ⟨_, rfl⟩
    have hnn0 : 281474976710657 < nn := by omega
    have HWB : Hd (wrE T A nn = 2) := ⟨wr_bad (by have := HL50.out; omega) (by rw [hor_big hnn0, Bool.and_false]; rfl)⟩
    have hw2 : decide ((128 : Int) ≤ (how : Int)) = true := decide_eq_true (by omega)
    go_wp2_with fail
    refine (next_wrong HWB.out (OwnE.src Fo_11.out)).mono ?_
    rintro e w12 ⟨rfl, hB⟩
    have HB13 := Hd.mk (ch4 HB11.out hB)
    have Fo_13 := Hd.mk (Fo_11.out.below hB)
    clear HB11 Fo_11
    clear hB
    go_wp2_with fail
    obtain ⟨A14, hW⟩ : ∃ W, (w12.alloc (.cells #[.int .i64 0, .int .i64 0] 28)) = W := ⟨_, rfl⟩
    have hX : Below w12.heap.size w12 A14 := by rw [← hW]; exact bl_alloc (Below.refl _ _)
    have hF : BoxF A14 w12.heap.size (.cells #[.int .i64 0, .int .i64 0] 28 (0, 0)) := by rw [← hW]; exact World.alloc_heap_new _ _
    have HZA14 : Hd (A14.heap.size = w12.heap.size + 1) := ⟨by rw [← hW]; simp⟩
    rw [hW]
    clear hW
    have HB15 := Hd.mk (ch4 HB13.out hX)
    have Fo_15 := Hd.mk (Fo_13.out.below hX)
    clear HB13 Fo_13
    clear hX
    have FB15 := Hd.mk hF
    clear hF
    refine (plan_wrong HWB.out (OwnE.src Fo_15.out)).mono ?_
    rintro e w16 ⟨v26, rfl, hO, hB⟩
    have HB17 := Hd.mk (ch4 HB15.out hB)
    have Fo_17 := Hd.mk (Fo_15.out.below hB)
    have Fb23_17 := Hd.mk (FB15.out.below hB)
    clear HB15 Fo_15 FB15
    obtain ⟨a26, c26, rfl⟩ := hO.shape
    clear hB hO
    go_wp2_with fail
    refine (count_wrong HWB.out (OwnE.src Fo_17.out)).mono ?_
    rintro e w18 ⟨rfl, hB⟩
    have HB19 := Hd.mk (ch4 HB17.out hB)
    have Fo_19 := Hd.mk (Fo_17.out.below hB)
    have Fb23_19 := Hd.mk (Fb23_17.out.below hB)
    clear HB17 Fo_17 Fb23_17
    clear hB
    have z0 := cells_cell Fb23_19.out 0
    have z1 := cells_cell Fb23_19.out 1
    have e0 := fun W => eqv_w28 0 0 0 0 W
    have gd := guard28
    go_wp2_with fail
    refine (awake_any _).mono ?_
    rintro e w20 ⟨rfl, hB⟩
    have HB21 := Hd.mk (ch4 HB19.out hB)
    have Fo_21 := Hd.mk (Fo_19.out.below hB)
    have Fb23_21 := Hd.mk (Fb23_19.out.below hB)
    clear HB19 Fo_19 Fb23_19
    clear hB z0 z1 e0
    go_wp2_with fail
    go_ret
    exact ⟨rfl, HB21.out⟩
end Go.Proofs.Ytlblpmadehikgaa
