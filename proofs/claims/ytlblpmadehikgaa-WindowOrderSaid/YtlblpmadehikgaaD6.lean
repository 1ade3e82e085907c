/- The law WindowOrder: its walk. -/
import Derived.Test.YtlblpmadehikgaaE3
import Derived.Deep.DeepCutAuto
namespace Go.Proofs.Ytlblpmadehikgaa
open Go.RowKit Go.Shelf
set_option linter.unusedVariables false

theorem plan_of {l : List Int} {ah h : Int} {X : List (Int × Int)} (hz : wrE l ah h = 0) (hx : winsV ah h l = X) {v : Value} {w : World} (hs : SrcI w v l) : Calls Try.prog 17 #[v, .int .i64 ah, .int .i64 h] w fun e w' =>
    ∃ v', e = .returned (.tuple #[v', .int .i64 0]) ∧ OwnC w' w.heap.size 28 v' X ∧ Below w.heap.size w w' := plan_at hz hx hs

set_option maxRecDepth 100000 in
set_option maxHeartbeats 8000000 in
theorem order_law (lv : Value) (ls : List Int) (ah hz by_ tw : Nat) (w : World) (hl : SrcE e64 w lv ls) (hlb : ∀ x ∈ ls, 0 ≤ x ∧ x < 18446744073709551616) (ha : ah < 18446744073709551616) (hh : hz < 18446744073709551616) (hby : by_ ≤ 255) (htw : tw ≤ 255) :
    Calls Try.prog 5 #[lv, .int .u64 (ah : Int), .int .u64 (hz : Int), .int .u8 (by_ : Int), .int .u8 (tw : Int)] w fun e w' => e = .returned (.bool true) ∧ Below w.heap.size w w' := by
  have FL := Hd.mk hl
  have HLB := Hd.mk hlb
  clear hl hlb
  go_enter Try.func5, Try.ntmps5
  go_wp2_with fail
  refine (times_any _ ls _ FL.out HLB.out).mono ?_
  rintro e w1 ⟨v1, rfl, hO, hB⟩
  have HB2 := Hd.mk hB
  have Fl_2 := Hd.mk (FL.out.below hB)
  clear FL
  have FO := Hd.mk (AppI.lower hO (Nat.le_refl _))
  have HL50 := Hd.mk (times_len ls)
  have HWRH := Hd.mk (wr_good ls ah hz)
  have HTR := Hd.mk (times_right ls)
  clear hB hO
  clear Fl_2
  generalize timesV ls = T at *
  go_wp2_with fail
  refine (ahead_of ah ha _).mono ?_
  rintro e w3 ⟨rfl, hB⟩
  have HB4 := Hd.mk (ch4 HB2.out hB)
  have Fo_4 := Hd.mk (FO.out.below hB)
  clear HB2 FO
  clear hB
  go_wp2_with fail
  refine (hor_of hz hh _).mono ?_
  rintro e w5 ⟨rfl, hB⟩
  have HB6 := Hd.mk (ch4 HB4.out hB)
  have Fo_6 := Hd.mk (Fo_4.out.below hB)
  clear HB4 Fo_4
  clear hB
  obtain ⟨hA0, hA1⟩ := ahead_le (ahead_right ah)
  have HAR := Hd.mk (ahead_right ah)
  obtain ⟨hH0, hH1⟩ := hor_iff.1 (hor_right hz)
  have HHRH := Hd.mk (hor_right hz)
  generalize horV hz = H at *
  generalize aheadV ah = A at *
  obtain ⟨a1, c1, rfl⟩ := SrcE.shape (OwnE.src Fo_6.out)
  go_wp2_with fail
  have hTl : T.length ≤ 50 := HL50.out
  have hc1 := (SrcI.cap (OwnE.src Fo_6.out)).2
  have hc2 := hc1.2
  have hc3 : (T.length : Int) ≤ (c1 : Int) := by omega
  clear hc1
  go_loopw [14, 34] (fun v i W => ∃ k : Nat, k ≤ T.length ∧ i = .int .i64 k ∧ AppI W w5.heap.size v (rotV T by_ k) ∧ Below w5.heap.size w5 W) (fun _ i _ => T.length - (intOf i).toNat)
  case atStart => exact ⟨0, by omega, rfl, OwnE.nil _ _ _ _, Below.refl _ _⟩
  case round =>
    obtain ⟨k, hk, rfl, hO, hB⟩ := hrel
    have HO := Hd.mk hO
    have HB := Hd.mk hB
    clear hO
    by_cases hlt : k < T.length
    · obtain ⟨p, hp⟩ : ∃ p, (k + by_) % T.length = p := ⟨_, rfl⟩
      have hpl : p < T.length := by rw [← hp]; exact Nat.mod_lt _ (by omega)
      have hpr : ((k : Int) + (by_ : Int)) % (T.length : Int) = (p : Int) := by rw [← hp]; rfl
      have hrt : rotV T by_ (k + 1) = rotV T by_ k ++ [T[p]] := by rw [rotV_succ, hp, List.getD_eq_getElem?_getD, List.getElem?_eq_getElem hpl]; rfl
      obtain ⟨b, off, rfl, _, hx⟩ := SrcI.at ((OwnE.src Fo_6.out).below hB) p hpl
      obtain ⟨x, hX⟩ : ∃ x, T[p] = x := ⟨_, rfl⟩
      rw [hX] at hx hrt
      have HRT := Hd.mk hrt
      have HLT := Hd.mk hlt
      have k0 : (0 : Int) ≤ (k : Int) := by omega
      have k1 : (k : Int) < (T.length : Int) := by omega
      have p0 : (0 : Int) ≤ (p : Int) := by omega
      have p1 : (p : Int) < (T.length : Int) := by omega
      have n1 : (1 : Int) ≤ (T.length : Int) := by omega
      have wb : IntKind.i64.wrap (by_ : Int) = (by_ : Int) := IntWalk.i64_in _ ⟨by omega, by omega⟩
      obtain ⟨v', w2, hr, ho2, hB2, -⟩ := push_i x HO.out HB.out HB.out.size (by rw [rotV_len]; omega)
      have HO2 := Hd.mk ho2
      have HB2 := Hd.mk hB2
      clear hX hrt hp hpl ho2 hB2 hB
      go_wp2_with (at_builtin; refine wpList_append_run rfl _ _ _ rfl rfl rfl hr ?_; clear hr)
      go_roundw
      case rel => exact ⟨k + 1, HLT.out, by go_num, by rw [HRT.out]; exact HO2.out, HB2.out⟩
      case measure => have := HLT.out; simp [intOf] <;> omega
    · obtain rfl : k = T.length := by omega
      clear hB hlt hk
      obtain ⟨j, hj⟩ : ∃ j, min (tw % 8) T.length = j := ⟨_, rfl⟩
      have hj1 : j ≤ T.length := by omega
      have hj7 : j ≤ 7 := by omega
      have hji : min (((tw % 8 : Nat)) : Int) (T.length : Int) = (j : Int) := by omega
      have hji2 : min ((tw : Int) % 8) (T.length : Int) = (j : Int) := by omega
      have j0 : (0 : Int) ≤ (j : Int) := by omega
      have j1 : (j : Int) ≤ (T.length : Int) := by omega
      have j2 : (j : Int) ≤ (c1 : Int) := by omega
      have wt : IntKind.i64.wrap ((tw : Int) % 8) = (tw : Int) % 8 := IntWalk.i64_in _ ⟨by omega, by omega⟩
      have HU : Hd (∀ t, t ∈ rotV T by_ T.length ++ T.take j ↔ t ∈ T) := ⟨fun t => by
        rw [List.mem_append, rotV_mem]
        exact ⟨fun h => h.elim id List.mem_of_mem_take, .inl⟩⟩
      have HUL : Hd ((rotV T by_ T.length ++ T.take j).length ≤ 57) := ⟨by rw [List.length_append, rotV_len, List.length_take]; omega⟩
      obtain ⟨v', w2, hr, ho2, hg2⟩ := append_i HO.out HB.out.size (SrcI.takeA ((OwnE.src Fo_6.out).below HB.out) j hj1) (by rw [rotV_len, List.length_take]; omega)
      have HO2 := Hd.mk (OwnE.src ho2)
      have HB2 := Hd.mk (OwnE.grown HO.out HB.out HB.out.size hg2)
      obtain ⟨U, hU⟩ : ∃ U, rotV T by_ T.length ++ T.take j = U := ⟨_, rfl⟩
      rw [hU] at HU HUL HO2
      clear hU ho2 hg2 hj
      have HUT : Hd (∀ t ∈ U, timeB t = true) := ⟨fun t ht => HTR.out t ((HU.out t).1 ht)⟩
      have HWU : Hd (wrE U A H = 0) := ⟨by rw [wrE, if_neg (by have := HUL.out; omega), if_pos]; rw [HAR.out, HHRH.out, List.all_eq_true.2 HUT.out]; rfl⟩
      obtain ⟨X, hX⟩ : ∃ X, winsV A H T = X := ⟨_, rfl⟩
      have HX := Hd.mk hX
      have HY : Hd (winsV A H U = X) := ⟨by rw [winsV_set hA0 HTR.out HU.out]; exact hX⟩
      have HXL : Hd (X.length ≤ 50) := ⟨by rw [← hX]; exact Nat.le_trans (WX.of hA0 HTR.out).len HL50.out⟩
      have HK := Hd.mk (nx_all HWU.out)
      have HE : Hd (nxE A H U = 6 ∧ X = [] ∨ nxE A H U = 0 ∧ 0 < X.length) := ⟨by
        rw [nxE, if_pos HWU.out, HY.out]
        cases X with
        | nil => left; exact ⟨by rw [if_pos rfl], rfl⟩
        | cons p X' => right; exact ⟨by rw [if_neg (by simp)], by simp⟩⟩
      clear hX
      go_wp2_with (at_builtin; refine wpList_append_run rfl _ _ _ rfl rfl rfl hr ?_; clear hr)
      have HB7 := Hd.mk (ch4 HB6.out HB2.out)
      have Fo_7 := Hd.mk (Fo_6.out.below HB2.out)
      clear HB6 Fo_6
      refine (plan_at HWRH.out HX.out (OwnE.src Fo_7.out)).mono ?_
      rintro e w8 ⟨v16, rfl, hO, hB⟩
      have FNx8 := Hd.mk (hO.src)
      have HB9 := Hd.mk (ch4 HB7.out hB)
      have Fo_9 := Hd.mk (Fo_7.out.below hB)
      have Fu_9 := Hd.mk (HO2.out.below hB)
      clear HB7 Fo_7 HO2
      clear hB hO
      obtain ⟨ax, cx, rfl⟩ := FNx8.out.shape
      go_wp2_with fail
      refine (plan_at HWU.out HY.out Fu_9.out).mono ?_
      rintro e w10 ⟨v18, rfl, hO, hB⟩
      have FNy10 := Hd.mk (hO.src)
      have HB11 := Hd.mk (ch4 HB9.out hB)
      have Fo_11 := Hd.mk (Fo_9.out.below hB)
      have Fu_11 := Hd.mk (Fu_9.out.below hB)
      have Fx_11 := Hd.mk (FNx8.out.below hB)
      clear HB9 Fo_9 Fu_9 FNx8
      clear hB hO
      go_wp2_with fail
      refine (next_any _ U A H _ Fu_11.out).mono ?_
      rintro e w12 ⟨v21, rfl, hO, hB⟩
      have FNin12 := Hd.mk (hO.src)
      have HB13 := Hd.mk (ch4 HB11.out hB)
      have Fo_13 := Hd.mk (Fo_11.out.below hB)
      have Fu_13 := Hd.mk (Fu_11.out.below hB)
      have Fx_13 := Hd.mk (Fx_11.out.below hB)
      have Fy_13 := Hd.mk (FNy10.out.below hB)
      clear HB11 Fo_11 Fu_11 Fx_11 FNy10
      clear hB hO
      have hKK := HK.out
      have hEE := HE.out
      generalize (nxW A H U).1 = x at *
      generalize (nxW A H U).2 = m at *
      generalize nxI A H U = I at *
      generalize nxE A H U = E at *
      clear HK HE
      obtain ⟨au, cu, hvu⟩ := Fu_13.out.shape
      subst hvu
      obtain ⟨ai, ci, hvi⟩ := FNin12.out.shape
      subst hvi
      have hXl := HXL.out
      have hUl := HUL.out
      rcases hKK with ⟨rfl, hI, -⟩ | ⟨rfl, hxU, hxH, hm, hxm, hI, hleast, hIe⟩
      · have hX0 : X.length = 0 := by rcases hEE with ⟨-, h⟩ | ⟨h, -⟩; · rw [h]; rfl
                                      · cases h
        have hdx : decide ((0 : Int) < (X.length : Int)) = false := decide_eq_false (by omega)
        have hdx2 : decide (0 < X.length) = false := decide_eq_false (by omega)
        have HSRT : Hd (I.Pairwise (· ≤ ·)) := ⟨by rw [hI]; exact List.Pairwise.nil⟩
        have HIL : Hd (I.length = 0) := ⟨by rw [hI]; rfl⟩
        have HILL : Hd (I.length ≤ 57) := ⟨by rw [hI]; simp⟩
        clear hI hX0 hEE
        go_wp2_with fail
        obtain ⟨A14, hW⟩ : ∃ W, (w12.alloc (.cells #[.int .i64 x, .int .i64 m] 28)) = W := ⟨_, rfl⟩
        have hX : Below w12.heap.size w12 A14 := by rw [← hW]; exact bl_alloc (Below.refl _ _)
        have hF : BoxF A14 w12.heap.size (.cells #[.int .i64 x, .int .i64 m] 28 (0, 0)) := by rw [← hW]; exact World.alloc_heap_new _ _
        have HZA14 : Hd (A14.heap.size = w12.heap.size + 1) := ⟨by rw [← hW]; simp⟩
        rw [hW]
        clear hW
        have HB15 := Hd.mk (ch4 HB13.out hX)
        have Fo_15 := Hd.mk (Fo_13.out.below hX)
        have Fu_15 := Hd.mk (Fu_13.out.below hX)
        have Fx_15 := Hd.mk (Fx_13.out.below hX)
        have Fy_15 := Hd.mk (Fy_13.out.below hX)
        have Fin_15 := Hd.mk (FNin12.out.below hX)
        clear HB13 Fo_13 Fu_13 Fx_13 Fy_13 FNin12
        clear hX
        have FB15 := Hd.mk hF
        clear hF
        refine (equalW_at (b := true) (decide_eq_true rfl) Fx_15.out Fy_15.out).mono ?_
        rintro e w16 ⟨rfl, hB⟩
        have HB17 := Hd.mk (ch4 HB15.out hB)
        have Fo_17 := Hd.mk (Fo_15.out.below hB)
        have Fu_17 := Hd.mk (Fu_15.out.below hB)
        have Fx_17 := Hd.mk (Fx_15.out.below hB)
        have Fy_17 := Hd.mk (Fy_15.out.below hB)
        have Fin_17 := Hd.mk (Fin_15.out.below hB)
        have Fb20_17 := Hd.mk (FB15.out.below hB)
        clear HB15 Fo_15 Fu_15 Fx_15 Fy_15 Fin_15 FB15
        clear hB
        go_wp2_with fail
        refine (sorted_any _ I _ Fin_17.out HSRT.out (by have := HILL.out; omega)).mono ?_
        rintro e w18 ⟨rfl, hB⟩
        have HB19 := Hd.mk (ch4 HB17.out hB)
        have Fo_19 := Hd.mk (Fo_17.out.below hB)
        have Fu_19 := Hd.mk (Fu_17.out.below hB)
        have Fx_19 := Hd.mk (Fx_17.out.below hB)
        have Fy_19 := Hd.mk (Fy_17.out.below hB)
        have Fin_19 := Hd.mk (Fin_17.out.below hB)
        have Fb20_19 := Hd.mk (Fb20_17.out.below hB)
        clear HB17 Fo_17 Fu_17 Fx_17 Fy_17 Fin_17 Fb20_17
        clear hB
        go_wp2_with fail
        clear Fx_19 Fy_19
        clear hdx hdx2
        go_loopw [23, 108] (fun c i W => ∃ k : Nat, k ≤ U.length ∧ c = .int .i64 0 ∧ i = .int .i64 k ∧ Below w18.heap.size w18 W) (fun _ i _ => U.length - (intOf i).toNat)
        case atStart => exact ⟨0, by omega, rfl, rfl, Below.refl _ _⟩
        case round =>
          obtain ⟨k, hk, rfl, rfl, hB⟩ := hrel
          by_cases hlt : k < U.length
          · obtain ⟨bu, ou, rfl, hbu, hx⟩ := SrcI.at (Fu_19.out.below hB) k hlt
            have hmem := List.getElem_mem hlt
            obtain ⟨t, ht⟩ : ∃ t, U[k] = t := ⟨_, rfl⟩
            rw [ht] at hx hmem
            have HGD : Hd (U.getD k 0 = t) := ⟨by rw [List.getD_eq_getElem?_getD, List.getElem?_eq_getElem hlt, Option.getD_some, ht]⟩
            have HLT := Hd.mk hlt
            have HM := Hd.mk hmem
            have HB := Hd.mk hB
            have HF := Hd.mk (Fb20_19.out.below hB)
            have k0 : (0 : Int) ≤ (k : Int) := by omega
            have k1 : (k : Int) < (U.length : Int) := by omega
            clear hbu ht hmem
            clear hB hlt
            go_wp2_with fail
            go_roundw
            case rel => exact ⟨k + 1, HLT.out, rfl, by go_num, HB.out⟩
            case measure => have := HLT.out; simp [intOf] <;> omega
          · obtain rfl : k = U.length := by omega
            have HBR := Hd.mk hB
            clear hB hlt hk
            have he : ((0 : Int) == (I.length : Int)) = true := by rw [HIL.out]; rfl
            have HB20 := Hd.mk (ch4 HB19.out HBR.out)
            have Fo_20 := Hd.mk (Fo_19.out.below HBR.out)
            have Fu_20 := Hd.mk (Fu_19.out.below HBR.out)
            have Fin_20 := Hd.mk (Fin_19.out.below HBR.out)
            have Fb20_20 := Hd.mk (Fb20_19.out.below HBR.out)
            clear HB19 Fo_19 Fu_19 Fin_19 Fb20_19
            go_wp2_with fail
            refine (awake_any _).mono ?_
            rintro e w21 ⟨rfl, hB⟩
            have HB22 := Hd.mk (ch4 HB20.out hB)
            have Fo_22 := Hd.mk (Fo_20.out.below hB)
            have Fu_22 := Hd.mk (Fu_20.out.below hB)
            have Fin_22 := Hd.mk (Fin_20.out.below hB)
            have Fb20_22 := Hd.mk (Fb20_20.out.below hB)
            clear HB20 Fo_20 Fu_20 Fin_20 Fb20_20
            clear hB
            go_wp2_with fail
            go_ret
            exact ⟨rfl, HB22.out⟩
      · have hX0 : 0 < X.length := by rcases hEE with ⟨h, -⟩ | ⟨-, h⟩; · cases h
                                      · exact h
        have hdx : decide ((0 : Int) < (X.length : Int)) = true := decide_eq_true (by omega)
        have hdx2 : decide (0 < X.length) = true := decide_eq_true (by omega)
        have hmH : m ≤ H := by omega
        obtain ⟨x0, x1⟩ := time_iff.1 (HUT.out x hxU)
        have HSRT : Hd (I.Pairwise (· ≤ ·)) := ⟨by rw [hIe]; exact inL_sorted _ _ _⟩
        have HILL : Hd (I.length ≤ 57) := ⟨by rw [hIe]; exact Nat.le_trans (inL_len _ _ _) HUL.out⟩
        have HIE := Hd.mk hIe
        have HLE := Hd.mk hleast
        have HIN : Hd (∀ t ∈ U, inW x m t = decide (t < m)) := ⟨fun t ht => by rw [inW_of x0 x1 hxm (by omega) (HUT.out t ht), decide_eq_true (hleast t ht), Bool.true_and]⟩
        clear hI hX0 hEE hxU hm hleast hIe hmH x0 x1
        go_wp2_with fail
        obtain ⟨A14, hW⟩ : ∃ W, (w12.alloc (.cells #[.int .i64 x, .int .i64 m] 28)) = W := ⟨_, rfl⟩
        have hX : Below w12.heap.size w12 A14 := by rw [← hW]; exact bl_alloc (Below.refl _ _)
        have hF : BoxF A14 w12.heap.size (.cells #[.int .i64 x, .int .i64 m] 28 (0, 0)) := by rw [← hW]; exact World.alloc_heap_new _ _
        have HZA14 : Hd (A14.heap.size = w12.heap.size + 1) := ⟨by rw [← hW]; simp⟩
        rw [hW]
        clear hW
        have HB15 := Hd.mk (ch4 HB13.out hX)
        have Fo_15 := Hd.mk (Fo_13.out.below hX)
        have Fu_15 := Hd.mk (Fu_13.out.below hX)
        have Fx_15 := Hd.mk (Fx_13.out.below hX)
        have Fy_15 := Hd.mk (Fy_13.out.below hX)
        have Fin_15 := Hd.mk (FNin12.out.below hX)
        clear HB13 Fo_13 Fu_13 Fx_13 Fy_13 FNin12
        clear hX
        have FB15 := Hd.mk hF
        clear hF
        refine (equalW_at (b := true) (decide_eq_true rfl) Fx_15.out Fy_15.out).mono ?_
        rintro e w16 ⟨rfl, hB⟩
        have HB17 := Hd.mk (ch4 HB15.out hB)
        have Fo_17 := Hd.mk (Fo_15.out.below hB)
        have Fu_17 := Hd.mk (Fu_15.out.below hB)
        have Fx_17 := Hd.mk (Fx_15.out.below hB)
        have Fy_17 := Hd.mk (Fy_15.out.below hB)
        have Fin_17 := Hd.mk (Fin_15.out.below hB)
        have Fb20_17 := Hd.mk (FB15.out.below hB)
        clear HB15 Fo_15 Fu_15 Fx_15 Fy_15 Fin_15 FB15
        clear hB
        go_wp2_with fail
        refine (sorted_any _ I _ Fin_17.out HSRT.out (by have := HILL.out; omega)).mono ?_
        rintro e w18 ⟨rfl, hB⟩
        have HB19 := Hd.mk (ch4 HB17.out hB)
        have Fo_19 := Hd.mk (Fo_17.out.below hB)
        have Fu_19 := Hd.mk (Fu_17.out.below hB)
        have Fx_19 := Hd.mk (Fx_17.out.below hB)
        have Fy_19 := Hd.mk (Fy_17.out.below hB)
        have Fin_19 := Hd.mk (Fin_17.out.below hB)
        have Fb20_19 := Hd.mk (Fb20_17.out.below hB)
        clear HB17 Fo_17 Fu_17 Fx_17 Fy_17 Fin_17 Fb20_17
        clear hB
        go_wp2_with fail
        clear Fx_19 Fy_19
        clear hdx hdx2
        go_loopw [23, 108] (fun c i W => ∃ k : Nat, k ≤ U.length ∧ c = .int .i64 ((inL U m k).length : Nat) ∧ i = .int .i64 k ∧ Below w18.heap.size w18 W) (fun _ i _ => U.length - (intOf i).toNat)
        case atStart => exact ⟨0, by omega, rfl, rfl, Below.refl _ _⟩
        case round =>
          obtain ⟨k, hk, rfl, rfl, hB⟩ := hrel
          by_cases hlt : k < U.length
          · obtain ⟨bu, ou, rfl, hbu, hx⟩ := SrcI.at (Fu_19.out.below hB) k hlt
            have hmem := List.getElem_mem hlt
            obtain ⟨t, ht⟩ : ∃ t, U[k] = t := ⟨_, rfl⟩
            rw [ht] at hx hmem
            have HGD : Hd (U.getD k 0 = t) := ⟨by rw [List.getD_eq_getElem?_getD, List.getElem?_eq_getElem hlt, Option.getD_some, ht]⟩
            have HLT := Hd.mk hlt
            have HM := Hd.mk hmem
            have HB := Hd.mk hB
            have HF := Hd.mk (Fb20_19.out.below hB)
            have k0 : (0 : Int) ≤ (k : Int) := by omega
            have k1 : (k : Int) < (U.length : Int) := by omega
            clear hbu ht hmem
            have c0 := cells_cell HF.out 0
            have c1' := cells_cell HF.out 1
            have hcl := inL_len U m k
            by_cases htm : t < m
            · have HW := Hd.mk ((HIN.out t HM.out).trans (decide_eq_true htm))
              obtain ⟨hq1, hq2⟩ := inL_at hlt (by rw [HGD.out]; exact htm : U.getD k 0 < m)
              have HNX : Hd ((inL U m (k + 1)).length = (inL U m k).length + 1) := ⟨by rw [inL_yes (by rw [HGD.out]; exact htm)]; simp⟩
              obtain ⟨q, hq⟩ : ∃ q, (inL U m k).length = q := ⟨_, rfl⟩
              have hIe := HIE.out
              have hql : q < I.length := by rw [← hq, hIe]; exact hq1
              have hqv : I[q] = (k : Int) := by subst hq; subst hIe; exact hq2
              obtain ⟨bi, oi, rfl, -, hy⟩ := SrcI.at (Fin_19.out.below hB) q hql
              have hbi := World.block_lt_of_cell? _ _ hy
              rw [hqv] at hy
              rw [hq] at HNX hcl ⊢
              have HQ := Hd.mk hq
              have hdq : decide ((I.length : Int) ≤ (q : Int)) = false := decide_eq_false (by omega)
              have hdq2 : decide (I.length ≤ q) = false := decide_eq_false (by omega)
              have q0 : (0 : Int) ≤ (q : Int) := by omega
              have q1 : (q : Int) < (I.length : Int) := by omega
              have hkk : ((k : Int) != (k : Int)) = false := by simp
              have HY2 := Hd.mk hy
              have HBI := Hd.mk hbi
              clear hq hq1 hq2 hqv hy hbi hB hlt hIe hql
              go_wp2_with fail
              refine (in_at HW.out _).mono ?_
              rintro e wi ⟨rfl, hBi⟩
              have hy := (hBi.cell (p := ⟨bi, oi + q, none⟩) HBI.out).trans HY2.out
              have HB3 := Hd.mk (HB.out.trans (hBi.mono HB.out.size))
              clear c0 c1' hBi
              go_wp2_with fail
              go_roundw
              case rel => exact ⟨k + 1, HLT.out, by rw [HNX.out]; go_num, by go_num, HB3.out⟩
              case measure => have := HLT.out; simp [intOf] <;> omega
            · have HW := Hd.mk ((HIN.out t HM.out).trans (decide_eq_false htm))
              have HNX : Hd ((inL U m (k + 1)).length = (inL U m k).length) := ⟨by rw [inL_no (by rw [HGD.out]; exact htm)]⟩
              clear hB hlt
              go_wp2_with fail
              refine (in_at HW.out _).mono ?_
              rintro e wi ⟨rfl, hBi⟩
              have HB3 := Hd.mk (HB.out.trans (hBi.mono HB.out.size))
              clear c0 c1' hBi
              go_wp2_with fail
              go_roundw
              case rel => exact ⟨k + 1, HLT.out, by rw [HNX.out], by go_num, HB3.out⟩
              case measure => have := HLT.out; simp [intOf] <;> omega
          · obtain rfl : k = U.length := by omega
            have HBR := Hd.mk hB
            clear hB hlt hk
            have he : (((inL U m U.length).length : Int) == (I.length : Int)) = true := by rw [HIE.out]; simp
            have HB20 := Hd.mk (ch4 HB19.out HBR.out)
            have Fo_20 := Hd.mk (Fo_19.out.below HBR.out)
            have Fu_20 := Hd.mk (Fu_19.out.below HBR.out)
            have Fin_20 := Hd.mk (Fin_19.out.below HBR.out)
            have Fb20_20 := Hd.mk (Fb20_19.out.below HBR.out)
            clear HB19 Fo_19 Fu_19 Fin_19 Fb20_19
            go_wp2_with fail
            refine (awake_any _).mono ?_
            rintro e w21 ⟨rfl, hB⟩
            have HB22 := Hd.mk (ch4 HB20.out hB)
            have Fo_22 := Hd.mk (Fo_20.out.below hB)
            have Fu_22 := Hd.mk (Fu_20.out.below hB)
            have Fin_22 := Hd.mk (Fin_20.out.below hB)
            have Fb20_22 := Hd.mk (Fb20_20.out.below hB)
            clear HB20 Fo_20 Fu_20 Fin_20 Fb20_20
            clear hB
            go_wp2_with fail
            go_ret
            exact ⟨rfl, HB22.out⟩
end Go.Proofs.Ytlblpmadehikgaa
