/- The law PicksBehind: its walk. -/
import Derived.Test.YtmahjgffadbdcaaF1
namespace Go.Proofs.Ytmahjgffadbdcaa
open Go.RowKit
set_option linter.unusedVariables false

set_option maxRecDepth 100000 in
set_option maxHeartbeats 400000 in
theorem clone_app (v : Value) (l : List Int) (w : World) (h : SrcI w v l) (hl : l.length ≤ 1000000) : Calls Try.prog 21 #[v] w fun e w' => ∃ v', e = .returned v' ∧ AppI w' w.heap.size v' l ∧ Below w.heap.size w w' := by
  have hsm := h.small
  obtain ⟨a, c, rfl⟩ := h.shape
  cases a with
  | none =>
    have hcs : l = [] ∧ c = 0 := by
      rcases h with ⟨hv, rfl⟩ | ⟨b, off, hv, _⟩
      · simp at hv; exact ⟨rfl, hv⟩
      · simp at hv
    obtain ⟨rfl, rfl⟩ := hcs
    clear h
    have heq : ∀ W : World, (binOp .eql 24 (.slice none 0 0) (.slice none 0 0)).run Try.prog W = .ok (.bool true) W := fun W => run_eql_nil_slice W 24 3 none 0 0 0 0 Try.underlying24
    go_enter Try.func21, Try.ntmps21
    go_wp2_with fail
    go_ret
    exact ⟨_, rfl, OwnE.nil _ _ _ _, Below.refl _ _⟩
  | some ad =>
    have hB := (Below.refl w.heap.size w).alloc (Nat.le_refl _) (.cells #[] 3)
    obtain ⟨v', w', hr, ho, hg⟩ := append_i (OwnE.made _ w w.heap.size 3 (Nat.le_refl _)) (by simp) (h.below hB) (by simpa using hl)
    have HO : Hd (AppI w' w.heap.size v' l) := ⟨by simpa [AppI] using ho⟩
    have HB := Hd.mk (OwnE.grown (OwnE.made (fun n : Int => Value.int .i64 n) w w.heap.size 3 (Nat.le_refl _)) hB (by simp) hg)
    clear h ho hg hB
    have heq : ∀ W : World, (binOp .eql 24 (.slice (some ad) l.length c) (.slice none 0 0)).run Try.prog W = .ok (.bool false) W := fun W => Lib.run_eql_slice_nil W 24 3 (some ad) _ _ 0 0 Try.underlying24
    go_enter Try.func21, Try.ntmps21
    go_wp2_with (at_builtin; refine wpList_append_run rfl _ _ _ rfl rfl rfl hr ?_; clear hr)
    go_ret
    exact ⟨_, rfl, HO.out, HB.out⟩

theorem own_picks {R A : List Int} (hR : asc R) (hp : A.Perm R) : ordV R.length R A = (A, min A.length (R.length - 1), 0) := by
  obtain ⟨h1, h2⟩ := ord_iff R.length A R A.length hR hp rfl
  rw [List.take_length] at h1 h2
  refine Prod.ext (h1.2 (by have := need_lt A; omega)) (Prod.ext (ord_taken R.length R A rfl) h2)

set_option maxRecDepth 100000 in
set_option maxHeartbeats 8000000 in
theorem behind_law (x : BitVec 16) (lv mv : Value) (ls ms : List Int) (w : World) (hl : SrcI w lv ls) (hm : SrcI w mv ms) :
    Calls Try.prog 7 #[h16 x, lv, mv] w fun e w' => e = .returned (.bool true) ∧ Below w.heap.size w w' := by
  have FL := Hd.mk hl
  have FM := Hd.mk hm
  obtain ⟨a0, c0, rfl⟩ := hl.shape
  obtain ⟨a2, c2, rfl⟩ := hm.shape
  clear hl hm
  go_enter Try.func7, Try.ntmps7
  go_wp2_with fail
  refine (ready_any x _).mono ?_
  rintro e w1 ⟨v7, rfl, hO, hB⟩
  have FNr1 := Hd.mk (hO.src)
  have HB2 := Hd.mk hB
  have Fl_2 := Hd.mk (FL.out.below hB)
  have Fm_2 := Hd.mk (FM.out.below hB)
  clear FL FM
  clear hB hO
  have HRR := Hd.mk (ready_right x)
  have HRA := Hd.mk (ready_asc x)
  have HRO := Hd.mk (ready_ok x)
  generalize readyV x = R at *
  have hlen := HRO.out.len
  obtain ⟨a1, c1, rfl⟩ := FNr1.out.shape
  obtain ⟨n, hn⟩ : ∃ m, min ls.length 40 = m := ⟨_, rfl⟩
  have hcap := Fl_2.out.cap
  have hmin : min (ls.length : Int) 40 = (n : Int) := by omega
  have hn0 : (n : Int) ≤ (c0 : Int) := by have := hcap.2.1; omega
  obtain ⟨m, hm⟩ : ∃ m, min ms.length 20 = m := ⟨_, rfl⟩
  have hcap2 := Fm_2.out.cap
  have hmin2 : min (ms.length : Int) 20 = (m : Int) := by omega
  have hm0 : (m : Int) ≤ (c2 : Int) := by have := hcap2.2.1; omega
  have FT := Hd.mk (Fl_2.out.takeA n (by omega))
  have FU := Hd.mk (Fm_2.out.takeA m (by omega))
  have HTL : Hd ((ls.take n).length = n) := ⟨by rw [List.length_take]; omega⟩
  have HUL : Hd ((ms.take m).length = m) := ⟨by rw [List.length_take]; omega⟩
  have hn40 : n ≤ 40 := by omega
  have hm20 : m ≤ 20 := by omega
  have nn0 : (0 : Int) ≤ (n : Int) := by omega
  have mm0 : (0 : Int) ≤ (m : Int) := by omega
  have hn1 : n ≤ c0 := by omega
  have hm1 : m ≤ c2 := by omega
  clear Fl_2 Fm_2
  clear hn hm hcap hcap2
  go_wp2_with fail
  go_region
  go_wp2_with fail
  obtain ⟨r, hr⟩ : ∃ r, ordV R.length R (ls.take n) = r := ⟨_, rfl⟩
  obtain ⟨oa, na, wa⟩ := r
  have hna : na = min n (R.length - 1) := by have h1 := ord_taken R.length R (ls.take n) rfl; rw [hr, HTL.out] at h1; exact h1
  have hwa : wa ≤ na := by have h1 := ord_wrong R.length R (ls.take n); rw [hr] at h1; exact h1
  have HPA : Hd (oa.Perm R) := ⟨by have h1 := ord_perm R.length R (ls.take n) rfl; rw [hr] at h1; exact h1⟩
  have HTT : Hd (ordV R.length R ((ls.take n).take na) = (oa, na, wa)) := ⟨by have h1 := ord_taken_take (n := R.length) (S := R) (ps := ls.take n) rfl; rw [hr] at h1; exact h1⟩
  have HBH : Hd (na = R.length - 1 → ordV R.length R ((ls.take n).take na ++ ms.take m) = (oa, na, wa)) := ⟨fun h => by have h1 := ord_behind (n := R.length) (S := R) (ps := ls.take n) (more := ms.take m) rfl (by rw [hr]; exact h); rw [hr] at h1; exact h1⟩
  have HR0 := Hd.mk hr
  have hmx : max ((R.length : Int) - 1) 0 = ((R.length - 1 : Nat) : Int) := by omega
  have hnan : na ≤ n := by omega
  have hnai : (na : Int) ≤ (c0 : Int) := by omega
  have hnal : na ≤ R.length - 1 := by omega
  have hna1 : na ≤ c0 := by omega
  have hna0 : (0 : Int) ≤ (na : Int) := by omega
  have HNA := Hd.mk hna
  clear hr hna
  obtain ⟨W2, hW2⟩ : ∃ W, w1.drew = W := ⟨_, rfl⟩
  have hX : Below w1.heap.size w1 W2 := by rw [← hW2]; exact below_drewN (Below.refl _ _) 1
  rw [hW2]
  clear hW2
  have HB3 := Hd.mk (ch4 HB2.out hX)
  have Fr_3 := Hd.mk (FNr1.out.below hX)
  have Ft_3 := Hd.mk (FT.out.below hX)
  have Fu_3 := Hd.mk (FU.out.below hX)
  clear HB2 FNr1 FT FU
  clear hX
  refine (order_at HRR.out (by rw [HTL.out]; omega) HR0.out Fr_3.out Ft_3.out).mono ?_
  rintro e w4 ⟨v8, rfl, hO, hB⟩
  have FNa4 := Hd.mk (hO.src)
  have HB5 := Hd.mk (ch4 HB3.out hB)
  have Fr_5 := Hd.mk (Fr_3.out.below hB)
  have Ft_5 := Hd.mk (Ft_3.out.below hB)
  have Fu_5 := Hd.mk (Fu_3.out.below hB)
  clear HB3 Fr_3 Ft_3 Fu_3
  clear hB hO
  have FV := Hd.mk (Ft_5.out.takeA na (by rw [HTL.out]; exact hnan))
  go_wp2_with fail
  refine (order_at HRR.out (by rw [List.length_take, HTL.out]; omega) HTT.out Fr_5.out FV.out).mono ?_
  rintro e w6 ⟨v12, rfl, hO, hB⟩
  have FNb6 := Hd.mk (hO.src)
  have HB7 := Hd.mk (ch4 HB5.out hB)
  have Fr_7 := Hd.mk (Fr_5.out.below hB)
  have Ft_7 := Hd.mk (Ft_5.out.below hB)
  have Fu_7 := Hd.mk (Fu_5.out.below hB)
  have Fa_7 := Hd.mk (FNa4.out.below hB)
  have Fv_7 := Hd.mk (FV.out.below hB)
  clear HB5 Fr_5 Ft_5 Fu_5 FNa4 FV
  clear hB hO
  clear Ft_7
  go_wp2_with fail
  refine (equal_at (b := true) (by simp) Fa_7.out FNb6.out).mono ?_
  rintro e w8 ⟨rfl, hB⟩
  have HB9 := Hd.mk (ch4 HB7.out hB)
  have Fr_9 := Hd.mk (Fr_7.out.below hB)
  have Fu_9 := Hd.mk (Fu_7.out.below hB)
  have Fa_9 := Hd.mk (Fa_7.out.below hB)
  have Fv_9 := Hd.mk (Fv_7.out.below hB)
  have Fb_9 := Hd.mk (FNb6.out.below hB)
  clear HB7 Fr_7 Fu_7 Fa_7 Fv_7 FNb6
  clear hB
  clear Fb_9
  by_cases hmax : na = R.length - 1
  · have HB2X := Hd.mk (HBH.out hmax)
    have hmi : (na : Int) = ((R.length - 1 : Nat) : Int) := by omega
    have hmd : decide (na = R.length - 1) = true := decide_eq_true hmax
    have HMAX := Hd.mk hmax
    have hmd2 : ((na : Int) == ((R.length - 1 : Nat) : Int)) = true := by rw [beq_iff_eq]; exact hmi
    clear hmax hmi
    go_wp2_with fail
    refine (clone_app _ _ _ Fv_9.out (by rw [List.length_take, HTL.out]; omega)).mono ?_
    rintro e wc ⟨vc, rfl, hO, hBc⟩
    obtain ⟨v6, w6, hrun, hO6, hg6⟩ := append_i hO hBc.size (Fu_9.out.below hBc) (by rw [List.length_take, HTL.out, HUL.out]; omega)
    have hX : Below w8.heap.size w8 w6 := hBc.grown hg6 hBc.size (fun k hk => (World.ownsRow.lt hO k hk).1)
    have FX := Hd.mk (OwnI.of hO6).src
    clear hO hBc hO6 hg6
    go_wp2_with (at_builtin; refine wpList_append_run rfl _ _ _ rfl rfl rfl hrun ?_; clear hrun)
    have HB10 := Hd.mk (ch4 HB9.out hX)
    have Fr_10 := Hd.mk (Fr_9.out.below hX)
    have Fu_10 := Hd.mk (Fu_9.out.below hX)
    have Fa_10 := Hd.mk (Fa_9.out.below hX)
    have Fv_10 := Hd.mk (Fv_9.out.below hX)
    clear HB9 Fr_9 Fu_9 Fa_9 Fv_9
    clear hX
    refine (order_at HRR.out (by rw [List.length_append, List.length_take, HTL.out, HUL.out]; omega) HB2X.out Fr_10.out FX.out).mono ?_
    rintro e w11 ⟨v16, rfl, hO, hB⟩
    have FNc11 := Hd.mk (hO.src)
    have HB12 := Hd.mk (ch4 HB10.out hB)
    have Fr_12 := Hd.mk (Fr_10.out.below hB)
    have Fu_12 := Hd.mk (Fu_10.out.below hB)
    have Fa_12 := Hd.mk (Fa_10.out.below hB)
    have Fv_12 := Hd.mk (Fv_10.out.below hB)
    have Fx_12 := Hd.mk (FX.out.below hB)
    clear HB10 Fr_10 Fu_10 Fa_10 Fv_10 FX
    clear hB hO
    clear Fx_12 Fv_12 Fu_12
    go_wp2_with fail
    refine (equal_at (b := true) (by simp) Fa_12.out FNc11.out).mono ?_
    rintro e w13 ⟨rfl, hB⟩
    have HB14 := Hd.mk (ch4 HB12.out hB)
    have Fr_14 := Hd.mk (Fr_12.out.below hB)
    have Fa_14 := Hd.mk (Fa_12.out.below hB)
    have Fc_14 := Hd.mk (FNc11.out.below hB)
    clear HB12 Fr_12 Fa_12 FNc11
    clear hB
    go_wp2_with fail
    refine (order_at HRR.out (by have := HPA.out.length_eq; omega) (own_picks HRA.out HPA.out) Fr_14.out Fa_14.out).mono ?_
    rintro e w15 ⟨v20, rfl, hO, hB⟩
    have FNd15 := Hd.mk (hO.src)
    have HB16 := Hd.mk (ch4 HB14.out hB)
    have Fr_16 := Hd.mk (Fr_14.out.below hB)
    have Fa_16 := Hd.mk (Fa_14.out.below hB)
    have Fc_16 := Hd.mk (Fc_14.out.below hB)
    clear HB14 Fr_14 Fa_14 Fc_14
    clear hB hO
    go_wp2_with fail
    refine (equal_at (b := true) (by simp) FNd15.out Fa_16.out).mono ?_
    rintro e w17 ⟨rfl, hB⟩
    have HB18 := Hd.mk (ch4 HB16.out hB)
    have Fr_18 := Hd.mk (Fr_16.out.below hB)
    have Fa_18 := Hd.mk (Fa_16.out.below hB)
    have Fc_18 := Hd.mk (Fc_16.out.below hB)
    have Fd_18 := Hd.mk (FNd15.out.below hB)
    clear HB16 Fr_16 Fa_16 Fc_16 FNd15
    clear hB
    go_wp2_with fail
    refine (awake_any _).mono ?_
    rintro e w19 ⟨rfl, hB⟩
    have HB20 := Hd.mk (ch4 HB18.out hB)
    have Fr_20 := Hd.mk (Fr_18.out.below hB)
    have Fa_20 := Hd.mk (Fa_18.out.below hB)
    have Fc_20 := Hd.mk (Fc_18.out.below hB)
    have Fd_20 := Hd.mk (Fd_18.out.below hB)
    clear HB18 Fr_18 Fa_18 Fc_18 Fd_18
    clear hB
    go_wp2_with fail
    go_ret
    exact ⟨rfl, HB20.out⟩
  · have hmi : ¬ (na : Int) = ((R.length - 1 : Nat) : Int) := by omega
    have hmd : decide (na = R.length - 1) = false := decide_eq_false hmax
    have hmd2 : ((na : Int) == ((R.length - 1 : Nat) : Int)) = false := by rw [beq_eq_false_iff_ne]; exact hmi
    clear hmax hmi
    go_wp2_with fail
    refine (order_at HRR.out (by have := HPA.out.length_eq; omega) (own_picks HRA.out HPA.out) Fr_9.out Fa_9.out).mono ?_
    rintro e w10 ⟨v20, rfl, hO, hB⟩
    have FNd10 := Hd.mk (hO.src)
    have HB11 := Hd.mk (ch4 HB9.out hB)
    have Fr_11 := Hd.mk (Fr_9.out.below hB)
    have Fu_11 := Hd.mk (Fu_9.out.below hB)
    have Fa_11 := Hd.mk (Fa_9.out.below hB)
    have Fv_11 := Hd.mk (Fv_9.out.below hB)
    clear HB9 Fr_9 Fu_9 Fa_9 Fv_9
    clear hB hO
    go_wp2_with fail
    refine (equal_at (b := true) (by simp) FNd10.out Fa_11.out).mono ?_
    rintro e w12 ⟨rfl, hB⟩
    have HB13 := Hd.mk (ch4 HB11.out hB)
    have Fr_13 := Hd.mk (Fr_11.out.below hB)
    have Fu_13 := Hd.mk (Fu_11.out.below hB)
    have Fa_13 := Hd.mk (Fa_11.out.below hB)
    have Fv_13 := Hd.mk (Fv_11.out.below hB)
    have Fd_13 := Hd.mk (FNd10.out.below hB)
    clear HB11 Fr_11 Fu_11 Fa_11 Fv_11 FNd10
    clear hB
    go_wp2_with fail
    refine (awake_any _).mono ?_
    rintro e w14 ⟨rfl, hB⟩
    have HB15 := Hd.mk (ch4 HB13.out hB)
    have Fr_15 := Hd.mk (Fr_13.out.below hB)
    have Fu_15 := Hd.mk (Fu_13.out.below hB)
    have Fa_15 := Hd.mk (Fa_13.out.below hB)
    have Fv_15 := Hd.mk (Fv_13.out.below hB)
    have Fd_15 := Hd.mk (Fd_13.out.below hB)
    clear HB13 Fr_13 Fu_13 Fa_13 Fv_13 Fd_13
    clear hB
    go_wp2_with fail
    go_ret
    exact ⟨rfl, HB15.out⟩
end Go.Proofs.Ytmahjgffadbdcaa
