/- The law PicksAll: its walk. -/
import Derived.Test.YtmahjgffadbdcaaE4
namespace Go.Proofs.Ytmahjgffadbdcaa
open Go.RowKit
set_option linter.unusedVariables false

/-- Ready processes and an order of them. -/
structure RM (R M : List Int) : Prop where
  asc : asc R
  ok : OkO R
  perm : M.Perm R
theorem RM.right {R M : List Int} (h : RM R M) : rightB R = true := by rw [rightB, Bool.and_eq_true]; exact ⟨decide_eq_true h.ok, decide_eq_true h.asc⟩
theorem RM.okM {R M : List Int} (h : RM R M) : okO M = true := decide_eq_true (h.ok.perm h.perm)
theorem RM.len {R M : List Int} (h : RM R M) : M.length = R.length := h.perm.length_eq
theorem RM.of (x : BitVec 16) (bs : List Int) : RM (readyV x) (mixedV x bs) := ⟨ready_asc x, ready_ok x, mixed_perm x bs⟩
theorem RM.need {R M : List Int} (h : RM R M) : ordV R.length R (M.take (needV M)) = (M, (M.take (needV M)).length, 0) := by
  obtain ⟨h1, h2⟩ := ord_iff R.length M R (needV M) h.asc h.perm rfl
  have h3 := ord_taken R.length R (M.take (needV M)) rfl
  have h4 := need_lt M
  have h5 := h.len
  refine Prod.ext (h1.2 (Nat.le_refl _)) (Prod.ext (h3.trans ?_) h2)
  show min (M.take (needV M)).length (R.length - 1) = (M.take (needV M)).length
  rw [List.length_take]; omega
theorem RM.less {R M : List Int} (h : RM R M) {k : Nat} (hk : k < needV M) : (ordV R.length R (M.take k)).1 ≠ M := fun e => by
  have := (ord_iff R.length M R k h.asc h.perm rfl).1.1 e; omega

theorem take_less {M N : List Int} {k : Nat} (h : M.take k = N) : M.take (N.length - 1) = N.take (N.length - 1) := by
  have hl : N.length ≤ k := by rw [← h, List.length_take]; omega
  have := congrArg (List.take (N.length - 1)) h
  rwa [List.take_take, Nat.min_eq_left (by omega)] at this
theorem SrcI.takeA {w : World} {a : Option Addr} {n c : Nat} {l : List Int} (h : SrcI w (.slice a n c) l) (m : Nat) (hm : m ≤ l.length) : SrcI w (.slice a m c) (l.take m) := by
  cases a with
  | some ad => exact h.take m hm
  | none =>
    rcases h with ⟨hv, rfl⟩ | ⟨x, c', hv, _⟩
    · simp at hv hm; obtain ⟨_, rfl⟩ := hv; subst hm; exact SrcI.nil _
    · simp at hv

set_option maxRecDepth 100000 in
set_option maxHeartbeats 8000000 in
theorem all_law (x : BitVec 16) (lv av : Value) (bs cs : List Int) (w : World) (hl : SrcE e8 w lv bs) (hb : ∀ b ∈ bs, 0 ≤ b ∧ b ≤ 255) (ha : SrcI w av cs) :
    Calls Try.prog 3 #[h16 x, lv, av] w fun e w' => e = .returned (.bool true) ∧ Below w.heap.size w w' := by
  have FL := Hd.mk hl
  have FA := Hd.mk ha
  have HBS := Hd.mk hb
  have HRM := Hd.mk (RM.of x bs)
  clear hl ha hb
  obtain ⟨a0, c0, rfl⟩ := FA.out.shape
  go_enter Try.func3, Try.ntmps3
  go_wp2_with fail
  refine (ready_any x _).mono ?_
  rintro e w1 ⟨v1, rfl, hO, hB⟩
  have FNr1 := Hd.mk (hO.src)
  have HB2 := Hd.mk hB
  have Fl_2 := Hd.mk (FL.out.below hB)
  have Fa_2 := Hd.mk (FA.out.below hB)
  clear FL FA
  clear hB hO
  obtain ⟨a1, c1, rfl⟩ := FNr1.out.shape
  go_wp2_with fail
  refine (mixed_any x _ bs _ Fl_2.out HBS.out).mono ?_
  rintro e w3 ⟨v2, rfl, hO, hB⟩
  have FNm3 := Hd.mk (hO.src)
  have HB4 := Hd.mk (ch4 HB2.out hB)
  have Fl_4 := Hd.mk (Fl_2.out.below hB)
  have Fa_4 := Hd.mk (Fa_2.out.below hB)
  have Fr_4 := Hd.mk (FNr1.out.below hB)
  clear HB2 Fl_2 Fa_2 FNr1
  clear hB hO
  clear Fl_4
  generalize readyV x = R at *
  generalize mixedV x bs = M at *
  have hlen := HRM.out.ok.len
  go_wp2_with fail
  obtain ⟨N, hN⟩ : ∃ N, M.take (needV M) = N := ⟨_, rfl⟩
  have HN := Hd.mk hN
  clear hN
  refine (for_at (o := N) HRM.out.okM HN.out FNm3.out).mono ?_
  rintro e w5 ⟨v9, rfl, hO, hB⟩
  have FNn5 := Hd.mk (hO.src)
  have HB6 := Hd.mk (ch4 HB4.out hB)
  have Fa_6 := Hd.mk (Fa_4.out.below hB)
  have Fr_6 := Hd.mk (Fr_4.out.below hB)
  have Fm_6 := Hd.mk (FNm3.out.below hB)
  clear HB4 Fa_4 Fr_4 FNm3
  clear hB hO
  obtain ⟨a9, c9, rfl⟩ := FNn5.out.shape
  have hNl : N.length ≤ 16 := by rw [← HN.out, List.length_take]; have := HRM.out.len; omega
  go_wp2_with fail
  refine (order_at (o := M) (t := N.length) (u := 0) HRM.out.right (by omega) (by rw [← HN.out]; exact HRM.out.need) Fr_6.out FNn5.out).mono ?_
  rintro e w7 ⟨v11, rfl, hO, hB⟩
  have FNg7 := Hd.mk (hO.src)
  have HB8 := Hd.mk (ch4 HB6.out hB)
  have Fa_8 := Hd.mk (Fa_6.out.below hB)
  have Fr_8 := Hd.mk (Fr_6.out.below hB)
  have Fm_8 := Hd.mk (Fm_6.out.below hB)
  have Fn_8 := Hd.mk (FNn5.out.below hB)
  clear HB6 Fa_6 Fr_6 Fm_6 FNn5
  clear hB hO
  go_wp2_with fail
  refine (equal_at (b := true) (by simp) FNg7.out Fm_8.out).mono ?_
  rintro e w9 ⟨rfl, hB⟩
  have HB10 := Hd.mk (ch4 HB8.out hB)
  have Fa_10 := Hd.mk (Fa_8.out.below hB)
  have Fr_10 := Hd.mk (Fr_8.out.below hB)
  have Fm_10 := Hd.mk (Fm_8.out.below hB)
  have Fn_10 := Hd.mk (Fn_8.out.below hB)
  have Fg_10 := Hd.mk (FNg7.out.below hB)
  clear HB8 Fa_8 Fr_8 Fm_8 Fn_8 FNg7
  clear hB
  clear Fg_10
  by_cases hN0 : 0 < N.length
  · obtain ⟨b9, f9, rfl, _, _⟩ := Fn_10.out.at 0 hN0
    have hc9 := Fn_10.out.cap.2.1
    have i9 : (N.length : Int) - 1 ≤ (c9 : Int) := by omega
    have i8 : (0 : Int) ≤ (N.length : Int) - 1 := by omega
    have FN1 := Hd.mk (Fn_10.out.take (N.length - 1) (by omega))
    go_wp2_with fail
    obtain ⟨r, hr⟩ : ∃ r, ordV R.length R (N.take (N.length - 1)) = r := ⟨_, rfl⟩
    obtain ⟨o2, t2, u2⟩ := r
    have HR2 := Hd.mk hr
    have HNE : Hd (o2 ≠ M) := ⟨by
      have h1 := HRM.out.less (k := N.length - 1) (by rw [← HN.out, List.length_take] at hN0 ⊢; omega)
      have h2 := take_less HN.out
      rw [h2, hr] at h1; exact h1⟩
    clear hr
    refine (order_at HRM.out.right (by rw [List.length_take]; omega) HR2.out Fr_10.out FN1.out).mono ?_
    rintro e w11 ⟨v15, rfl, hO, hB⟩
    have FNq11 := Hd.mk (hO.src)
    have HB12 := Hd.mk (ch4 HB10.out hB)
    have Fa_12 := Hd.mk (Fa_10.out.below hB)
    have Fr_12 := Hd.mk (Fr_10.out.below hB)
    have Fm_12 := Hd.mk (Fm_10.out.below hB)
    have Fn_12 := Hd.mk (Fn_10.out.below hB)
    have Fn1_12 := Hd.mk (FN1.out.below hB)
    clear HB10 Fa_10 Fr_10 Fm_10 Fn_10 FN1
    clear hB hO
    clear Fn1_12
    go_wp2_with fail
    refine (equal_at (b := false) (decide_eq_false HNE.out) FNq11.out Fm_12.out).mono ?_
    rintro e w13 ⟨rfl, hB⟩
    have HB14 := Hd.mk (ch4 HB12.out hB)
    have Fa_14 := Hd.mk (Fa_12.out.below hB)
    have Fr_14 := Hd.mk (Fr_12.out.below hB)
    have Fm_14 := Hd.mk (Fm_12.out.below hB)
    have Fn_14 := Hd.mk (Fn_12.out.below hB)
    have Fq_14 := Hd.mk (FNq11.out.below hB)
    clear HB12 Fa_12 Fr_12 Fm_12 Fn_12 FNq11
    clear hB
    clear Fq_14
    obtain ⟨m, hm⟩ : ∃ m, min cs.length 60 = m := ⟨_, rfl⟩
    have hcap := Fa_14.out.cap
    have hmin : min (cs.length : Int) 60 = (m : Int) := by omega
    have hm0 : (m : Int) ≤ (c0 : Int) := by have := hcap.2.1; omega
    have HM := Hd.mk hm
    have hmc : m ≤ 60 := by omega
    have FT := Hd.mk (Fa_14.out.takeA m (by omega))
    clear Fa_14
    have HTL : Hd ((cs.take m).length = m) := ⟨by rw [List.length_take]; omega⟩
    clear hm
    go_wp2_with fail
    obtain ⟨r, hr⟩ : ∃ r, ordV R.length R (cs.take m) = r := ⟨_, rfl⟩
    obtain ⟨o3, t3, u3⟩ := r
    have HR3 := Hd.mk hr
    have ht3 : t3 = min m (R.length - 1) := by have h1 := ord_taken R.length R (cs.take m) rfl; rw [hr, HTL.out] at h1; exact h1
    have hu3 : u3 ≤ t3 := by have h1 := ord_wrong R.length R (cs.take m); rw [hr] at h1; exact h1
    have HP3 : Hd (o3.Perm R) := ⟨by have h1 := ord_perm R.length R (cs.take m) rfl; rw [hr] at h1; exact h1⟩
    clear hr
    refine (order_at HRM.out.right (by rw [HTL.out]; omega) HR3.out Fr_14.out FT.out).mono ?_
    rintro e wa ⟨v3, rfl, hO3, hBa⟩
    have hmx : max ((R.length : Int) - 1) 0 = ((R.length - 1 : Nat) : Int) := by omega
    have hmn : min (m : Int) ((R.length - 1 : Nat) : Int) = (t3 : Int) := by omega
    have hO3s := hO3.src.shape
    obtain ⟨a3, c3, rfl⟩ := hO3s
    have HO3 := Hd.mk hO3
    have HBa := Hd.mk hBa
    have HT3 := Hd.mk ht3
    clear hO3 hBa ht3
    go_wp2_with fail
    refine (sort_own HO3.out HRM.out.asc HP3.out (by have := HP3.out.length_eq; omega) HBa.out.size).mono ?_
    rintro e wb ⟨⟨xv, rfl⟩, hO4, hBb⟩
    have hX := HBa.out.trans hBb
    have FsQ := Hd.mk hO4.src
    clear FT Fn_14 Fm_14
    have HB15 := Hd.mk (ch4 HB14.out hX)
    have Fr_15 := Hd.mk (Fr_14.out.below hX)
    clear HB14 Fr_14
    clear hX hO4 hBb
    go_wp2_with fail
    refine (equal_at (b := true) (by simp) FsQ.out Fr_15.out).mono ?_
    rintro e w16 ⟨rfl, hB⟩
    have HB17 := Hd.mk (ch4 HB15.out hB)
    have Fr_17 := Hd.mk (Fr_15.out.below hB)
    have Fs_17 := Hd.mk (FsQ.out.below hB)
    clear HB15 Fr_15 FsQ
    clear hB
    go_wp2_with fail
    refine (awake_any _).mono ?_
    rintro e w18 ⟨rfl, hB⟩
    have HB19 := Hd.mk (ch4 HB17.out hB)
    have Fr_19 := Hd.mk (Fr_17.out.below hB)
    have Fs_19 := Hd.mk (Fs_17.out.below hB)
    clear HB17 Fr_17 Fs_17
    clear hB
    go_wp2_with fail
    go_ret
    exact ⟨rfl, HB19.out⟩
  · obtain ⟨m, hm⟩ : ∃ m, min cs.length 60 = m := ⟨_, rfl⟩
    have hcap := Fa_10.out.cap
    have hmin : min (cs.length : Int) 60 = (m : Int) := by omega
    have hm0 : (m : Int) ≤ (c0 : Int) := by have := hcap.2.1; omega
    have HM := Hd.mk hm
    have hmc : m ≤ 60 := by omega
    have FT := Hd.mk (Fa_10.out.takeA m (by omega))
    clear Fa_10
    have HTL : Hd ((cs.take m).length = m) := ⟨by rw [List.length_take]; omega⟩
    clear hm
    go_wp2_with fail
    obtain ⟨r, hr⟩ : ∃ r, ordV R.length R (cs.take m) = r := ⟨_, rfl⟩
    obtain ⟨o3, t3, u3⟩ := r
    have HR3 := Hd.mk hr
    have ht3 : t3 = min m (R.length - 1) := by have h1 := ord_taken R.length R (cs.take m) rfl; rw [hr, HTL.out] at h1; exact h1
    have hu3 : u3 ≤ t3 := by have h1 := ord_wrong R.length R (cs.take m); rw [hr] at h1; exact h1
    have HP3 : Hd (o3.Perm R) := ⟨by have h1 := ord_perm R.length R (cs.take m) rfl; rw [hr] at h1; exact h1⟩
    clear hr
    refine (order_at HRM.out.right (by rw [HTL.out]; omega) HR3.out Fr_10.out FT.out).mono ?_
    rintro e wa ⟨v3, rfl, hO3, hBa⟩
    have hmx : max ((R.length : Int) - 1) 0 = ((R.length - 1 : Nat) : Int) := by omega
    have hmn : min (m : Int) ((R.length - 1 : Nat) : Int) = (t3 : Int) := by omega
    have hO3s := hO3.src.shape
    obtain ⟨a3, c3, rfl⟩ := hO3s
    have HO3 := Hd.mk hO3
    have HBa := Hd.mk hBa
    have HT3 := Hd.mk ht3
    clear hO3 hBa ht3
    go_wp2_with fail
    refine (sort_own HO3.out HRM.out.asc HP3.out (by have := HP3.out.length_eq; omega) HBa.out.size).mono ?_
    rintro e wb ⟨⟨xv, rfl⟩, hO4, hBb⟩
    have hX := HBa.out.trans hBb
    have FsQ := Hd.mk hO4.src
    clear FT Fn_10 Fm_10
    have HB11 := Hd.mk (ch4 HB10.out hX)
    have Fr_11 := Hd.mk (Fr_10.out.below hX)
    clear HB10 Fr_10
    clear hX hO4 hBb
    go_wp2_with fail
    refine (equal_at (b := true) (by simp) FsQ.out Fr_11.out).mono ?_
    rintro e w12 ⟨rfl, hB⟩
    have HB13 := Hd.mk (ch4 HB11.out hB)
    have Fr_13 := Hd.mk (Fr_11.out.below hB)
    have Fs_13 := Hd.mk (FsQ.out.below hB)
    clear HB11 Fr_11 FsQ
    clear hB
    go_wp2_with fail
    refine (awake_any _).mono ?_
    rintro e w14 ⟨rfl, hB⟩
    have HB15 := Hd.mk (ch4 HB13.out hB)
    have Fr_15 := Hd.mk (Fr_13.out.below hB)
    have Fs_15 := Hd.mk (Fs_13.out.below hB)
    clear HB13 Fr_13 Fs_13
    clear hB
    go_wp2_with fail
    go_ret
    exact ⟨rfl, HB15.out⟩
end Go.Proofs.Ytmahjgffadbdcaa
