/- The law PicksRanks: its walk. -/
import Derived.Test.YtmahjgffadbdcaaF2P
namespace Go.Proofs.Ytmahjgffadbdcaa
open Go.RowKit
set_option linter.unusedVariables false

theorem RM.nth {R A : List Int} (h : RM R A) : nthV R.length R (rankV A) = A := by
  exact nth_rank R.length A R h.asc h.perm h.len
theorem RM.ofNth {R A : List Int} (h : RM R A) {r : Nat} (hr : r < fac R.length) : RM R (nthV R.length R r) ∧ rankV (nthV R.length R r) = r := by
  obtain ⟨h1, h2⟩ := nth_spec R.length R h.asc rfl r hr
  exact ⟨⟨h.asc, h.ok, h1⟩, h2⟩
theorem nth_over2 {l : List Int} {a b : Nat} (hl : rightB l = true) (hr : fac l.length ≤ a + b) (hb : a + b ≤ 9223372036854775807) {v : Value} {w : World} (h : SrcI w v l) :
    Calls Try.prog 22 #[v, .int .i64 ((a : Int) + (b : Int))] w fun e w' => ∃ v', e = .returned (.tuple #[v', .int .i64 6]) ∧ OwnI w' w.heap.size v' [] ∧ Below w.heap.size w w' := by
  have := nth_over (r := a + b) hl hr hb h
  rw [Int.natCast_add] at this; exact this
theorem fac_bound {n : Nat} (h : n ≤ 16) : fac n ≤ 20922789888000 := by rw [← fac16]; exact fac_mono h

set_option maxRecDepth 100000 in
set_option maxHeartbeats 8000000 in
theorem ranks_law (x : BitVec 16) (kv lv : Value) (ks ls : List Int) (rk : Nat) (w : World) (hk : SrcE e8 w kv ks) (hkb : ∀ b ∈ ks, 0 ≤ b ∧ b ≤ 255) (hl : SrcE e8 w lv ls) (hlb : ∀ b ∈ ls, 0 ≤ b ∧ b ≤ 255) (hrk : rk < 18446744073709551616) :
    Calls Try.prog 10 #[h16 x, kv, lv, .int .u64 (rk : Int)] w fun e w' => e = .returned (.bool true) ∧ Below w.heap.size w w' := by
  have FK := Hd.mk hk
  have FL := Hd.mk hl
  have HKB := Hd.mk hkb
  have HLB := Hd.mk hlb
  have HA := Hd.mk (RM.of x ks)
  have HB := Hd.mk (RM.of x ls)
  have HRK := Hd.mk hrk
  clear hk hl hkb hlb hrk
  go_enter Try.func10, Try.ntmps10
  go_wp2_with fail
  refine (ready_any x _).mono ?_
  rintro e w1 ⟨v9, rfl, hO, hB⟩
  have FNr1 := Hd.mk (hO.src)
  have HB2 := Hd.mk hB
  have Fk_2 := Hd.mk (FK.out.below hB)
  have Fl_2 := Hd.mk (FL.out.below hB)
  clear FK FL
  clear hB hO
  go_wp2_with fail
  refine (mixed_any x _ ks _ Fk_2.out HKB.out).mono ?_
  rintro e w3 ⟨v10, rfl, hO, hB⟩
  have FNa3 := Hd.mk (hO.src)
  have HB4 := Hd.mk (ch4 HB2.out hB)
  have Fk_4 := Hd.mk (Fk_2.out.below hB)
  have Fl_4 := Hd.mk (Fl_2.out.below hB)
  have Fr_4 := Hd.mk (FNr1.out.below hB)
  clear HB2 Fk_2 Fl_2 FNr1
  clear hB hO
  clear Fk_4
  go_wp2_with fail
  refine (mixed_any x _ ls _ Fl_4.out HLB.out).mono ?_
  rintro e w5 ⟨v11, rfl, hO, hB⟩
  have FNb5 := Hd.mk (hO.src)
  have HB6 := Hd.mk (ch4 HB4.out hB)
  have Fl_6 := Hd.mk (Fl_4.out.below hB)
  have Fr_6 := Hd.mk (Fr_4.out.below hB)
  have Fa_6 := Hd.mk (FNa3.out.below hB)
  clear HB4 Fl_4 Fr_4 FNa3
  clear hB hO
  clear Fl_6
  generalize mixedV x ks = A at *
  generalize mixedV x ls = B at *
  generalize readyV x = R at *
  have hlen := HA.out.ok.len
  obtain ⟨a1, c1, rfl⟩ := Fr_6.out.shape
  obtain ⟨rx, hrx⟩ : ∃ n, rankV A = n := ⟨_, rfl⟩
  obtain ⟨ry, hry⟩ : ∃ n, rankV B = n := ⟨_, rfl⟩
  obtain ⟨F, hF⟩ : ∃ F, fac R.length = F := ⟨_, rfl⟩
  have hFb : F ≤ 20922789888000 := by rw [← hF]; exact fac_bound hlen
  have hF0 : 0 < F := by rw [← hF]; exact fac_pos _
  have hx1 : rx < F := by rw [← hrx, ← hF, ← HA.out.len]; exact rank_lt A
  have hy1 : ry < F := by rw [← hry, ← hF, ← HB.out.len]; exact rank_lt B
  have HLEX : Hd (rx < ry ↔ A < B) := ⟨by rw [← hrx, ← hry]; exact rank_lex A B (HA.out.perm.trans HB.out.perm.symm)⟩
  have HINJ : Hd (rx = ry ↔ A = B) := ⟨by rw [← hrx, ← hry]; exact ⟨rank_inj HA.out.asc HA.out.perm HB.out.perm, fun h => by rw [h]⟩⟩
  have HRX := Hd.mk hrx
  have HRY := Hd.mk hry
  have HF := Hd.mk hF
  clear hrx hry hF
  go_wp2_with fail
  refine (rank_at (r := rx) HA.out.okM HRX.out Fa_6.out).mono ?_
  rintro e w7 ⟨rfl, hB⟩
  have HB8 := Hd.mk (ch4 HB6.out hB)
  have Fr_8 := Hd.mk (Fr_6.out.below hB)
  have Fa_8 := Hd.mk (Fa_6.out.below hB)
  have Fb_8 := Hd.mk (FNb5.out.below hB)
  clear HB6 Fr_6 Fa_6 FNb5
  clear hB
  go_wp2_with fail
  refine (rank_at (r := ry) HB.out.okM HRY.out Fb_8.out).mono ?_
  rintro e w9 ⟨rfl, hB⟩
  have HB10 := Hd.mk (ch4 HB8.out hB)
  have Fr_10 := Hd.mk (Fr_8.out.below hB)
  have Fa_10 := Hd.mk (Fa_8.out.below hB)
  have Fb_10 := Hd.mk (Fb_8.out.below hB)
  clear HB8 Fr_8 Fa_8 Fb_8
  clear hB
  go_wp2_with fail
  refine (nth_at (o := A) (r := rx) HA.out.right (by rw [HF.out]; omega) (by omega) (by rw [← HRX.out]; exact HA.out.nth) Fr_10.out).mono ?_
  rintro e w11 ⟨v16, rfl, hO, hB⟩
  have FNp11 := Hd.mk (hO.src)
  have HB12 := Hd.mk (ch4 HB10.out hB)
  have Fr_12 := Hd.mk (Fr_10.out.below hB)
  have Fa_12 := Hd.mk (Fa_10.out.below hB)
  have Fb_12 := Hd.mk (Fb_10.out.below hB)
  clear HB10 Fr_10 Fa_10 Fb_10
  clear hB hO
  go_wp2_with fail
  go_loop [18, 57] (fun q i => ∃ k : Nat, k ≤ R.length ∧ i = .int .i64 k ∧ q = .int .i64 ((fac k : Nat) : Int)) (fun _ i => R.length - (intOf i).toNat)
  case atStart => exact ⟨0, by omega, rfl, rfl⟩
  case round =>
    obtain ⟨k, hk, rfl, rfl⟩ := hrel
    by_cases hlt : k < R.length
    · have hmul : ((fac k : Nat) : Int) * ((k : Int) + 1) = ((fac (k + 1) : Nat) : Int) := by
        rw [show fac (k + 1) = (k + 1) * fac k from rfl, Nat.mul_comm]; rfl
      have hb : fac (k + 1) ≤ 20922789888000 := fac_bound (by omega)
      have hb2 : fac k ≤ 20922789888000 := fac_bound (by omega)
      obtain ⟨f2, hf2⟩ : ∃ f2, fac (k + 1) = f2 := ⟨_, rfl⟩
      obtain ⟨f1, hf1⟩ : ∃ f1, fac k = f1 := ⟨_, rfl⟩
      rw [hf2] at hmul hb
      rw [hf1] at hmul hb2 ⊢
      have HF2 := Hd.mk hf2
      have k1 : (k : Int) ≤ 16 := by omega
      clear hf2 hf1
      go_wp2_with fail
      go_round
      case rel => exact ⟨k + 1, by omega, by go_num, by rw [HF2.out]⟩
      case measure => simp [intOf]; omega
    · obtain rfl : k = R.length := by omega
      rw [HF.out]
      obtain ⟨cv, hcv⟩ : ∃ c, cmpV A B = c := ⟨_, rfl⟩
      have hcl := cmp_lt A B
      rw [hcv] at hcl
      have HCV := Hd.mk hcv
      obtain ⟨lt, hlt2⟩ : ∃ b, decide (rx < ry) = b := ⟨_, rfl⟩
      obtain ⟨eq, heq2⟩ : ∃ b, decide (rx = ry) = b := ⟨_, rfl⟩
      have hl1 : decide ((rx : Int) < (ry : Int)) = lt := by rw [← hlt2, decide_eq_decide]; omega
      have hl2 : decide (cv < 0) = lt := by rw [← hlt2, decide_eq_decide, hcl, HLEX.out]
      have he1 : decide ((rx : Int) = (ry : Int)) = eq := by rw [← heq2, decide_eq_decide]; omega
      have he2 : ((rx : Int) == (ry : Int)) = eq := he1
      have HEQ : Hd (decide (A = B) = eq) := ⟨by rw [← heq2, decide_eq_decide, HINJ.out]⟩
      have hxi : (rx : Int) < (F : Int) := by omega
      have hxj : ¬ (F : Int) ≤ (rx : Int) := by omega
      clear hcv hcl
      go_wp2_with fail
      refine (equal_at (b := true) (by simp) FNp11.out Fa_12.out).mono ?_
      rintro e w13 ⟨rfl, hB⟩
      have HB14 := Hd.mk (ch4 HB12.out hB)
      have Fr_14 := Hd.mk (Fr_12.out.below hB)
      have Fa_14 := Hd.mk (Fa_12.out.below hB)
      have Fb_14 := Hd.mk (Fb_12.out.below hB)
      have Fp_14 := Hd.mk (FNp11.out.below hB)
      clear HB12 Fr_12 Fa_12 Fb_12 FNp11
      clear hB
      clear Fp_14
      go_wp2_with fail
      refine (comparel_any _ _ A B _ Fa_14.out Fb_14.out).mono ?_
      rintro e wc ⟨rfl, rfl⟩
      rw [HCV.out]
      go_wp2_with fail
      refine (equal_at (b := eq) HEQ.out Fa_14.out Fb_14.out).mono ?_
      rintro e w15 ⟨rfl, hB⟩
      have HB16 := Hd.mk (ch4 HB14.out hB)
      have Fr_16 := Hd.mk (Fr_14.out.below hB)
      have Fa_16 := Hd.mk (Fa_14.out.below hB)
      have Fb_16 := Hd.mk (Fb_14.out.below hB)
      clear HB14 Fr_14 Fa_14 Fb_14
      clear hB
      clear Fb_16
      obtain ⟨n, hn⟩ : ∃ n, rk % F = n := ⟨_, rfl⟩
      have hnF : n < F := by rw [← hn]; exact Nat.mod_lt _ hF0
      have hrm : (rk : Int) % (F : Int) = (n : Int) := by rw [← hn]; rfl
      have hrk := HRK.out
      have hrki : (rk : Int) ≤ 18446744073709551615 := by omega
      clear hn
      obtain ⟨Q, hQ⟩ : ∃ Q, nthV R.length R n = Q := ⟨_, rfl⟩
      have hqn := HA.out.ofNth (r := n) (by rw [HF.out]; exact hnF)
      rw [hQ] at hqn
      obtain ⟨hRQ, hrq⟩ := hqn
      have HQ := Hd.mk hQ
      have HRQ := Hd.mk hRQ
      have HRQN := Hd.mk hrq
      clear hQ hRQ hrq
      go_wp2_with fail
      refine (nth_at (o := Q) (r := n) HA.out.right (by rw [HF.out]; exact hnF) (by omega) HQ.out Fr_16.out).mono ?_
      rintro e w17 ⟨v21, rfl, hO, hB⟩
      have FNq17 := Hd.mk (hO.src)
      have HB18 := Hd.mk (ch4 HB16.out hB)
      have Fr_18 := Hd.mk (Fr_16.out.below hB)
      have Fa_18 := Hd.mk (Fa_16.out.below hB)
      clear HB16 Fr_16 Fa_16
      clear hB hO
      go_wp2_with fail
      refine (rank_at (r := n) HRQ.out.okM HRQN.out FNq17.out).mono ?_
      rintro e w19 ⟨rfl, hB⟩
      have HB20 := Hd.mk (ch4 HB18.out hB)
      have Fr_20 := Hd.mk (Fr_18.out.below hB)
      have Fa_20 := Hd.mk (Fa_18.out.below hB)
      have Fq_20 := Hd.mk (FNq17.out.below hB)
      clear HB18 Fr_18 Fa_18 FNq17
      clear hB
      clear Fq_20
      go_wp2_with fail
      refine (nth_over2 (a := F) (b := n) HA.out.right (by rw [HF.out]; omega) (by omega) Fr_20.out).mono ?_
      rintro e w21 ⟨v25, rfl, hO, hB⟩
      have FNz21 := Hd.mk (hO.src)
      have HB22 := Hd.mk (ch4 HB20.out hB)
      have Fr_22 := Hd.mk (Fr_20.out.below hB)
      have Fa_22 := Hd.mk (Fa_20.out.below hB)
      clear HB20 Fr_20 Fa_20
      clear hB hO
      obtain ⟨a25, c25, rfl⟩ := FNz21.out.shape
      clear FNz21 Fr_22
      go_wp2_with fail
      cases hnx : nextV A
      · have hlast : rx + 1 = F := by rw [← HRX.out, ← HF.out, ← HA.out.len]; exact next_none_rank HA.out.nd hnx
        have HNX := Hd.mk hnx
        clear hnx
        have hd : decide ((rx : Int) = (F : Int) - 1) = true := decide_eq_true (by omega)
        have hxe : (rx : Int) = (F : Int) - 1 := by omega
        refine (next_last HA.out.okM HNX.out Fa_22.out).mono ?_
        rintro e w23 ⟨v27, rfl, hO, hB⟩
        have FNn23 := Hd.mk (hO.src)
        have HB24 := Hd.mk (ch4 HB22.out hB)
        have Fa_24 := Hd.mk (Fa_22.out.below hB)
        clear HB22 Fa_22
        clear hB hO
        obtain ⟨a27, c27, rfl⟩ := FNn23.out.shape
        clear hxe
        clear FNn23
        go_wp2_with fail
        refine (awake_any _).mono ?_
        rintro e w25 ⟨rfl, hB⟩
        have HB26 := Hd.mk (ch4 HB24.out hB)
        have Fa_26 := Hd.mk (Fa_24.out.below hB)
        clear HB24 Fa_24
        clear hB
        go_wp2_with fail
        go_ret
        exact ⟨rfl, HB26.out⟩
      · rename_i U
        have hsp := (next_spec A HA.out.nd).2 U hnx
        have hRU : RM R U := ⟨HA.out.asc, HA.out.ok, hsp.1.trans HA.out.perm⟩
        have hrU : rankV U = rx + 1 := by rw [hsp.2, HRX.out]
        have hlt3 : rx + 1 < F := by rw [← hrU, ← HF.out, ← hRU.len]; exact rank_lt U
        have HNX := Hd.mk hnx
        have HRU := Hd.mk hRU
        have HRUN := Hd.mk hrU
        clear hnx hsp hRU hrU
        have hd : decide ((rx : Int) = (F : Int) - 1) = false := decide_eq_false (by omega)
        refine (next_at' (o := U) HA.out.okM HNX.out Fa_22.out).mono ?_
        rintro e w23 ⟨v27, rfl, hO, hB⟩
        have FNn23 := Hd.mk (hO.src)
        have HB24 := Hd.mk (ch4 HB22.out hB)
        have Fa_24 := Hd.mk (Fa_22.out.below hB)
        clear HB22 Fa_22
        clear hB hO
        go_wp2_with fail
        refine (rank_at (r := rx + 1) HRU.out.okM HRUN.out FNn23.out).mono ?_
        rintro e w25 ⟨rfl, hB⟩
        have HB26 := Hd.mk (ch4 HB24.out hB)
        have Fa_26 := Hd.mk (Fa_24.out.below hB)
        have Fn_26 := Hd.mk (FNn23.out.below hB)
        clear HB24 Fa_24 FNn23
        clear hB
        go_wp2_with fail
        refine (awake_any _).mono ?_
        rintro e w27 ⟨rfl, hB⟩
        have HB28 := Hd.mk (ch4 HB26.out hB)
        have Fa_28 := Hd.mk (Fa_26.out.below hB)
        have Fn_28 := Hd.mk (Fn_26.out.below hB)
        clear HB26 Fa_26 Fn_26
        clear hB
        go_wp2_with fail
        go_ret
        exact ⟨rfl, HB28.out⟩
end Go.Proofs.Ytmahjgffadbdcaa
