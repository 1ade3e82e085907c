/- The reference's Nth and Swaps. -/
import Derived.Test.YtmahjgffadbdcaaG3
namespace Go.Proofs.Ytmahjgffadbdcaa
open Go.RowKit
set_option linter.unusedVariables false

theorem fac20 {n : Nat} (h : n ≤ 20) : fac n ≤ 2432902008176640000 := by
  have : fac 20 = 2432902008176640000 := by decide
  rw [← this]; exact fac_mono h

set_option maxRecDepth 100000 in
set_option maxHeartbeats 4000000 in
theorem rnth_over (v : Value) (l : List Int) (r : Nat) (w : World) (h : SrcI w v l) (hl : l.length ≤ 20) (hr : fac l.length ≤ r) : Calls Try.prog 41 #[v, .int .i64 (r : Int)] w fun e w' =>
    e = .returned (.tuple #[.slice none 0 0, .bool false]) ∧ Below w.heap.size w w' := by
  obtain ⟨a, c, rfl⟩ := h.shape
  obtain ⟨F, hF⟩ : ∃ F, fac l.length = F := ⟨_, rfl⟩
  rw [hF] at hr
  have HF := Hd.mk hF
  have hri : (F : Int) ≤ (r : Int) := by omega
  clear h hF
  go_enter Try.func41, Try.ntmps41
  go_wp2_with fail
  refine (rfac_any l.length _ hl).mono ?_
  rintro e w1 ⟨rfl, rfl⟩
  rw [HF.out]
  go_wp2_with fail
  refine bodyPost_ret (results_tmp2 Try.results41 _ _ _) rfl ?_
  exact ⟨rfl, Below.refl _ _⟩

set_option maxRecDepth 100000 in
set_option maxHeartbeats 4000000 in
theorem rnth_any (v : Value) (l : List Int) (r : Nat) (w : World) (h : SrcI w v l) (hl : l.length ≤ 20) (hr : r < fac l.length) : Calls Try.prog 41 #[v, .int .i64 (r : Int)] w fun e w' =>
    ∃ v', e = .returned (.tuple #[v', .bool true]) ∧ OwnI w' w.heap.size v' (nthV l.length l r) ∧ Below w.heap.size w w' := by
  have H := Hd.mk h
  obtain ⟨a, c, rfl⟩ := h.shape
  obtain ⟨F, hF⟩ : ∃ F, fac l.length = F := ⟨_, rfl⟩
  have hFb := fac20 hl
  rw [hF] at hFb
  have HR := Hd.mk hr
  rw [hF] at hr
  have HF := Hd.mk hF
  have hri : (r : Int) < (F : Int) := by omega
  have hd1 : decide ((F : Int) ≤ (r : Int)) = false := decide_eq_false (by omega)
  have hd2 : decide (F ≤ r) = false := decide_eq_false (by omega)
  clear h hF hr
  go_enter Try.func41, Try.ntmps41
  go_wp2_with fail
  refine (rfac_any l.length _ hl).mono ?_
  rintro e w1 ⟨rfl, rfl⟩
  rw [HF.out]
  go_wp2_with fail
  go_loopw [0, 1, 6] (fun v0 v1 v6 W => ∃ (n q : Nat) (S out : List Int) (a0 : Option Addr) (c0 : Nat), v0 = .slice a0 n c0 ∧ S.length = n ∧ out.length + n = l.length ∧ q < fac n ∧ v1 = .int .i64 (q : Nat) ∧
      SrcI W (.slice a0 n c0) S ∧ AppI W w.heap.size v6 out ∧ (0 < n → ∀ x, a0 = some x → some x.block ≠ v6.ownBlock) ∧ Below w.heap.size w W ∧
      Hd (nthV l.length l r = out ++ nthV n S q)) (fun v0 _ _ _ => slen v0)
  case atStart =>
    exact ⟨l.length, r, l, [], a, c, rfl, rfl, by simp, HR.out, rfl, H.out, OwnE.nil _ _ _ _, fun _ x hx => by simp [Value.ownBlock], Below.refl _ _, ⟨by simp⟩⟩
  case round =>
    obtain ⟨n, q, S, out, a0, c0, rfl, hS, hout, hq, rfl, hSrc, hO, hne, hB, HE⟩ := hrel
    rcases n with _ | n
    · have HE2 : Hd (nthV l.length l r = out) := ⟨by rw [HE.out]; simp [nthV]⟩
      have HO := Hd.mk hO
      clear HE hSrc hO hne hq
      go_wp2_with fail
      refine bodyPost_ret (v := .tuple #[u6, .bool true]) (by simp [results, Try.results41]) rfl ?_
      exact ⟨_, rfl, by rw [HE2.out]; exact OwnI.of HO.out, hB⟩
    · have n0 : (0 : Int) < ((n + 1 : Nat) : Int) := by omega
      have hfp := fac_pos n
      have hfb := fac20 (n := n) (by omega)
      have hqn : q < (n + 1) * fac n := hq
      have hil : q / fac n < n + 1 := by rw [Nat.div_lt_iff_lt_mul hfp]; exact hqn
      have hml : q % fac n < fac n := Nat.mod_lt _ hfp
      have hnv : nthV (n + 1) S q = S.getD (q / fac n) 0 :: nthV n (S.eraseIdx (q / fac n)) (q % fac n) := rfl
      obtain ⟨G, hG⟩ : ∃ G, fac n = G := ⟨_, rfl⟩
      obtain ⟨i, hi⟩ : ∃ i, q / G = i := ⟨_, rfl⟩
      obtain ⟨m, hm⟩ : ∃ m, q % G = m := ⟨_, rfl⟩
      rw [hG, hi] at hil
      rw [hG, hm] at hml
      rw [hG, hi, hm] at hnv
      rw [hG] at hfb hfp
      have hqi : (q : Int) / (G : Int) = (i : Int) := by rw [← hi]; rfl
      have hqm : (q : Int) % (G : Int) = (m : Int) := by rw [← hm]; rfl
      have HG := Hd.mk hG
      have hgi : ¬ (G : Int) = 0 := by omega
      have hg1 : (1 : Int) ≤ (G : Int) := by omega
      have i0 : (0 : Int) ≤ (i : Int) := by omega
      have i1 : (i : Int) < ((n + 1 : Nat) : Int) := by omega
      have i2 : (i : Int) < (n : Int) + 1 := by omega
      have m1 : (m : Int) ≤ 2432902008176640000 := by omega
      have hnl : n + 1 ≤ 20 := by omega
      have his : i < S.length := by omega
      obtain ⟨b, off, rfl, hb, hx⟩ := (show SrcI wr (.slice a0 (n + 1) c0) S from hSrc).at i his
      have HX0 : Hd (S.getD i 0 = S[i]) := ⟨getD_get his⟩
      obtain ⟨x, hxe⟩ : ∃ x, S[i] = x := ⟨_, rfl⟩
      rw [hxe] at hx HX0
      obtain ⟨v', w2, hr2, ho2, hB2, hg2⟩ := push_i x hO hB hB.size (by omega)
      have HS2 := Hd.mk ((hSrc.below ((Below.refl _ _).alloc (Nat.le_refl _) (.cells #[.int .i64 x] 3))).kept hg2 (hne (by omega)))
      have HO2 := Hd.mk ho2
      have HB2 := Hd.mk hB2
      have HNX : Hd (nthV l.length l r = (out ++ [x]) ++ nthV n (S.eraseIdx i) m) := ⟨by rw [HE.out, hnv, HX0.out, List.append_assoc]; rfl⟩
      have HSL := Hd.mk hS
      have HOL := Hd.mk hout
      have HML := Hd.mk hml
      clear hG hi hm hnv hqn hq hxe HX0 ho2 hB2 hg2 hSrc hO hne hB HE hil hml
      go_wp2_with fail
      refine (rfac_any n _ (by omega)).mono ?_
      rintro e w5 ⟨rfl, rfl⟩
      rw [HG.out]
      go_wp2_with (at_builtin; refine wpList_append_run rfl _ _ _ rfl rfl rfl hr2 ?_; clear hr2)
      refine (rwithout_any _ S i _ HS2.out his (by omega)).mono ?_
      rintro e w3 ⟨v3, rfl, hO3, hB3⟩
      have hel : (S.eraseIdx i).length = n := by rw [List.length_eraseIdx, if_pos his]; omega
      obtain ⟨a3, c3, hv3⟩ := hO3.src.shape
      rw [hel] at hv3
      subst hv3
      have HO3 := Hd.mk hO3
      have HB3 := Hd.mk hB3
      have HEL := Hd.mk hel
      clear hO3 hB3 hel
      go_wp2_with fail
      go_roundw
      case rel =>
        refine ⟨n, m, S.eraseIdx i, out ++ [x], a3, c3, rfl, HEL.out, by have := HOL.out; simp; omega, by rw [HG.out]; exact HML.out, by first | rfl | rw [hqm], HO3.out.src, OwnE.below HO2.out HB3.out, fun _ y hy e => ?_, (ch4 HB2.out HB3.out).mono (Nat.le_refl _), HNX⟩
        have h1 := own_block HO3.out y hy
        have h2 := (World.ownsRow.lt HO2.out _ e.symm).2
        omega
      case measure => simp [slen]

set_option maxRecDepth 100000 in
set_option maxHeartbeats 4000000 in
theorem rswaps_any (va vb : Value) (a b : List Int) (w : World) (ha : SrcI w va a) (hb : SrcI w vb b) (hp : a.Perm b) (hn : b.Nodup) (hl : a.length ≤ 1000) : Calls Try.prog 42 #[va, vb] w fun e w' =>
    e = .returned (.int .i64 (swapsV a b : Nat)) ∧ Below w.heap.size w w' := by
  have hab : swapsR a b = swapsV a b := swaps_ref b a hn hp
  have hbl : b.length ≤ 1000 := by rw [← hp.length_eq]; exact hl
  have hmul : a.length * (a.length - 1) ≤ 1000 * 1000 := Nat.mul_le_mul hl (by omega)
  have hbd : swapsV a b ≤ 1000000 := by have := swaps_le a b; omega
  rw [← hab] at hbd ⊢
  have HA := Hd.mk ha
  have HB := Hd.mk hb
  have HP := Hd.mk hp
  have HN := Hd.mk hn
  obtain ⟨aa, ac, rfl⟩ := ha.shape
  obtain ⟨ba, bc, rfl⟩ := hb.shape
  obtain ⟨T, hT⟩ : ∃ T, swapsR a b = T := ⟨_, rfl⟩
  rw [hT] at hbd ⊢
  have HT := Hd.mk hT
  clear ha hb hp hn hab hmul hT
  go_enter Try.func42, Try.ntmps42
  go_wp2_with fail
  go_loopw [0, 5, 6] (fun v0 v5 v6 W => ∃ (k N : Nat) (S : List Int) (a0 : Option Addr) (c0 : Nat), k ≤ b.length ∧ v0 = .slice a0 (b.length - k) c0 ∧ v6 = .int .i64 (k : Nat) ∧ v5 = .int .i64 (N : Nat) ∧ Hd (S.Perm (b.drop k)) ∧ Hd (N + swapsR S (b.drop k) = T) ∧
      SrcI W (.slice a0 (b.length - k) c0) S ∧ Below w.heap.size w W) (fun _ _ v6 _ => b.length - (intOf v6).toNat)
  case atStart =>
    refine ⟨0, 0, a, aa, ac, by omega, by rw [HP.out.length_eq]; rfl, rfl, rfl, ⟨by simpa using HP.out⟩, ⟨by rw [← HT.out]; simp⟩, ?_, Below.refl _ _⟩
    have := HA.out
    rw [HP.out.length_eq] at this; exact this
  case round =>
    obtain ⟨k, N, S, a0, c0, hk, rfl, rfl, rfl, HPM, HNT, hSrc, hB⟩ := hrel
    by_cases hlt : k < b.length
    · obtain ⟨bb, boff, rfl, hbb, hbx⟩ := (HB.out.below hB).at k hlt
      have HD : Hd (b.drop k = b[k] :: b.drop (k + 1)) := ⟨List.drop_eq_getElem_cons hlt⟩
      generalize b[k] = q at hbx HD
      have hin : q ∈ S := HPM.out.symm.subset (by rw [HD.out]; simp)
      have hil := List.idxOf_lt_length_of_mem hin
      have hSl : S.length = b.length - k := by rw [HPM.out.length_eq, List.length_drop]
      have HIV : Hd (idxV S q = ((S.idxOf q : Nat) : Int)) := ⟨by rw [idxV, if_pos hin]⟩
      have HER : Hd (S.erase q = S.eraseIdx (S.idxOf q)) := ⟨List.erase_eq_eraseIdx_of_idxOf rfl⟩
      have HPN : Hd ((S.erase q).Perm (b.drop (k + 1))) := ⟨by
        have h := HPM.out
        rw [HD.out] at h
        have h2 := h.erase q
        rwa [List.erase_cons_head] at h2⟩
      have HNX : Hd (N + S.idxOf q + swapsR (S.erase q) (b.drop (k + 1)) = T) := ⟨by
        have h := HNT.out
        rw [HD.out, swapsR] at h; omega⟩
      obtain ⟨i, hi⟩ : ∃ i, S.idxOf q = i := ⟨_, rfl⟩
      rw [hi] at hil HIV HER HNX
      have HSR := Hd.mk hSrc
      have HBW := Hd.mk hB
      have HSL := Hd.mk hSl
      have k0 : (0 : Int) ≤ (k : Int) := by omega
      have k1 : (k : Int) < (b.length : Int) := by omega
      have hNb : N + i ≤ 1000000 := by have := HNX.out; omega
      have hiS : (i : Int) ≤ 1000000 := by omega
      have HIL := Hd.mk hil
      have hSl1 : S.length ≤ 100000 := by omega
      clear hi hin hSrc hB hSl hil HPM HNT HD
      go_wp2_with fail
      refine (rindex_any _ S q _ HSR.out).mono ?_
      rintro e w5 ⟨rfl, rfl⟩
      rw [HIV.out]
      go_wp2_with fail
      refine (rwithout_any _ S i _ HSR.out HIL.out hSl1).mono ?_
      rintro e w3 ⟨v3, rfl, hO3, hB3⟩
      have hel : (S.eraseIdx i).length = b.length - (k + 1) := by rw [List.length_eraseIdx, if_pos HIL.out, HSL.out]; omega
      obtain ⟨a3, c3, hv3⟩ := hO3.src.shape
      rw [hel] at hv3
      subst hv3
      have HO3 := Hd.mk hO3.src
      have HB3 := Hd.mk (ch4 HBW.out hB3)
      clear hO3 hB3 hel
      go_wp2_with fail
      go_roundw
      case rel => exact ⟨k + 1, N + i, S.eraseIdx i, a3, c3, by omega, rfl, by go_num, by go_num, ⟨by rw [← HER.out]; exact HPN.out⟩, ⟨by rw [← HER.out]; exact HNX.out⟩, HO3.out, HB3.out⟩
      case measure => simp [intOf]; omega
    · obtain rfl : k = b.length := by omega
      have HEND : Hd (N = T) := ⟨by have h := HNT.out; rw [List.drop_length] at h; simpa [swapsR] using h⟩
      clear HNT HPM
      go_wp2_with fail
      go_ret
      exact ⟨by rw [HEND.out]; rfl, hB⟩
end Go.Proofs.Ytmahjgffadbdcaa
