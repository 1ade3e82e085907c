/- The reference's Sorted and Order. -/
import Derived.Test.YtmahjgffadbdcaaG2
namespace Go.Proofs.Ytmahjgffadbdcaa
open Go.RowKit
set_option linter.unusedVariables false

theorem SrcI.kept {w w' : World} {a : Option Addr} {n c : Nat} {row : Option Nat} {l : List Int} (h : SrcI w (.slice a n c) l) (hg : w.grownBy w' row) (hne : ∀ x, a = some x → some x.block ≠ row) : SrcI w' (.slice a n c) l := by
  rcases h with ⟨hv, hl⟩ | ⟨x, c', hv, h1, h2, hc⟩
  · exact .inl ⟨hv, hl⟩
  · have hv' := hv
    simp only [Value.slice.injEq] at hv'
    exact .inr ⟨x, c', hv, h1, h2, fun j hj => hg.cell (hc j hj) (by
      have := hne x hv'.1
      unfold Addr.add; split <;> exact this)⟩
def slen : Value → Nat
  | .slice _ n _ => n
  | _ => 0
theorem own_block {w : World} {base : Nat} {a : Option Addr} {n c : Nat} {l : List Int} (h : OwnI w base (.slice a n c) l) (x : Addr) (hx : a = some x) : base ≤ x.block := by
  rcases h with ⟨hv, _⟩ | ⟨g, cap, hv, hg, _⟩
  · simp at hv; rw [hv.1] at hx; cases hx
  · simp only [Value.slice.injEq] at hv
    rw [hv.1] at hx; cases hx; exact hg
theorem AppI.mono {w : World} {base base' : Nat} {v : Value} {l : List Int} (h : AppI w base v l) (hb : base' ≤ base) : OwnI w base' v l := by
  rcases OwnI.of h with h | ⟨g, cap, h1, h2, h3⟩
  · exact .inl h
  · exact .inr ⟨g, cap, h1, Nat.le_trans hb h2, h3⟩

def rsV (l : List Int) (k : Nat) : List Int := (nums.take k).filter fun p => decide (p ∈ l)
theorem rs_succ (l : List Int) {k : Nat} (h : k < 16) : rsV l (k + 1) = rsV l k ++ if (k : Int) + 1 ∈ l then [(k : Int) + 1] else [] := by
  rw [rsV, nums_at h, List.filter_append, rsV]
  congr 1
  by_cases hm : (k : Int) + 1 ∈ l
  · rw [if_pos hm, List.filter_cons, if_pos (decide_eq_true hm), List.filter_nil]
  · rw [if_neg hm, List.filter_cons, if_neg (by simpa using hm), List.filter_nil]
theorem rs_len (l : List Int) (k : Nat) : (rsV l k).length ≤ 16 := by
  refine Nat.le_trans (List.length_filter_le _ _) ?_
  rw [List.length_take]; exact Nat.min_le_right _ _

set_option maxRecDepth 100000 in
set_option maxHeartbeats 1000000 in
theorem rsorted_any (v : Value) (l : List Int) (w : World) (h : SrcI w v l) : Calls Try.prog 38 #[v] w fun e w' => ∃ v', e = .returned v' ∧ OwnI w' w.heap.size v' (sortV l) ∧ Below w.heap.size w w' := by
  have H := Hd.mk h
  obtain ⟨a, c, rfl⟩ := h.shape
  clear h
  go_enter Try.func38, Try.ntmps38
  go_wp2_with fail
  go_loopw [3, 4] (fun v i W => ∃ k : Nat, k ≤ 16 ∧ i = .int .i64 ((k : Int) + 1) ∧ AppI W w.heap.size v (rsV l k) ∧ Below w.heap.size w W) (fun _ i _ => 18 - (intOf i).toNat)
  case atStart => exact ⟨0, by omega, rfl, OwnE.nil _ _ _ _, Below.refl _ _⟩
  case round =>
    obtain ⟨k, hk, rfl, hO, hB⟩ := hrel
    by_cases hlt : k < 16
    · have k0 : (0 : Int) ≤ (k : Int) := by omega
      have k1 : (k : Int) + 1 ≤ 16 := by omega
      have HS := Hd.mk (rs_succ l hlt)
      have HSR := Hd.mk (H.out.below hB)
      have HO := Hd.mk hO
      have HB := Hd.mk hB
      obtain ⟨v', w2, hr, ho2, hB2, hg2⟩ := push_i ((k : Int) + 1) hO hB hB.size (by have := rs_len l k; omega)
      have HO2 := Hd.mk ho2
      have HB2 := Hd.mk hB2
      clear hO hB ho2 hB2 hg2
      obtain ⟨x, hx⟩ : ∃ x, idxV l ((k : Int) + 1) = x := ⟨_, rfl⟩
      have HX := Hd.mk hx
      by_cases hm : (k : Int) + 1 ∈ l
      · have hx0 : 0 ≤ x := by rw [← hx, idxV, if_pos hm]; omega
        have HN : Hd (rsV l (k + 1) = rsV l k ++ [(k : Int) + 1]) := ⟨by rw [HS.out, if_pos hm]⟩
        clear hx hm HS
        go_wp2_with fail
        refine (rindex_any _ l _ _ HSR.out).mono ?_
        rintro e w3 ⟨rfl, rfl⟩
        rw [HX.out]
        go_wp2_with (at_builtin; refine wpList_append_run rfl _ _ _ rfl rfl rfl hr ?_; clear hr)
        go_roundw
        case rel => exact ⟨k + 1, by omega, by go_num, by rw [HN.out]; exact HO2.out, HB2.out⟩
        case measure => simp [intOf]; omega
      · have hx0 : x < 0 := by rw [← hx, idxV, if_neg hm]; omega
        have HN : Hd (rsV l (k + 1) = rsV l k) := ⟨by rw [HS.out, if_neg hm, List.append_nil]⟩
        clear hx hm HS
        go_wp2_with fail
        refine (rindex_any _ l _ _ HSR.out).mono ?_
        rintro e w3 ⟨rfl, rfl⟩
        rw [HX.out]
        go_wp2_with fail
        go_roundw
        case rel => exact ⟨k + 1, by omega, by go_num, by rw [HN.out]; exact HO.out, HB.out⟩
        case measure => simp [intOf]; omega
    · obtain rfl : k = 16 := by omega
      go_wp2_with fail
      go_ret
      exact ⟨_, rfl, OwnI.of hO, hB⟩

set_option maxRecDepth 100000 in
set_option maxHeartbeats 4000000 in
theorem rorder_any (v pv : Value) (l ps : List Int) (w : World) (h : SrcI w v l) (hp : SrcI w pv ps) (hl : l.length ≤ 1000) : Calls Try.prog 37 #[v, pv] w fun e w' =>
    ∃ v', e = .returned (.tuple #[v', .int .i64 (ordV l.length l ps).2.1, .int .i64 (ordV l.length l ps).2.2]) ∧ OwnI w' w.heap.size v' (ordV l.length l ps).1 ∧ Below w.heap.size w w' := by
  have hps := hp.small
  have H := Hd.mk h
  have HP := Hd.mk hp
  obtain ⟨a, c, rfl⟩ := h.shape
  obtain ⟨pa, pc, rfl⟩ := hp.shape
  have HBL : Hd (∀ x, a = some x → l ≠ [] → x.block < w.heap.size) := ⟨fun x hx hne => by
    subst hx
    obtain ⟨b, off, hb, hlt, _⟩ := H.out.at 0 (List.length_pos_iff.2 hne)
    cases hb; exact hlt⟩
  clear h hp
  go_enter Try.func37, Try.ntmps37
  go_wp2_with fail
  go_loopw [0, 7, 8, 9] (fun v0 v7 v8 v9 W => ∃ (n t u : Nat) (S out : List Int) (a0 : Option Addr) (c0 : Nat), v0 = .slice a0 n c0 ∧ S.length = n ∧ out.length + n = l.length ∧ t ≤ ps.length ∧ u ≤ t ∧ v8 = .int .i64 (t : Nat) ∧ v9 = .int .i64 (u : Nat) ∧
      SrcI W (.slice a0 n c0) S ∧ AppI W w.heap.size v7 out ∧ (0 < n → ∀ x, a0 = some x → some x.block ≠ v7.ownBlock) ∧ Below w.heap.size w W ∧
      Hd (ordV l.length l ps = (out ++ (ordV n S (ps.drop t)).1, t + (ordV n S (ps.drop t)).2.1, u + (ordV n S (ps.drop t)).2.2))) (fun v0 _ _ _ _ => slen v0)
  case atStart =>
    exact ⟨l.length, 0, 0, l, [], a, c, rfl, rfl, by simp, by omega, by omega, rfl, rfl, H.out, OwnE.nil _ _ _ _, fun _ x hx => by simp [Value.ownBlock], Below.refl _ _, ⟨by simp⟩⟩
  case round =>
    obtain ⟨n, t, u, S, out, a0, c0, rfl, hS, hout, ht, hu, rfl, rfl, hSrc, hO, hne, hB, HE⟩ := hrel
    rcases n with _ | n
    · have hS0 : S = [] := List.length_eq_zero_iff.1 hS
      subst hS0
      have HE2 : Hd (ordV l.length l ps = (out, t, u)) := ⟨by rw [HE.out]; simp [ordV]⟩
      have HO := Hd.mk hO
      clear HE hSrc hO hne
      go_wp2_with fail
      refine bodyPost_ret (v := .tuple #[u7, .int .i64 (t : Nat), .int .i64 (u : Nat)]) (by simp [results, Try.results37]) rfl ?_
      exact ⟨_, by rw [HE2.out], by rw [HE2.out]; exact OwnI.of HO.out, hB⟩
    · have n0 : (0 : Int) < ((n + 1 : Nat) : Int) := by omega
      have hPW := HP.out.below hB
      have HSR := Hd.mk hSrc
      have HOO := Hd.mk hO
      have HNE := Hd.mk (hne (by omega))
      have HBW := Hd.mk hB
      have hnl : n + 1 ≤ 1000 := by omega
      have hol : out.length ≤ 1000 := by omega
      have HSL := Hd.mk hS
      have HOL := Hd.mk hout
      -- what stands behind the choice of place i
      have tail : ∀ (i tk wk : Nat), i < S.length → pickI S (ps.drop t) = (i, tk, wk) → t + tk ≤ ps.length → u + wk ≤ t + tk →
          ∃ x v' w2, wr.cell? ⟨(a0.getD ⟨0, 0, none⟩).block, (a0.getD ⟨0, 0, none⟩).off + i, none⟩ = some (.int .i64 x) ∧ (Builtin.append_ #[24, 24] 24 #[u7, .slice (some ⟨wr.heap.size, 0, none⟩) 1 1]).run Try.prog (wr.alloc (.cells #[.int .i64 x] 3)) = .ok v' w2 ∧
          SrcI w2 (.slice a0 (n + 1) c0) S ∧
          (∀ v3 w3, OwnI w3 w2.heap.size v3 (S.eraseIdx i) → Below w2.heap.size w2 w3 → ∃ a3 c3, v3 = .slice a3 n c3 ∧ (S.eraseIdx i).length = n ∧ (out ++ [x]).length + n = l.length ∧ SrcI w3 (.slice a3 n c3) (S.eraseIdx i) ∧ AppI w3 w.heap.size v' (out ++ [x]) ∧
            (0 < n → ∀ y, a3 = some y → some y.block ≠ v'.ownBlock) ∧ Below w.heap.size w w3 ∧
            Hd (ordV l.length l ps = ((out ++ [x]) ++ (ordV n (S.eraseIdx i) (ps.drop (t + tk))).1, (t + tk) + (ordV n (S.eraseIdx i) (ps.drop (t + tk))).2.1, (u + wk) + (ordV n (S.eraseIdx i) (ps.drop (t + tk))).2.2))) := by
        intro i tk wk hi hpk ht' hu'
        obtain ⟨b, off, rfl, hb, hx⟩ := (show SrcI wr (.slice a0 (n + 1) c0) S from hSrc).at i hi
        obtain ⟨v', w2, hr, ho2, hB2, hg2⟩ := push_i S[i] hO hB hB.size (by omega)
        refine ⟨S[i], v', w2, hx, hr, (hSrc.below ((Below.refl _ _).alloc (Nat.le_refl _) (.cells #[.int .i64 S[i]] 3))).kept hg2 (hne (by omega)), fun v3 w3 hO3 hB3 => ?_⟩
        have hel : (S.eraseIdx i).length = n := by rw [List.length_eraseIdx, if_pos hi]; omega
        obtain ⟨a3, c3, hv3⟩ := hO3.src.shape
        rw [hel] at hv3
        subst hv3
        refine ⟨a3, c3, rfl, hel, by simp; omega, hO3.src, OwnE.below ho2 hB3, fun _ y hy e => ?_, ch4 hB2 hB3 |>.mono (Nat.le_refl _), ⟨ord_go HE.out hpk (by rw [List.getD_eq_getElem?_getD, List.getElem?_eq_getElem hi]; rfl)⟩⟩
        have h1 := own_block hO3 y hy
        have h2 := (World.ownsRow.lt ho2 _ e.symm).2
        omega
      have TAIL := Hd.mk tail
      obtain ⟨b, off, rfl, hb, _⟩ := (show SrcI wr (.slice a0 (n + 1) c0) S from hSrc).at 0 (by omega)
      clear hSrc hO hne hB tail
      by_cases hgo : 0 < n ∧ t < ps.length
      · obtain ⟨hg1, hg2⟩ := hgo
        obtain ⟨pb, po, rfl, hpb, hpx⟩ := hPW.at t hg2
        have hdl : decide (t < ps.length) = true := decide_eq_true hg2
        have t0 : (0 : Int) ≤ (t : Int) := by omega
        have t1 : (t : Int) < (ps.length : Int) := by omega
        have g1 : (1 : Int) < ((n + 1 : Nat) : Int) := by omega
        have g2 : (1 : Int) < (n : Int) + 1 := by omega
        have HPI : Hd (ps[t] ∈ S → pickI S (ps.drop t) = (S.idxOf ps[t], 1, 0)) := ⟨pick_in (by omega) hg2⟩
        have HPO : Hd (ps[t] ∉ S → pickI S (ps.drop t) = (0, 1, 1)) := ⟨pick_out (by omega) hg2⟩
        generalize ps[t] = pk at hpx HPI HPO
        clear hPW
        by_cases hin : pk ∈ S
        · obtain ⟨x, v', w2, hx, hr, hS2, hfin⟩ := TAIL.out (S.idxOf pk) 1 0 (List.idxOf_lt_length_of_mem hin) (HPI.out hin) (by omega) (by omega)
          have HS2 := Hd.mk hS2
          have HFIN := Hd.mk hfin
          clear hS2 hfin TAIL
          simp only [Option.getD_some] at hx
          have HIV : Hd (idxV S pk = ((S.idxOf pk : Nat) : Int)) := ⟨by rw [idxV, if_pos hin]⟩
          have hil := List.idxOf_lt_length_of_mem hin
          have HIN := Hd.mk hin
          obtain ⟨iq, hiq⟩ : ∃ q, S.idxOf pk = q := ⟨_, rfl⟩
          rw [hiq] at hx HFIN HIV hil
          have q0 : (0 : Int) ≤ (iq : Int) := by omega
          have q1 : (iq : Int) < ((n + 1 : Nat) : Int) := by omega
          have q2 : (iq : Int) < (n : Int) + 1 := by omega
          clear HPI HPO hin hiq
          go_wp2_with fail
          refine (rindex_any _ S pk _ HSR.out).mono ?_
          rintro e w5 ⟨rfl, rfl⟩
          rw [HIV.out]
          go_wp2_with (at_builtin; refine wpList_append_run rfl _ _ _ rfl rfl rfl hr ?_; clear hr)
          refine (rwithout_any _ S iq _ HS2.out hil (by omega)).mono ?_
          rintro e w3 ⟨v3, rfl, hO3, hB3⟩
          obtain ⟨a3, c3, rfl, h1, h2, h3, h4, h5, h6, HE2⟩ := HFIN.out v3 w3 hO3 hB3
          have G := Hd.mk (And.intro h1 (And.intro h2 (And.intro h3 (And.intro h4 (And.intro h5 h6)))))
          clear h1 h2 h3 h4 h5 h6 hO3 hB3 HFIN hx
          go_wp2_with fail
          go_roundw
          case rel =>
            obtain ⟨h1, h2, h3, h4, h5, h6⟩ := G.out
            exact ⟨n, t + 1, u + 0, S.eraseIdx iq, out ++ [x], a3, c3, rfl, h1, h2, by omega, by omega, by go_num, by go_num, h3, h4, h5, h6, HE2⟩
          case measure => simp [slen]
        · obtain ⟨x, v', w2, hx, hr, hS2, hfin⟩ := TAIL.out 0 1 1 (by omega) (HPO.out hin) (by omega) (by omega)
          have HS2 := Hd.mk hS2
          have HFIN := Hd.mk hfin
          clear hS2 hfin TAIL
          simp only [Option.getD_some, Nat.add_zero] at hx
          have HIV : Hd (idxV S pk = -1) := ⟨by rw [idxV, if_neg hin]⟩
          clear HPI HPO hin
          go_wp2_with fail
          refine (rindex_any _ S pk _ HSR.out).mono ?_
          rintro e w5 ⟨rfl, rfl⟩
          rw [HIV.out]
          go_wp2_with (at_builtin; refine wpList_append_run rfl _ _ _ rfl rfl rfl hr ?_; clear hr)
          refine (rwithout_any _ S 0 _ HS2.out (by omega) (by omega)).mono ?_
          rintro e w3 ⟨v3, rfl, hO3, hB3⟩
          obtain ⟨a3, c3, rfl, h1, h2, h3, h4, h5, h6, HE2⟩ := HFIN.out v3 w3 hO3 hB3
          have G := Hd.mk (And.intro h1 (And.intro h2 (And.intro h3 (And.intro h4 (And.intro h5 h6)))))
          clear h1 h2 h3 h4 h5 h6 hO3 hB3 HFIN hx
          go_wp2_with fail
          go_roundw
          case rel =>
            obtain ⟨h1, h2, h3, h4, h5, h6⟩ := G.out
            exact ⟨n, t + 1, u + 1, S.eraseIdx 0, out ++ [x], a3, c3, rfl, h1, h2, by omega, by omega, by go_num, by go_num, h3, h4, h5, h6, HE2⟩
          case measure => simp [slen]
      · have HPI : Hd (pickI S (ps.drop t) = (0, 0, 0)) := ⟨by
          by_cases h0 : 0 < n
          · exact pick_none (by omega)
          · exact pick_few (by omega)⟩
        clear hPW
        by_cases h0 : 0 < n
        · obtain ⟨x, v', w2, hx, hr, hS2, hfin⟩ := TAIL.out 0 0 0 (by omega) HPI.out (by omega) (by omega)
          have HS2 := Hd.mk hS2
          have HFIN := Hd.mk hfin
          clear hS2 hfin TAIL
          simp only [Option.getD_some, Nat.add_zero] at hx
          have h1 : decide (t < ps.length) = false := decide_eq_false (by omega)
          have g1 : (1 : Int) < ((n + 1 : Nat) : Int) := by omega
          have g2 : (1 : Int) < (n : Int) + 1 := by omega
          clear hgo HPI
          go_wp2_with (at_builtin; refine wpList_append_run rfl _ _ _ rfl rfl rfl hr ?_; clear hr)
          refine (rwithout_any _ S 0 _ HS2.out (by omega) (by omega)).mono ?_
          rintro e w3 ⟨v3, rfl, hO3, hB3⟩
          obtain ⟨a3, c3, rfl, h1, h2, h3, h4, h5, h6, HE2⟩ := HFIN.out v3 w3 hO3 hB3
          have G := Hd.mk (And.intro h1 (And.intro h2 (And.intro h3 (And.intro h4 (And.intro h5 h6)))))
          clear h1 h2 h3 h4 h5 h6 hO3 hB3 HFIN hx
          go_wp2_with fail
          go_roundw
          case rel =>
            obtain ⟨h1, h2, h3, h4, h5, h6⟩ := G.out
            exact ⟨n, t + 0, u + 0, S.eraseIdx 0, out ++ [x], a3, c3, rfl, h1, h2, by omega, by omega, by go_num, by go_num, h3, h4, h5, h6, HE2⟩
          case measure => simp [slen]
        · obtain ⟨x, v', w2, hx, hr, hS2, hfin⟩ := TAIL.out 0 0 0 (by omega) HPI.out (by omega) (by omega)
          have HS2 := Hd.mk hS2
          have HFIN := Hd.mk hfin
          clear hS2 hfin TAIL
          simp only [Option.getD_some, Nat.add_zero] at hx
          have g1 : ¬ (1 : Int) < ((n + 1 : Nat) : Int) := by omega
          have h1 : n = 0 := by omega
          have g2 : ¬ (1 : Int) < (n : Int) + 1 := by omega
          clear hgo HPI h1
          go_wp2_with (at_builtin; refine wpList_append_run rfl _ _ _ rfl rfl rfl hr ?_; clear hr)
          refine (rwithout_any _ S 0 _ HS2.out (by omega) (by omega)).mono ?_
          rintro e w3 ⟨v3, rfl, hO3, hB3⟩
          obtain ⟨a3, c3, rfl, h1, h2, h3, h4, h5, h6, HE2⟩ := HFIN.out v3 w3 hO3 hB3
          have G := Hd.mk (And.intro h1 (And.intro h2 (And.intro h3 (And.intro h4 (And.intro h5 h6)))))
          clear h1 h2 h3 h4 h5 h6 hO3 hB3 HFIN hx
          go_wp2_with fail
          go_roundw
          case rel =>
            obtain ⟨h1, h2, h3, h4, h5, h6⟩ := G.out
            exact ⟨n, t + 0, u + 0, S.eraseIdx 0, out ++ [x], a3, c3, rfl, h1, h2, by omega, by omega, by go_num, by go_num, h3, h4, h5, h6, HE2⟩
          case measure => simp [slen]
end Go.Proofs.Ytmahjgffadbdcaa
