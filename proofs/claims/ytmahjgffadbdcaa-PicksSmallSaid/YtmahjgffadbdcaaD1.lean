/- Walk of picks.Next. -/
import Derived.Test.YtmahjgffadbdcaaC2
namespace Go.Proofs.Ytmahjgffadbdcaa
open Go.RowKit
set_option linter.unusedVariables false

theorem OwnI.row {w : World} {base : Nat} {v : Value} {l : List Int} (h : OwnI w base v l) (hl : 0 < l.length) :
    ∃ g cap, v = .slice (some ⟨g, 0, none⟩) l.length cap ∧ base ≤ g ∧ RowF w g l.length (fun j => l.getD j 0) ∧ l.length ≤ cap ∧ cap ≤ maxLen := by
  rcases h with ⟨_, rfl⟩ | ⟨g, cap, hv, hg, hs, hc, hm, hcell, hf⟩
  · simp at hl
  · exact ⟨g, cap, hv, hg, ⟨hs, fun j hj => by rw [hcell j hj, List.getD_eq_getElem?_getD, List.getElem?_eq_getElem hj, Option.getD_some], hf⟩, hc, hm⟩
theorem RowF.own {W : World} {g N base cap : Nat} {f : Nat → Int} (h : RowF W g N f) {u : List Int} (hu : u.length = N) (e : ∀ j, j < N → f j = u.getD j 0) (hg : base ≤ g) (hc : N ≤ cap) (hm : cap ≤ maxLen) :
    OwnI W base (.slice (some ⟨g, 0, none⟩) N cap) u := by
  subst hu
  refine .inr ⟨g, cap, rfl, hg, h.lt, hc, hm, fun j hj => ?_, h.free⟩
  rw [h.cell j hj, e j hj, List.getD_eq_getElem?_getD, List.getElem?_eq_getElem hj, Option.getD_some]

def nxE (l : List Int) : Int := if okO l then (match nextV l with | none => 6 | some _ => 0) else 2
def nxO (l : List Int) : List Int := if okO l then (nextV l).getD [] else []

theorem next_row {l : List Int} {i m : Nat} (hi : i + 1 < l.length) (hm : m < (l.drop (i + 1)).length) (j : Nat) (hj : j < l.length) :
    (if i + 1 ≤ j then swapF (fun j => l.getD j 0) i (i + 1 + m) (2 * (i + 1) + (l.length - (i + 1)) - 1 - j) else swapF (fun j => l.getD j 0) i (i + 1 + m) j)
      = (l.take i ++ (l.drop (i + 1)).getD m 0 :: ((l.drop (i + 1)).set m l[i]).reverse).getD j 0 := by
  have hil : i < l.length := by omega
  rw [List.length_drop] at hm
  have g1 : ∀ k, k < l.length → l[k]? = some (l.getD k 0) := fun k hk => by rw [List.getD_eq_getElem?_getD, List.getElem?_eq_getElem hk]; rfl
  have hli : l[i] = l.getD i 0 := by rw [List.getD_eq_getElem?_getD, List.getElem?_eq_getElem hil]; rfl
  rw [List.getD_eq_getElem?_getD]
  rcases Nat.lt_trichotomy j i with h | rfl | h
  · rw [if_neg (by omega), List.getElem?_append_left (by rw [List.length_take]; omega), List.getElem?_take_of_lt h, g1 j hj]
    unfold swapF; rw [if_neg (by omega), if_neg (by omega)]; rfl
  · rw [if_neg (by omega), List.getElem?_append_right (by rw [List.length_take]; omega), List.length_take, show j - min j l.length = 0 by omega, List.getElem?_cons_zero, Option.getD_some]
    unfold swapF; rw [if_neg (by omega), if_pos rfl]
    show l.getD _ 0 = _
    rw [List.getD_eq_getElem?_getD, List.getD_eq_getElem?_getD, List.getElem?_drop]
  · rw [if_pos (by omega), List.getElem?_append_right (by rw [List.length_take]; omega), List.length_take, show j - min i l.length = (j - i - 1) + 1 by omega, List.getElem?_cons_succ]
    rw [List.getElem?_reverse (by rw [List.length_set, List.length_drop]; omega), List.length_set, List.length_drop, List.getElem?_set]
    unfold swapF
    by_cases h1 : m = l.length - (i + 1) - 1 - (j - i - 1)
    · rw [if_pos h1, if_pos (by omega), if_pos (by rw [List.length_drop]; omega), Option.getD_some, hli]
    · rw [if_neg h1, if_neg (by omega), if_neg (by omega), List.getElem?_drop, g1 _ (by omega), Option.getD_some]
      congr 1; omega

theorem gt_at {l : List Int} {i m : Nat} (hn : l.Nodup) (hi : i + 1 < l.length) (hd : desc (l.drop (i + 1))) (hm : gtc (l.drop (i + 1)) l[i] = m + 1) (p : Nat) (h1 : i + 1 + m < p) (h2 : p < l.length) : l[p] < l[i] := by
  have h := desc_at hd l[i] (p - (i + 1)) (by rw [List.length_drop]; omega)
  rw [hm] at h
  have e : (l.drop (i + 1))[p - (i + 1)]'(by rw [List.length_drop]; omega) = l[p] := by rw [List.getElem_drop]; congr 1; omega
  rw [e] at h
  have hne : l[i] ≠ l[p] := List.pairwise_iff_getElem.1 hn i p (by omega) (by omega) (by omega)
  have : ¬ l[i] < l[p] := fun hh => by have := h.1 hh; omega
  omega
theorem gt_end {l : List Int} {i m : Nat} (hi : i + 1 < l.length) (hd : desc (l.drop (i + 1))) (hm : gtc (l.drop (i + 1)) l[i] = m + 1) (h2 : i + 1 + m < l.length) : l[i] < l[i + 1 + m] := by
  have h := desc_at hd l[i] m (by rw [List.length_drop]; omega)
  rw [hm] at h
  have e : (l.drop (i + 1))[m]'(by rw [List.length_drop]; omega) = l[i + 1 + m] := by rw [List.getElem_drop]
  rw [e] at h
  exact h.2 (by omega)
theorem getD_get {l : List Int} {k : Nat} (h : k < l.length) : l.getD k 0 = l[k] := by rw [List.getD_eq_getElem?_getD, List.getElem?_eq_getElem h]; rfl

set_option maxRecDepth 100000 in
set_option maxHeartbeats 2000000 in
theorem next_any (v : Value) (l : List Int) (w : World) (h : SrcI w v l) : Calls Try.prog 24 #[v] w fun e w' => ∃ v', e = .returned (.tuple #[v', .int .i64 (nxE l)]) ∧ OwnI w' w.heap.size v' (nxO l) ∧ Below w.heap.size w w' := by
  have hsm := h.small
  have H := Hd.mk h
  obtain ⟨a, c, rfl⟩ := h.shape
  clear h
  go_enter Try.func24, Try.ntmps24
  go_wp2_with fail
  refine (of_any _ l _ H.out).mono ?_
  rintro e w1 ⟨rfl, hB⟩
  have hB1 := hB.alloc hB.size (.cells #[.bool false, .bool false, .bool false, .bool false, .bool false, .bool false, .bool false, .bool false, .bool false, .bool false, .bool false, .bool false, .bool false, .bool false, .bool false, .bool false, .bool false] 51)
  have hB1 := hB.alloc hB.size (.cells (lf (ofS l)) 51)
  cases ho : okO l
  · have HO := Hd.mk ho
    have HB1 := Hd.mk hB1
    clear ho hB1 hB
    go_wp2_with (refine wpList_store_row rfl 51 _ _ rfl w1.heap.size (lf (ofS l)) rfl rfl 51 (lf []) (World.alloc_heap_new _ _) rfl rfl (lf_one _) ?_)
    rw [World.setRow_alloc_new]
    refine bodyPost_ret (results_tmp2 Try.results24 _ _ _) rfl ?_
    exact ⟨.slice none 0 0, by rw [nxE, HO.out]; rfl, by rw [nxO, HO.out]; exact OwnI.nil _ _, HB1.out⟩
  · have hok : OkO l := of_decide_eq_true ho
    have hlen := hok.len
    have HND : Hd l.Nodup := ⟨hok.nd⟩
    have HE : Hd ((nextV l = none → nxE l = 6 ∧ nxO l = []) ∧ ∀ u, nextV l = some u → nxE l = 0 ∧ nxO l = u) := ⟨by
      rw [nxE, nxO, ho]
      exact ⟨fun h => by rw [h]; exact ⟨rfl, rfl⟩, fun u h => by rw [h]; exact ⟨rfl, rfl⟩⟩⟩
    have HB1 := Hd.mk hB1
    clear ho hB1 hB hok
    go_wp2_with (refine wpList_store_row rfl 51 _ _ rfl w1.heap.size (lf (ofS l)) rfl rfl 51 (lf []) (World.alloc_heap_new _ _) rfl rfl (lf_one _) ?_)
    rw [World.setRow_alloc_new]
    generalize w1.alloc (.cells (lf (ofS l)) 51) = W1 at HB1 ⊢
    go_wp2_with fail
    refine (clone_any _ l _ (H.out.below HB1.out) (by omega)).mono ?_
    rintro e w2 ⟨v2, rfl, hO2, hB2⟩
    have HB2 := Hd.mk (ch4 HB1.out hB2)
    by_cases hl2 : l.length < 2
    · have HN := Hd.mk (HE.out.1 (next_none (by have := desc_last (l := l) (i := 0) (by omega); simpa using this)))
      have hl3 : (l.length : Int) < 2 := by omega
      have hsh := hO2.src.shape
      obtain ⟨a2, c2, rfl⟩ := hsh
      have d0 : decide ((0 : Int) ≤ (l.length : Int) - 2) = false := decide_eq_false (by omega)
      have d1 : decide ((2 : Int) ≤ (l.length : Int)) = false := decide_eq_false (by omega)
      have d2 : decide (2 ≤ l.length) = false := decide_eq_false (by omega)
      have hw : IntKind.i64.wrap ((l.length : Int) - 2) = (l.length : Int) - 2 := IntWalk.i64_in _ ⟨by omega, by omega⟩
      clear hO2 hB2
      go_wp2_with fail
      go_loopw [7] (fun i W => i = .int .i64 ((l.length : Int) - 2) ∧ Below w.heap.size w W) (fun i _ => 0)
      case atStart => exact ⟨rfl, HB2.out⟩
      case round =>
        obtain ⟨rfl, hB⟩ := hrel
        go_wp2_with fail
        go_quiet (fail)
        have hl4 : (l.length : Int) - 2 < 0 := by omega
        go_wp2_with fail
        refine bodyPost_ret (results_tmp2 Try.results24 _ _ _) rfl ?_
        exact ⟨.slice none 0 0, by rw [HN.out.1]; rfl, by rw [HN.out.2]; exact OwnI.nil _ _, below_drewN hB _⟩
    · have hG := HB1.out.size
      obtain ⟨g, cap, rfl, hg, hR, hc1, hc2⟩ := hO2.row (by omega)
      have HB12 := Hd.mk hB2
      have HG := Hd.mk hg
      have HR := Hd.mk hR
      have HC := Hd.mk (And.intro hc1 hc2)
      have hcap : cap ≤ 9223372036854775807 := by unfold maxLen at hc2; omega
      clear hO2 hB2 hg hR hc2
      go_wp2_with fail
      go_loopw [7] (fun i W => ∃ k : Nat, k + 1 ≤ l.length ∧ i = .int .i64 ((k : Int) - 1) ∧ Hd (desc (l.drop k)) ∧ Below w2.heap.size w2 W) (fun i _ => (intOf i + 1).toNat)
      case atStart => exact ⟨l.length - 1, by omega, by congr 1; omega, ⟨desc_last (by omega)⟩, Below.refl _ _⟩
      case round =>
        obtain ⟨k, hk, rfl, HD, hB⟩ := hrel
        have hRW := HR.out.below hB
        rcases k with _ | m
        · have HN := Hd.mk (HE.out.1 (next_none (by simpa using HD.out)))
          have e0 : ((0 : Nat) : Int) - 1 = -1 := rfl
          rw [e0]
          have d0 : decide ((0 : Int) ≤ -1) = false := rfl
          clear hRW
          go_wp2_with fail
          go_quiet (fail)
          go_wp2_with fail
          refine bodyPost_ret (results_tmp2 Try.results24 _ _ _) rfl ?_
          exact ⟨.slice none 0 0, by rw [HN.out.1]; rfl, by rw [HN.out.2]; exact OwnI.nil _ _, HB2.out.trans ((below_drewN hB _).mono HB2.out.size)⟩
        · rw [show ((m + 1 : Nat) : Int) - 1 = (m : Int) from by omega]
          have hx := hRW.cell m (by omega)
          have hy := hRW.cell (m + 1) (by omega)
          have HST := Hd.mk (desc_step (l := l) (i := m) (by omega) HD.out)
          have HXY : Hd (l.getD m 0 = l[m] ∧ l.getD (m + 1) 0 = l[m + 1]) := ⟨getD_get _, getD_get _⟩
          have hne : l.getD m 0 ≠ l.getD (m + 1) 0 := fun e => by
            rw [HXY.out.1, HXY.out.2] at e
            exact List.pairwise_iff_getElem.1 HND.out m (m + 1) (by omega) (by omega) (by omega) e
          obtain ⟨x, hx'⟩ : ∃ x, l.getD m 0 = x := ⟨_, rfl⟩
          obtain ⟨y, hy'⟩ : ∃ y, l.getD (m + 1) 0 = y := ⟨_, rfl⟩
          rw [hx'] at hx hne
          rw [hy'] at hy hne
          have HX := Hd.mk hx'
          have HY := Hd.mk hy'
          have i0 : (0 : Int) ≤ (m : Int) := by omega
          have i1 : (m : Int) + 1 < (l.length : Int) := by omega
          have hw : IntKind.i64.wrap ((m : Int) + 1) = (m : Int) + 1 := IntWalk.i64_in _ ⟨by omega, by omega⟩
          have i2 : ((m : Int) + 1).toNat = m + 1 := by omega
          have i3 : (0 : Int) ≤ (m : Int) + 1 := by omega
          have i4 : (m : Int) < (l.length : Int) := by omega
          have d0 : decide ((0 : Int) ≤ (m : Int)) = true := decide_eq_true i0
          clear hx' hy' hRW
          by_cases hxy : y < x
          · have hd : decide (y < x) = true := decide_eq_true hxy
            have HN : Hd (desc (l.drop m)) := ⟨HST.out (by rw [← HXY.out.1, ← HXY.out.2, HX.out, HY.out]; exact hxy)⟩
            clear HST
            go_wp2_with fail
            go_quiet (fail)
            go_wp2_with fail
            go_roundw
            case rel => exact ⟨m, by omega, rfl, HN, below_drewN hB _⟩
            case measure => simp [intOf]
          · have hd : decide (y < x) = false := decide_eq_false hxy
            have hlt : x < y := by omega
            have hgs := gt_some (l := l) (i := m) (by omega) HD.out (by rw [← HXY.out.1, ← HXY.out.2, HX.out, HY.out]; exact hlt)
            obtain ⟨q, hq⟩ : ∃ q, gtc (l.drop (m + 1)) l[m] = q + 1 := ⟨gtc (l.drop (m + 1)) l[m] - 1, by omega⟩
            have hql : q < l.length - (m + 1) := by have := gtc_le (l.drop (m + 1)) l[m]; rw [List.length_drop] at this; omega
            have HNX := Hd.mk (HE.out.2 _ (next_at (by omega) HD.out hq))
            have HRO := Hd.mk (next_row (l := l) (i := m) (m := q) (by omega) (by rw [List.length_drop]; omega))
            have HGA := Hd.mk (gt_at HND.out (by omega) HD.out hq)
            have HGE := Hd.mk (gt_end (by omega) HD.out hq (by omega))
            obtain ⟨W3, hW3⟩ : ∃ W3, W3 = wr := ⟨_, rfl⟩
            subst hW3
            clear HST hgs hq
            go_wp2_with fail
            go_quiet (fail)
            go_wp2_with fail
            have HB3 := Hd.mk (below_drewN hB nq)
            generalize W3.drewN nq = W4 at HB3 ⊢
            clear hB hx hy
            have HXE : Hd (l[m] = x) := ⟨by rw [← HX.out]; exact HXY.out.1.symm⟩
            go_loopw [8] (fun i W => ∃ p : Nat, m + 1 + q ≤ p ∧ p < l.length ∧ i = .int .i64 (p : Int) ∧ Below w2.heap.size w2 W) (fun i _ => (intOf i).toNat)
            case atStart => exact ⟨l.length - 1, by omega, by omega, by congr 1; omega, HB3.out⟩
            case round =>
              obtain ⟨p, hp1, hp2, rfl, hB⟩ := hrel
              have hRW := HR.out.below hB
              have hcm := hRW.cell m (by omega)
              have hcp := hRW.cell p hp2
              obtain ⟨z, hz⟩ : ∃ z, l.getD p 0 = z := ⟨_, rfl⟩
              have hzp : l[p] = z := by rw [← hz]; exact (getD_get hp2).symm
              have HZ := Hd.mk hz
              have HZP := Hd.mk hzp
              rw [HX.out] at hcm
              rw [hz] at hcp
              have j0 : (0 : Int) ≤ (p : Int) := by omega
              have j1 : (p : Int) < (l.length : Int) := by omega
              have HRW := Hd.mk hRW
              clear hz hzp hRW
              by_cases hpp : m + 1 + q < p
              · have hzx : z < x := by
                  have := HGA.out p hpp hp2
                  rwa [HZP.out, HXE.out] at this
                have hd : decide (z < x) = true := decide_eq_true hzx
                go_wp2_with fail
                go_quiet (fail)
                go_wp2_with fail
                go_roundw
                case rel => exact ⟨p - 1, by omega, by omega, by congr 1; omega, below_drewN hB _⟩
                case measure => simp [intOf]; omega
              · have hpe : p = m + 1 + q := by omega
                have HPE := Hd.mk hpe
                have hzx : x < z := by
                  have h1 := HGE.out
                  subst hpe
                  rwa [HZP.out, HXE.out] at h1
                have hd : decide (z < x) = false := decide_eq_false (by omega)
                have fm := HRW.out.free m
                have fp := HRW.out.free p
                have HS := Hd.mk (HRW.out.swap m p (by omega) hp2)
                simp only [HX.out, HZ.out] at HS
                have hne : m < p := by omega
                clear hpe
                go_wp2_with fail
                go_quiet (fail)
                go_wp2_with fail
                go_region
                go_wp2_with fail
                have HS2 := (HRW.out.drewN (nq + 1)).swap m p (by omega) hp2
                simp only [HX.out, HZ.out] at HS2
                have hge : w.heap.size ≤ g := by have := HG.out; omega
                have hBS : Below w.heap.size w (((wr.drewN (nq + 1)).setCell ⟨g, m, none⟩ (.int .i64 z)).setCell ⟨g, p, none⟩ (.int .i64 x)) :=
                  ((below_drewN (HB2.out.trans (hB.mono HB2.out.size)) (nq + 1)).setCell hge _).setCell hge _
                have hsum : m + 1 + (l.length - (m + 1)) = l.length := by omega
                have HSUM := Hd.mk hsum
                have hR := reverse_any g (m + 1) (l.length - (m + 1)) (cap - (m + 1)) _ _ (by rw [hsum]; exact HS2) (by omega)
                have HBS := Hd.mk hBS
                clear HS2 hBS hsum
                refine hR.mono ?_
                rintro e w5 ⟨⟨v5, rfl⟩, hR5, hG5⟩
                have HFIN : Hd (OwnI w5 w.heap.size (.slice (some ⟨g, 0, none⟩) l.length cap) (nxO l) ∧ Below w.heap.size w w5) := ⟨by
                  refine ⟨?_, HBS.out.trans (below_grown hG5 hge HBS.out.size)⟩
                  rw [HNX.out.2]
                  rw [HSUM.out] at hR5
                  refine hR5.own (by simp; omega) (fun j hj => ?_) hge HC.out.1 HC.out.2
                  rw [← HRO.out j hj, HPE.out]⟩
                clear hR5 hG5 hR
                go_wp2_with fail
                refine bodyPost_ret (results_tmp2 Try.results24 _ _ _) rfl ?_
                exact ⟨_, by rw [HNX.out.1]; rfl, HFIN.out⟩
end Go.Proofs.Ytmahjgffadbdcaa
