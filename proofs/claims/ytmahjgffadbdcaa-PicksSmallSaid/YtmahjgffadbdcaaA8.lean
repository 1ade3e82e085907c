/- Walk of picks.For. -/
import Derived.Test.YtmahjgffadbdcaaA7
namespace Go.Proofs.Ytmahjgffadbdcaa
open Go.RowKit
set_option linter.unusedVariables false

def forV (l : List Int) : List Int := if okO l then l.take (needV l) else []
theorem SrcI.take {w : World} {ad : Addr} {n c : Nat} {l : List Int} (h : SrcI w (.slice (some ad) n c) l) (m : Nat) (hm : m ≤ l.length) : SrcI w (.slice (some ad) m c) (l.take m) := by
  rcases h with ⟨h, _⟩ | ⟨ad', c', hv, hc, hmx, hcell⟩
  · simp at h
  · simp only [Value.slice.injEq, Option.some.injEq] at hv
    obtain ⟨rfl, _, rfl⟩ := hv
    refine .inr ⟨ad, c, by rw [List.length_take, Nat.min_eq_left hm], by rw [List.length_take]; omega, hmx, fun j hj => ?_⟩
    rw [List.length_take] at hj
    rw [hcell j (by omega), List.getElem_take]
theorem SrcI.cap {w : World} {a : Option Addr} {n c : Nat} {l : List Int} (h : SrcI w (.slice a n c) l) : l.length = n ∧ n ≤ c ∧ c ≤ 9223372036854775807 := by
  rcases h with ⟨h, rfl⟩ | ⟨ad', c', hv, hc, hmx, hcell⟩
  · simp only [Value.slice.injEq] at h; obtain ⟨_, rfl, rfl⟩ := h; simp
  · simp only [Value.slice.injEq] at hv
    obtain ⟨_, rfl, rfl⟩ := hv
    simp only [maxLen] at hmx
    exact ⟨rfl, hc, by omega⟩

set_option maxRecDepth 100000 in
set_option maxHeartbeats 1000000 in
theorem for_any (v : Value) (l : List Int) (w : World) (h : SrcI w v l) : Calls Try.prog 13 #[v] w fun e w' => ∃ v', e = .returned (.tuple #[v', .int .i64 (eV l)]) ∧ OwnI w' w.heap.size v' (forV l) ∧ Below w.heap.size w w' := by
  have hsm := h.small
  have H := Hd.mk h
  obtain ⟨a, c, rfl⟩ := h.shape
  have HCAP := Hd.mk h.cap
  clear h
  go_enter Try.func13, Try.ntmps13
  go_wp2_with fail
  refine (of_any _ l _ H.out).mono ?_
  rintro e w1 ⟨rfl, hB⟩
  have hB1 := hB.alloc hB.size (.cells (lf (ofS l)) 51)
  cases ho : okO l
  · have HO := Hd.mk ho
    have HB1 := Hd.mk hB1
    clear ho hB1 hB
    go_wp2_with (refine wpList_store_row rfl 51 _ _ rfl w1.heap.size (lf (ofS l)) rfl rfl 51 (lf []) (World.alloc_heap_new _ _) rfl rfl (lf_one _) ?_)
    rw [World.setRow_alloc_new]
    refine bodyPost_ret (results_tmp2 Try.results13 _ _ _) rfl ?_
    exact ⟨.slice none 0 0, by rw [eV, HO.out]; rfl, by rw [forV, HO.out]; exact OwnI.nil _ _, HB1.out⟩
  · have HE : Hd (eV l = 0 ∧ forV l = l.take (needV l)) := ⟨by rw [eV, forV, ho]; exact ⟨rfl, rfl⟩⟩
    have hok : OkO l := of_decide_eq_true ho
    have hX : (w1.alloc (.cells (lf (ofS l)) 51)).heap[w1.heap.size]? = some (.cells (lf (l.drop 0)) 51 (0, 0)) := by rw [World.alloc_heap_new, ofS, ho]; rfl
    have hlen := hok.len
    have hGs := hB.size
    have HOK := Hd.mk hok
    have HB1 := Hd.mk hB1
    have HX := Hd.mk hX
    clear ho hB1 hB hok hX
    go_wp2_with (refine wpList_store_row rfl 51 _ _ rfl w1.heap.size (lf (ofS l)) rfl rfl 51 (lf []) (World.alloc_heap_new _ _) rfl rfl (lf_one _) ?_)
    rw [World.setRow_alloc_new]
    generalize w1.alloc (.cells (lf (ofS l)) 51) = W1 at HB1 HX ⊢
    obtain ⟨G, hG⟩ : ∃ G, w1.heap.size = G := ⟨_, rfl⟩
    rw [hG] at HX hGs ⊢
    clear hG
    go_wp2_with fail
    go_loopw [6, 18] (fun r i W => ∃ k nd : Nat, k ≤ l.length ∧ nd ≤ k ∧ r = .int .i64 nd ∧ i = .int .i64 k ∧ Hd (needV l = if needV (l.drop k) = 0 then nd else k + needV (l.drop k)) ∧ Hd (W.heap[G]? = some (.cells (lf (l.drop k)) 51 (0, 0))) ∧ Below w.heap.size w W) (fun _ i _ => l.length - (intOf i).toNat)
    case atStart => exact ⟨0, 0, by omega, by omega, rfl, rfl, ⟨by rw [List.drop_zero]; split <;> omega⟩, HX, HB1.out⟩
    case round =>
      obtain ⟨k, nd, hk, hnk, rfl, rfl, HR, HG, hB⟩ := hrel
      by_cases hlt : k < l.length
      · obtain ⟨b, off, rfl, hb, hx⟩ := (H.out.below hB).at k hlt
        have hrg := HOK.out.rng _ (List.getElem_mem hlt)
        obtain ⟨q, hq⟩ : ∃ q : Nat, l[k] = q := ⟨l[k].toNat, by omega⟩
        have HST := Hd.mk (need_step HOK.out hlt HR.out)
        have HDEL := Hd.mk (drop_del HOK.out k hlt q hq)
        obtain ⟨z, hz⟩ : ∃ z, (sortV (l.drop k)).headD 0 = z := ⟨_, rfl⟩
        have HZ := Hd.mk hz
        rw [hz] at HST
        rw [hq] at hx HST hrg
        have hq17 : q < 17 := by omega
        have q0 : (0 : Int) ≤ (q : Int) := by omega
        have q3 : (q : Int) < 17 := by omega
        have hGl := cells_lt HG.out
        have HGe : Hd (wr.heap[G]? = some (.cells (lf (sortV (l.drop k))) 51 (0, 0))) := ⟨by rw [← drop_left HOK.out k]; exact HG.out⟩
        clear hq hz
        go_wp2_with fail
        refine (least_any G _ (sort_asc _) (sort_rng _) _ HGe.out).mono ?_
        rintro e w2 ⟨rfl, hB2⟩
        rw [HZ.out]
        have hG2 := (hB2.block G hGl).trans HG.out
        have hBB := ch4 hB hB2
        have hc := (cells_cell hG2 q)
        have hf := cells_free hG2 q
        have hc2 := (lf_get (l.drop k) q hq17)
        have hc3 := hc.trans hc2
        have HG2 := Hd.mk hG2
        clear hG2 hB2 hB hc hc2
        by_cases hpz : (q : Int) = z
        · have HST2 : Hd (needV l = if needV (l.drop (k + 1)) = 0 then nd else (k + 1) + needV (l.drop (k + 1))) := ⟨by rw [HST.out, if_pos hpz]⟩
          clear HST HZ
          subst hpz
          go_wp2_with fail
          go_roundw
          case rel => exact ⟨k + 1, nd, by omega, by omega, by go_num, by go_num, HST2, ⟨by rw [← HDEL.out]; exact cells_set HG2.out _⟩, hBB.setCell hGs _⟩
          case measure => simp [intOf]; omega
        · have hd : decide ((q : Int) = z) = false := decide_eq_false hpz
          have HST2 : Hd (needV l = if needV (l.drop (k + 1)) = 0 then k + 1 else (k + 1) + needV (l.drop (k + 1))) := ⟨by rw [HST.out, if_neg hpz]⟩
          clear HST HZ
          go_wp2_with fail
          go_roundw
          case rel => exact ⟨k + 1, k + 1, by omega, by omega, by go_num, by go_num, HST2, ⟨by rw [← HDEL.out]; exact cells_set HG2.out _⟩, hBB.setCell hGs _⟩
          case measure => simp [intOf]; omega
      · obtain rfl : k = l.length := by omega
        have HRE : Hd (needV l = nd) := ⟨by
          have := HR.out
          rw [List.drop_length] at this
          simpa [needV] using this⟩
        by_cases hn0 : nd = 0
        · subst hn0
          go_wp2_with fail
          refine bodyPost_ret (results_tmp2 Try.results13 _ _ _) rfl ?_
          exact ⟨.slice none 0 0, by rw [HE.out.1]; rfl, by rw [HE.out.2, HRE.out]; exact OwnI.nil _ _, hB⟩
        · obtain ⟨b, off, rfl, _⟩ := (H.out.below hB).at 0 (by omega)
          have hcap := HCAP.out.2.1
          have hcap2 := HCAP.out.2.2
          have i0 : ¬ ((nd : Int) = 0) := by omega
          have i1 : (nd : Int) ≤ (c : Int) := by omega
          have i2 : (0 : Int) ≤ (nd : Int) := by omega
          have i3 : nd ≤ c := by omega
          have HSRC := Hd.mk ((H.out.below hB).take nd hnk)
          have HBL := Hd.mk hB
          go_wp2_with fail
          refine (clone_any _ _ _ HSRC.out (by rw [List.length_take]; omega)).mono ?_
          rintro e w2 ⟨v', rfl, ho, hB2⟩
          have HFIN : Hd (OwnI w2 w.heap.size v' (forV l) ∧ Below w.heap.size w w2) := ⟨by
            have hs := HBL.out.size
            rw [HE.out.2, HRE.out]
            refine ⟨?_, ch4 HBL.out hB2⟩
            rcases ho with h | ⟨g, cap, h1, h2, h3⟩
            · exact .inl h
            · exact .inr ⟨g, cap, h1, by omega, h3⟩⟩
          clear ho hB2
          go_wp2_with fail
          refine bodyPost_ret (results_tmp2 Try.results13 _ _ _) rfl ?_
          exact ⟨v', by rw [HE.out.1]; rfl, HFIN.out⟩
end Go.Proofs.Ytmahjgffadbdcaa
