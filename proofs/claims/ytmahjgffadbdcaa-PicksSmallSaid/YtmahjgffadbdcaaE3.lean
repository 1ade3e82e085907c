/- The laws' Mixed. -/
import Derived.Test.YtmahjgffadbdcaaE2
namespace Go.Proofs.Ytmahjgffadbdcaa
open Go.RowKit
set_option linter.unusedVariables false

theorem RowF.kept {W W' : World} {g N : Nat} {f : Nat → Int} {r : Option Nat} (h : RowF W g N f) (hg : W.grownBy W' r) (hne : some g ≠ r) : RowF W' g N f := by
  have hb := hg.block g h.lt hne
  exact ⟨Nat.lt_of_lt_of_le h.lt hg.size, fun j hj => hg.cell (h.cell j hj) hne, fun j => by
    have := h.free j
    simp only [World.frozen?, hb] at this ⊢
    exact this⟩

theorem delete_row {w : World} {g cap k : Nat} {l : List Int} (hR : RowF w g l.length (fun j => l.getD j 0)) (h1 : l.length ≤ cap) (h2 : cap ≤ maxLen) (hk : k < l.length) (hl : l.length ≤ 100000) :
    Calls Try.prog 30 #[.slice (some ⟨g, 0, none⟩) l.length cap, .int .i64 (k : Int), .int .i64 ((k : Int) + 1)] w fun e w' => e = .returned (.slice (some ⟨g, 0, none⟩) (l.length - 1) cap) ∧ RowF w' g (l.eraseIdx k).length (fun j => (l.eraseIdx k).getD j 0) ∧ w.grownBy w' (some g) := by
  have hm : cap ≤ 9223372036854775807 := by unfold maxLen at h2; omega
  have hc := Try.slices_Delete_int_cells g 0 l.length cap k (k + 1) l w (Nat.le_refl _) h1 hm (by omega) (by omega) (fun j hj => by rw [Nat.zero_add]; exact hR.cell j hj) (fun j hj => by rw [Nat.zero_add]; exact hR.free j)
  refine hc.mono ?_
  rintro e w' ⟨rfl, q, rfl⟩
  have hE : l.eraseIdx k = (l.take l.length).take k ++ (l.take l.length).drop (k + 1) := by rw [List.take_length, List.eraseIdx_eq_take_drop_succ]
  have hEl : (l.eraseIdx k).length = l.length - (k + 1 - k) := by rw [List.length_eraseIdx, if_pos hk]; omega
  rw [← hE]
  have hsz : (l.eraseIdx k ++ List.replicate (k + 1 - k) (0 : Int)).length = l.length := by rw [List.length_append, hEl, List.length_replicate]; omega
  have hgr : ∀ (vs : List Value) (o : Nat) (W : World), w.grownBy W (some g) → w.grownBy (W.setCells g o vs) (some g) := by
    intro vs; induction vs with
    | nil => intro o W hW; exact hW
    | cons v r ih => intro o W hW; rw [World.setCells]; exact ih _ _ (grown_trans hW (grown_set _ _ _ _))
  have hG := hgr ((l.eraseIdx k ++ List.replicate (k + 1 - k) (0 : Int)).map (Value.int .i64)) 0 (w.drewN q) (grown_drewN (grown_refl _ _) q)
  refine ⟨by rw [show k + 1 - k = 1 by omega], ⟨Nat.lt_of_lt_of_le hR.lt hG.size, fun j hj => ?_, fun j => ?_⟩, hG⟩
  · have := World.cell?_setCells_in g ((l.eraseIdx k ++ List.replicate (k + 1 - k) (0 : Int)).map (Value.int .i64)) 0 (w.drewN q) (fun j hj => by
      rw [Nat.zero_add]
      show (w.cell? ⟨g, j, none⟩).isSome = true
      rw [hR.cell j (by rw [List.length_map] at hj; omega)]; rfl) j (by rw [List.length_map]; omega)
    rw [Nat.zero_add] at this
    rw [this, List.getElem_map, List.getElem_append_left hj, List.getD_eq_getElem?_getD, List.getElem?_eq_getElem hj, Option.getD_some]
  · rw [World.frozen?_setCells]; exact hR.free j

@[reducible] def e8 (n : Int) : Value := .int .u8 n
def mixK (n : Nat) (bs : List Int) : Nat := (bs.headD 0).toNat % (n + 1)
def mixV : Nat → List Int → List Int → List Int
  | 0, _, _ => []
  | n + 1, S, bs => S.getD (mixK n bs) 0 :: mixV n (S.eraseIdx (mixK n bs)) bs.tail
theorem mixK_lt (n : Nat) (bs : List Int) : mixK n bs < n + 1 := Nat.mod_lt _ (by omega)
theorem mix_perm : ∀ (n : Nat) (S bs : List Int), S.length = n → (mixV n S bs).Perm S
  | 0, S, _, h => by rw [List.length_eq_zero_iff.1 h]; exact .nil
  | n + 1, S, bs, h => by
    have hk : mixK n bs < S.length := by rw [h]; exact mixK_lt n bs
    have := mix_perm n (S.eraseIdx (mixK n bs)) bs.tail (by rw [List.length_eraseIdx, if_pos hk]; omega)
    rw [mixV, List.getD_eq_getElem?_getD, List.getElem?_eq_getElem hk, Option.getD_some]
    exact (this.cons _).trans (perm_eraseIdx _ hk)
theorem mixK_at {bs : List Int} {i : Nat} (n : Nat) (h : i < bs.length) : mixK n (bs.drop i) = bs[i].toNat % (n + 1) := by
  rw [mixK, List.drop_eq_getElem_cons h]; rfl
theorem mixK_out {bs : List Int} {i : Nat} (n : Nat) (h : bs.length ≤ i) : mixK n (bs.drop i) = 0 := by
  rw [mixK, List.drop_eq_nil_of_le h]; simp
def mixedV (x : BitVec 16) (bs : List Int) : List Int := mixV (readyV x).length (readyV x) bs
theorem mixed_perm (x : BitVec 16) (bs : List Int) : (mixedV x bs).Perm (readyV x) := mix_perm _ _ _ rfl

set_option maxRecDepth 100000 in
set_option maxHeartbeats 2000000 in
theorem mixed_any (x : BitVec 16) (v : Value) (bs : List Int) (w : World) (h : SrcE e8 w v bs) (hb : ∀ b ∈ bs, 0 ≤ b ∧ b ≤ 255) : Calls Try.prog 12 #[h16 x, v] w fun e w' => ∃ v', e = .returned v' ∧ OwnI w' w.heap.size v' (mixedV x bs) ∧ Below w.heap.size w w' := by
  have hsm := SrcE.small h
  obtain ⟨a, c, rfl⟩ := SrcE.shape h
  have H := Hd.mk h
  have HBB := Hd.mk hb
  clear h hb
  go_enter Try.func12, Try.ntmps12
  go_wp2_with fail
  refine (ready_any x _).mono ?_
  rintro e w1 ⟨v1, rfl, hO, hB⟩
  have hlen := (ready_ok x).len
  have HMX : Hd (mixedV x bs = mixV (readyV x).length (readyV x) bs) := ⟨rfl⟩
  generalize readyV x = S0 at hO hlen HMX
  have HB := Hd.mk hB
  have HL : Hd (∃ a1 c1, v1 = .slice a1 S0.length c1) := ⟨hO.src.shape⟩
  have HROW : Hd (0 < S0.length → ∃ g cap, v1 = .slice (some ⟨g, 0, none⟩) S0.length cap ∧ g < w1.heap.size ∧ w.heap.size ≤ g ∧ RowF w1 g S0.length (fun j => S0.getD j 0) ∧ S0.length ≤ cap ∧ cap ≤ maxLen) := ⟨fun h => by
    obtain ⟨g, cap, h1, h2, h3, h4, h5⟩ := hO.row h
    exact ⟨g, cap, h1, h3.lt, h2, h3, h4, h5⟩⟩
  have hs1 := hB.size
  clear hO hB
  obtain ⟨a1, c1, rfl⟩ := HL.out
  go_wp2_with fail
  go_loopw [5, 6, 7] (fun v5 v6 i W => ∃ (i' n : Nat) (S out : List Int), i' + n = S0.length ∧ S.length = n ∧ out.length = i' ∧ i = .int .i64 i' ∧ w1.heap.size ≤ W.heap.size ∧ AppI W w1.heap.size v6 out ∧
      (∃ a5 c5, v5 = .slice a5 n c5) ∧
      Hd (0 < n → ∃ g cap, v5 = .slice (some ⟨g, 0, none⟩) n cap ∧ g < w1.heap.size ∧ w.heap.size ≤ g ∧ RowF W g n (fun j => S.getD j 0) ∧ n ≤ cap ∧ cap ≤ maxLen) ∧
      Below w.heap.size w W ∧
      Hd (mixedV x bs = out ++ mixV n S (bs.drop i'))) (fun _ _ i _ => 16 - (intOf i).toNat)
  case atStart =>
    exact ⟨0, S0.length, S0, [], by omega, rfl, rfl, rfl, Nat.le_refl _, OwnE.nil _ _ _ _, ⟨a1, c1, rfl⟩, HROW, HB.out, ⟨by rw [HMX.out]; rfl⟩⟩
  case round =>
    obtain ⟨i', n, S, out, hin, hS, hout, rfl, hB, hO, ⟨a5, c5, rfl⟩, HR, hBw, HE⟩ := hrel
    rcases n with _ | n
    · have HO := Hd.mk hO
      have HEND : Hd (mixedV x bs = out) := ⟨by rw [HE.out]; simp [mixV]⟩
      clear hO HE HR
      go_wp2_with fail
      go_ret
      refine ⟨_, rfl, ?_, hBw⟩
      rw [HEND.out]
      rcases OwnI.of HO.out with h | ⟨g', cap', h1, h2, h3⟩
      · exact .inl h
      · exact .inr ⟨g', cap', h1, Nat.le_trans hs1 h2, h3⟩
    · obtain ⟨g, cap, hv, hg, hgw, hR, hc1, hc2⟩ := HR.out (by omega)
      simp only [Value.slice.injEq, true_and] at hv
      obtain ⟨rfl, rfl⟩ := hv
      have n0 : (0 : Int) < ((n + 1 : Nat) : Int) := by omega
      have hiL : (i' : Int) ≤ 16 := by omega
      have HKL := Hd.mk (mixK_lt n (bs.drop i'))
      have HMV : Hd (mixV (n + 1) S (bs.drop i') = S.getD (mixK n (bs.drop i')) 0 :: mixV n (S.eraseIdx (mixK n (bs.drop i'))) (bs.drop (i' + 1))) := ⟨by rw [mixV, List.tail_drop]⟩
      have HKA : Hd (∀ h : i' < bs.length, mixK n (bs.drop i') = bs[i'].toNat % (n + 1)) := ⟨fun h => mixK_at n h⟩
      have HKO : Hd (bs.length ≤ i' → mixK n (bs.drop i') = 0) := ⟨fun h => mixK_out n h⟩
      obtain ⟨k, hk⟩ : ∃ k, mixK n (bs.drop i') = k := ⟨_, rfl⟩
      rw [hk] at HKL HMV HKA HKO
      have hkl := HKL.out
      have hkS : k < S.length := by omega
      have hx := hR.cell k (by omega)
      obtain ⟨x', hx'⟩ : ∃ x', S.getD k 0 = x' := ⟨_, rfl⟩
      simp only [hx'] at hx HMV
      obtain ⟨v', w2, hr, ho2, hB2, hg2⟩ := push_i x' hO (Below.refl w1.heap.size wr) hB (by omega)
      have hne : some g ≠ u6.ownBlock := fun e => by have := (World.ownsRow.lt hO g e.symm).1; omega
      have hR2 : RowF w2 g S.length (fun j => S.getD j 0) := by
        rw [hS]
        exact (hR.below ((Below.refl _ _).alloc (Nat.le_refl _) (.cells #[.int .i64 x'] 3))).kept hg2 hne
      have hEL : (S.eraseIdx k).length = n := by rw [List.length_eraseIdx, if_pos hkS]; omega
      have HNX : Hd (mixedV x bs = (out ++ [x']) ++ mixV n (S.eraseIdx k) (bs.drop (i' + 1))) := ⟨by rw [HE.out, HMV.out, List.append_assoc]; rfl⟩
      have hdel := delete_row (k := k) hR2 (by omega) hc2 hkS (by omega)
      rw [hS, hEL, Nat.add_sub_cancel] at hdel
      have hw2 : Below w.heap.size w w2 := by
        have h1 := hBw.alloc (by omega) (.cells #[.int .i64 x'] 3)
        exact h1.grown hg2 (by simp; omega) (fun k hk => by have := (World.ownsRow.lt hO k hk).1; omega)
      have HFIN : Hd (∀ W, RowF W g n (fun j => (S.eraseIdx k).getD j 0) → w2.grownBy W (some g) →
          (w1.heap.size ≤ W.heap.size ∧ AppI W w1.heap.size v' (out ++ [x']) ∧ Below w.heap.size w W)) := ⟨fun W hRW hGW => by
        have hne2 : v'.ownBlock ≠ some g := fun e => by have := (World.ownsRow.lt ho2 g e).1; omega
        exact ⟨by have := hGW.size; have := hB2.size; omega, OwnE.kept ho2 hGW (.inr hne2), hw2.trans (below_grown hGW hgw hw2.size)⟩⟩
      have HGC := Hd.mk (And.intro hc1 hc2)
      have HLB := Hd.mk hout
      have hEL' := Hd.mk hEL
      have hin' := hin
      have HG := Hd.mk (And.intro hg hgw)
      have HSB : Hd (∀ h : i' < bs.length, ∃ b off, a = some ⟨b, off, none⟩ ∧ wr.cell? ⟨b, off + i', none⟩ = some (.int .u8 bs[i']) ∧ 0 ≤ bs[i'] ∧ bs[i'] ≤ 255) := ⟨fun h => by
        obtain ⟨b, off, h1, h2, h3⟩ := SrcE.at (SrcE.below H.out hBw) i' h
        exact ⟨b, off, h1, h3, HBB.out _ (List.getElem_mem h)⟩⟩
      clear hw2 hO ho2 hB2 hg2 hR hR2 HR HE HMV hne hout hEL hBw hx' hS
      by_cases hlt : i' < bs.length
      · obtain ⟨b, off, rfl, hy, hy0, hy1⟩ := HSB.out hlt
        have HK2 := Hd.mk (HKA.out hlt)
        have i0 : (0 : Int) ≤ (i' : Int) := by omega
        have i1 : (i' : Int) < (bs.length : Int) := by omega
        generalize bs[i'] = y at hy hy0 hy1 HK2
        obtain ⟨yn, rfl⟩ : ∃ yn : Nat, y = yn := ⟨y.toNat, by omega⟩
        have hq : (yn : Int) % ((n : Int) + 1) = (k : Int) := by
          have := HK2.out
          rw [Int.toNat_natCast] at this
          rw [this]; rfl
        have k0 : (0 : Int) ≤ (k : Int) := by omega
        have k1 : (k : Int) < (n : Int) + 1 := by omega
        have k2 : (k : Int) < ((n + 1 : Nat) : Int) := by omega
        clear HSB HKA HKO HKL
        go_wp2_with (at_builtin; refine wpList_append_run rfl _ _ _ rfl rfl rfl hr ?_; clear hr)
        refine hdel.mono ?_
        rintro e w5 ⟨rfl, hR5, hG5⟩
        have HF5 := Hd.mk (HFIN.out _ hR5 hG5)
        have HR5 := Hd.mk hR5
        clear hR5 hG5 hdel HFIN
        go_wp2_with fail
        go_roundw
        case rel =>
          have hgc := HGC.out
          have hg' := HG.out
          exact ⟨i' + 1, n, S.eraseIdx k, out ++ [x'], by omega, hEL'.out, by have := HLB.out; simp; omega, by go_num, HF5.out.1, HF5.out.2.1, ⟨_, _, rfl⟩, ⟨fun _ => ⟨g, _, rfl, hg'.1, hg'.2, HR5.out, by omega, hgc.2⟩⟩, HF5.out.2.2, HNX⟩
        case measure => simp [intOf]; omega
      · obtain rfl : k = 0 := HKO.out (by omega)
        have i1 : ¬ (i' : Int) < (bs.length : Int) := by omega
        have k2 : (0 : Int) < ((n + 1 : Nat) : Int) := by omega
        have k3 : (0 : Int) < (n : Int) + 1 := by omega
        clear HSB HKA HKO HKL
        go_wp2_with (at_builtin; refine wpList_append_run rfl _ _ _ rfl rfl rfl hr ?_; clear hr)
        refine hdel.mono ?_
        rintro e w5 ⟨rfl, hR5, hG5⟩
        have HF5 := Hd.mk (HFIN.out _ hR5 hG5)
        have HR5 := Hd.mk hR5
        clear hR5 hG5 hdel HFIN
        go_wp2_with fail
        go_roundw
        case rel =>
          have hgc := HGC.out
          have hg' := HG.out
          exact ⟨i' + 1, n, S.eraseIdx 0, out ++ [x'], by omega, hEL'.out, by have := HLB.out; simp; omega, by go_num, HF5.out.1, HF5.out.2.1, ⟨_, _, rfl⟩, ⟨fun _ => ⟨g, _, rfl, hg'.1, hg'.2, HR5.out, by omega, hgc.2⟩⟩, HF5.out.2.2, HNX⟩
        case measure => simp [intOf]; omega
end Go.Proofs.Ytmahjgffadbdcaa
