/- The reference's For and Rank. -/
import Derived.Test.YtmahjgffadbdcaaG4
import Derived.Test.YtmahjgffadbdcaaF1
import Derived.Deep.RegionWith
namespace Go.Proofs.Ytmahjgffadbdcaa
open Go.RowKit
set_option linter.unusedVariables false

set_option maxRecDepth 100000 in
set_option maxHeartbeats 4000000 in
theorem rfor_any (v : Value) (l : List Int) (w : World) (h : SrcI w v l) (hok : OkO l) : Calls Try.prog 39 #[v] w fun e w' => ∃ v', e = .returned v' ∧ SrcI w' v' (l.take (needV l)) ∧ Below w.heap.size w w' := by
  have hlen := hok.len
  have H := Hd.mk h
  obtain ⟨a, c, rfl⟩ := h.shape
  have hcap := h.cap
  have hc1 := hcap.2.1
  have hc2 := hcap.2.2
  have HNL : Hd (l.length = 0 → needV l = 0) := ⟨fun h => by rw [List.length_eq_zero_iff.1 h]; rfl⟩
  have HNB := Hd.mk (need_lt l)
  have HPM := Hd.mk (sort_perm hok)
  have HORD : Hd (∀ k, ((ordV (sortV l).length (sortV l) (l.take k)).1 = l ↔ needV l ≤ k)) := ⟨fun k => (ord_iff (sortV l).length l (sortV l) k (sort_asc l) (sort_perm hok).symm rfl).1⟩
  clear h hcap
  obtain ⟨nd, hnd⟩ : ∃ nd, needV l = nd := ⟨_, rfl⟩
  rw [hnd] at HNL HNB HORD ⊢
  clear hnd
  go_enter Try.func39, Try.ntmps39
  go_wp2_with fail
  go_loopw [3] (fun i W => ∃ k : Nat, k ≤ nd ∧ i = .int .i64 k ∧ Below w.heap.size w W) (fun i _ => nd + 1 - (intOf i).toNat)
  case atStart => exact ⟨0, by omega, rfl, Below.refl _ _⟩
  case round =>
    obtain ⟨k, hk, rfl, hB⟩ := hrel
    have hS := H.out.below hB
    by_cases hl0 : l.length = 0
    · have h0 := HNL.out hl0
      have hk0 : k = 0 := by omega
      subst hk0
      have hlt : (l.length : Int) ≤ 0 := by omega
      have HT : Hd (l.take nd = []) := ⟨by rw [h0]; rfl⟩
      clear h0 hS
      go_wp2_with fail
      go_ret
      exact ⟨.slice none 0 0, rfl, by rw [HT.out]; exact SrcI.nil _, hB⟩
    · have hkl : k < l.length := by have := HNB.out; omega
      have k0 : (0 : Int) ≤ (k : Int) := by omega
      have k1 : (k : Int) < (l.length : Int) := by omega
      have k2 : (k : Int) ≤ (c : Int) := by omega
      have k3 : k ≤ c := by omega
      have hT := hS.takeA k (by omega)
      obtain ⟨r, hr⟩ : ∃ r, ordV (sortV l).length (sortV l) (l.take k) = r := ⟨_, rfl⟩
      obtain ⟨o3, t3, u3⟩ := r
      have HR3 := Hd.mk hr
      have hiff := HORD.out k
      rw [hr] at hiff
      have HIFF := Hd.mk hiff
      have HSL : Hd ((sortV l).length ≤ 1000) := ⟨by rw [HPM.out.length_eq]; omega⟩
      have hord : ∀ (W : World) (vs : Value), SrcI W vs (sortV l) → SrcI W (.slice a k c) (l.take k) → Calls Try.prog 37 #[vs, .slice a k c] W fun e w' => ∃ v', e = .returned (.tuple #[v', .int .i64 (t3 : Nat), .int .i64 (u3 : Nat)]) ∧ OwnI w' W.heap.size v' o3 ∧ Below W.heap.size W w' := fun W vs h1 h2 => by
        have := rorder_any vs _ (sortV l) (l.take k) W h1 h2 HSL.out
        rw [HR3.out] at this; exact this
      have HK := Hd.mk hord
      have HB := Hd.mk hB
      have HS := Hd.mk hS
      have HT := Hd.mk hT
      clear hr hiff hord hB hS hT
      have hdr : Below wr.heap.size wr wr.drew := below_drewN (Below.refl _ _) 1
      have HDR := Hd.mk hdr
      clear hdr
      go_wp2_with fail
      go_region_with (first
        | (go_at_call 38; refine (rsorted_any _ l _ (HS.out.below HDR.out)).mono ?_; rintro e w5 ⟨v5, rfl, hO5, hB5⟩; have HO5 := Hd.mk hO5.src; have HB5 := Hd.mk (ch4 HDR.out hB5); clear hO5 hB5)
        | (go_at_call 37; refine (HK.out _ _ HO5.out (HT.out.below HB5.out)).mono ?_; rintro e w6 ⟨v6, rfl, hO6, hB6⟩; have HO6 := Hd.mk hO6.src; have HB6 := Hd.mk (ch4 HB5.out hB6); clear hO6 hB6))
      by_cases hge : nd ≤ k
      · have hkn : k = nd := by omega
        have hos : o3 = l := HIFF.out.2 hge
        have HTK : Hd (l.take k = l.take nd) := ⟨by rw [hkn]⟩
        have HOS := Hd.mk hos
        clear hkn hos
        go_wp2_with fail
        refine (rsame_any _ _ o3 l _ HO6.out (HS.out.below HB6.out)).mono ?_
        rintro e w7 ⟨rfl, hB7⟩
        rw [decide_eq_true HOS.out]
        have HB7 := Hd.mk (ch4 HB6.out hB7)
        clear hB7
        go_wp2_with fail
        go_ret
        exact ⟨_, rfl, by rw [← HTK.out]; exact HT.out.below HB7.out, ch4 HB.out HB7.out⟩
      · have hos : o3 ≠ l := fun h => hge (HIFF.out.1 h)
        have HOS := Hd.mk (decide_eq_false hos)
        clear hos
        go_wp2_with fail
        refine (rsame_any _ _ o3 l _ HO6.out (HS.out.below HB6.out)).mono ?_
        rintro e w7 ⟨rfl, hB7⟩
        rw [HOS.out]
        have HB7 := Hd.mk (ch4 HB6.out hB7)
        clear hB7
        go_wp2_with fail
        go_roundw
        case rel => exact ⟨k + 1, by omega, by go_num, ch4 HB.out HB7.out⟩
        case measure => simp [intOf]; omega

end Go.Proofs.Ytmahjgffadbdcaa
