/- Walk of the law MixSmall. -/
import Derived.Test.YtdgmbghbjpmiiaaL5
import Derived.Test.YtdgmbghbjpmiiaaL4
import Derived.StillTailTactics
import Derived.Test.YtdgmbghbjpmiiaaM25
import Derived.WalkMore
import Derived.Deep.DeepCutAuto
namespace Go.Proofs.Ytdgmbghbjpmiiaa
open Go.RowKit

theorem nat_u (k : Nat) (h : k < 18446744073709551616) : (BitVec.ofNat 64 k).toNat = k := by rw [BitVec.toNat_ofNat]; omega
theorem intOf_u (k : Nat) (h : k < 18446744073709551616) : (intOf (u (BitVec.ofNat 64 k))).toNat = k := by
  show ((BitVec.ofNat 64 k).toNat : Int).toNat = k
  rw [nat_u k h]; omega
theorem nv_u (k : Nat) (h : k < 18446744073709551616) : nv (BitVec.ofNat 64 k) = (k : Int) := by rw [nv, nat_u k h]

set_option maxRecDepth 100000 in
set_option maxHeartbeats 4000000 in
theorem mixSmall_walk (w : World) : Calls Try.prog 6 #[] w fun e w' => e = .returned (.bool true) ∧ Below w.heap.size w w' := by
  have hum := u_mk
  go_enter Try.func6, Try.ntmps6
  go_wp2_with fail
  go_loopw [10] (fun i W => ∃ k : Nat, k ≤ 64 ∧ i = .int .i64 k ∧ Below w.heap.size w W) (fun i _ => 64 - (intOf i).toNat)
  case atStart => exact ⟨0, by omega, rfl, Below.refl _ _⟩
  case round =>
    obtain ⟨k, hk, rfl, hB⟩ := hrel
    by_cases hlt : k < 64
    · have hdk : decide ((k : Int) < 64) = true := by simp; omega
      go_wp2_with fail
      obtain ⟨wo, hwo⟩ : ∃ wo : World, wo = wr := ⟨_, rfl⟩
      rw [← hwo] at hB ⊢
      clear hwo
      go_loopw [15] (fun j W => ∃ m : Nat, m ≤ 66 ∧ j = .int .i64 m ∧ Below w.heap.size w W) (fun j _ => 66 - (intOf j).toNat)
      case atStart => exact ⟨0, by omega, rfl, hB⟩
      case round =>
        obtain ⟨m, hm, rfl, hB⟩ := hrel
        by_cases hlt2 : m < 66
        · go_wp2_with fail
          refine (tells_any _ _ (by omega) (by omega) _).mono ?_
          rintro e w2 ⟨rfl, hb2⟩
          have hB2 := hB.trans (hb2.mono hB.size)
          clear hb2
          go_wp2_with fail
          refine (tells_any _ _ (by omega) (by omega) _).mono ?_
          rintro e w3 ⟨rfl, hb3⟩
          have hB3 := hB2.trans (hb3.mono hB2.size)
          clear hb3 hB2
          go_wp2_with fail
          go_roundw
          case rel => exact ⟨m + 1, by omega, by go_num, hB3⟩
          case measure => simp [intOf]; omega
        · go_wp2_with fail
          refine (tells_any _ _ (by omega) (by omega) _).mono ?_
          rintro e w2 ⟨rfl, hb2⟩
          have hB2 := hB.trans (hb2.mono hB.size)
          clear hb2
          obtain ⟨r, hr⟩ := Int.eq_ofNat_of_zero_le (show 0 ≤ (k : Int) % 4 by omega)
          have hr3 : r ≤ 3 := by omega
          have hr4 : (r : Int) ≤ 3 := by omega
          go_wp2_with fail
          generalize hX : BitVec.ofInt 64 (2 ^ k) = X
          clear hX
          have hsrc : SrcE u (w2.alloc (.cells #[u X, u (BitVec.ofNat 64 k), u (~~~X)] 22)) (.slice (some ⟨w2.heap.size, 0, none⟩) r 3) ([X, BitVec.ofNat 64 k, ~~~X].take r) := by
            refine .inr ⟨⟨w2.heap.size, 0, none⟩, 3, by simp; omega, by simp; omega, by simp [maxLen], fun j hj => ?_⟩
            have hj3 : j < 3 := by simp at hj; omega
            rw [plain_add, Nat.zero_add, cells_cell (World.alloc_heap_new w2 _), List.getElem_take]
            have : j = 0 ∨ j = 1 ∨ j = 2 := by omega
            rcases this with rfl | rfl | rfl <;> rfl
          refine (mixJoins_walk _ _ _ _ _ _ hsrc (by simp; omega)).mono ?_
          rintro e w3 ⟨rfl, hb3⟩
          have hB3 := (hB2.alloc hB2.size _).trans (hb3.mono (by have := hB2.size; simp; omega))
          clear hb3 hB2 hsrc
          go_wp2_with fail
          go_roundw
          case rel => exact ⟨k + 1, by omega, by go_num, hB3⟩
          case measure => simp [intOf]; omega
    · go_wp2_with fail
      go_loopw [53] (fun i W => ∃ k : Nat, k ≤ 300 ∧ i = u (BitVec.ofNat 64 k) ∧ Below w.heap.size w W) (fun i _ => 300 - (intOf i).toNat)
      case atStart => exact ⟨0, by omega, rfl, hB⟩
      case round =>
        obtain ⟨k, hk, rfl, hB⟩ := hrel
        have hnv := nv_u k (by omega)
        by_cases hlt3 : k < 300
        · have hul : (BitVec.ofNat 64 k).ult 300#64 = true := by rw [BitVec.ult, nat_u k (by omega)]; simpa using hlt3
          have hsucc : BitVec.ofNat 64 k + 1#64 = BitVec.ofNat 64 (k + 1) := by rw [BitVec.ofNat_add]
          have HS := Hd.mk hsucc
          clear hsucc
          go_wp2_with fail
          refine (tells_any _ _ (by omega) (by omega) _).mono ?_
          rintro e w2 ⟨rfl, hb2⟩
          have hB2 := hB.trans (hb2.mono hB.size)
          clear hb2
          go_wp2_with fail
          have hsrc : SrcE u (w2.alloc (.cells #[u (BitVec.ofNat 64 k)] 22)) (.slice (some ⟨w2.heap.size, 0, none⟩) 1 1) [BitVec.ofNat 64 k] :=
            .inr ⟨⟨w2.heap.size, 0, none⟩, 1, rfl, by simp, by simp [maxLen], fun j hj => by
              obtain rfl : j = 0 := by simp at hj; exact hj
              rw [plain_add]; exact cells_cell (World.alloc_heap_new w2 _) 0⟩
          refine (mixJoins_walk _ _ _ _ _ _ hsrc rfl).mono ?_
          rintro e w3 ⟨rfl, hb3⟩
          have hB3 := (hB2.alloc hB2.size _).trans (hb3.mono (by have := hB2.size; simp; omega))
          clear hb3 hB2 hsrc
          go_wp2_with fail
          go_roundw
          case rel => exact ⟨k + 1, by omega, by rw [HS.out], hB3⟩
          case measure => rw [HS.out, intOf_u k (by omega), intOf_u (k + 1) (by omega)]; omega
        · have hul : (BitVec.ofNat 64 k).ult 300#64 = false := by rw [BitVec.ult, nat_u k (by omega)]; simpa using hlt3
          go_wp2_with fail
          go_loopw [75] (fun i W => ∃ k : Nat, k ≤ 14 ∧ i = .int .i64 k ∧ Below w.heap.size w W) (fun i _ => 14 - (intOf i).toNat)
          case atStart => exact ⟨0, by omega, rfl, hB⟩
          case round =>
            obtain ⟨i, hi, rfl, hB⟩ := hrel
            by_cases hlt4 : i < 14
            · have hdi : decide ((i : Int) < 14) = true := by simp; omega
              obtain ⟨wo, hwo⟩ : ∃ wo : World, wo = wr := ⟨_, rfl⟩
              rw [← hwo] at hB ⊢
              clear hwo
              go_upto_region 25 with fail
              obtain ⟨k, hk⟩ : ∃ k : Nat, (if (i : Int) - 1 < 0 then (0 : Int) else (i : Int) - 1) = (k : Int) ∧ k ≤ 13 := ⟨i - 1, by split <;> omega, by omega⟩
              generalize (if (i : Int) - 1 < 0 then (0 : Int) else (i : Int) - 1) = kk at hk ⊢
              obtain ⟨rfl, hk⟩ := hk
              refine r25 ⟨#[102, 49, 50, 51, 52, 53, 54, 55, 56, 57, 117, 118, 103]⟩ (by decide) i k (by omega) hk _ _ (fun c a t v w h => h) ?_
              intro _ _ _ _ _ _ _ _ _ _ _ _ _ _ _ _ _ _ _ _ _ _ _ _ _ _ _ _ _ _ _ _ _ _ _ _ _ _ _ _ _ _ _ _ _ _ _ _ _ _ _ _ _ _ _ _ _ _ _ _ _ _ _ _ _ _ _ _ _ _ g s0 s1 s2 s3 s4 s5 s6 s7 s8 s9 wx h0 h1 h2 h3 h4 h5 h6 h7 h8 h9 hg hbx
              have hBx := hB.trans (hbx.mono hB.size)
              have HBX := Hd.mk hBx
              have hgl : g < wx.heap.size := (Array.getElem?_eq_some_iff.1 hg).1
              have HC : Hd (∀ W, Below wx.heap.size wx W → ∀ m, m < 10 → ∃ s : ByteArray, s.size ≤ 100 ∧ W.cell? ⟨g, m, none⟩ = some (.string s)) := ⟨fun W hW m hm => by
                have hc := cells_cell ((hW.block g hgl).trans hg) m
                have : m = 0 ∨ m = 1 ∨ m = 2 ∨ m = 3 ∨ m = 4 ∨ m = 5 ∨ m = 6 ∨ m = 7 ∨ m = 8 ∨ m = 9 := by omega
                rcases this with rfl | rfl | rfl | rfl | rfl | rfl | rfl | rfl | rfl | rfl
                · exact ⟨s0, h0, hc⟩
                · exact ⟨s1, h1, hc⟩
                · exact ⟨s2, h2, hc⟩
                · exact ⟨s3, h3, hc⟩
                · exact ⟨s4, h4, hc⟩
                · exact ⟨s5, h5, hc⟩
                · exact ⟨s6, h6, hc⟩
                · exact ⟨s7, h7, hc⟩
                · exact ⟨s8, h8, hc⟩
                · exact ⟨s9, h9, hc⟩⟩
              clear h0 h1 h2 h3 h4 h5 h6 h7 h8 h9 hg hgl hB hbx hBx
              go_wp2_with fail
              go_loopw [153] (fun j W => ∃ m : Nat, m ≤ 10 ∧ j = .int .i64 m ∧ Below wx.heap.size wx W) (fun j _ => 10 - (intOf j).toNat)
              case atStart => exact ⟨0, by omega, rfl, Below.refl _ _⟩
              case round =>
                obtain ⟨m, hm, rfl, hB⟩ := hrel
                by_cases hlt5 : m < 10
                · obtain ⟨s, hs, hc⟩ := HC.out _ hB m hlt5
                  have i0 : (0 : Int) ≤ (m : Int) := by omega
                  have i1 : (m : Int) < 10 := by omega
                  go_wp2_with fail
                  refine (reads_any _ (by omega) _).mono ?_
                  rintro e w2 ⟨rfl, hb2⟩
                  have hB2 := hB.trans (hb2.mono hB.size)
                  clear hb2
                  go_wp2_with fail
                  go_roundw
                  case rel => exact ⟨m + 1, by omega, by go_num, hB2⟩
                  case measure => simp [intOf]; omega
                · obtain rfl : m = 10 := by omega
                  go_wp2_with fail
                  go_roundw
                  case rel => exact ⟨i + 1, by omega, by go_num, HBX.out.trans (hB.mono HBX.out.size)⟩
                  case measure => simp [intOf]; omega
            · obtain rfl : i = 14 := by omega
              have c0 : ByteArray.size ⟨#[102, 118, 118, 118, 118, 118, 118, 118, 118, 118, 118, 118, 118]⟩ = 13 := by decide
              go_wp2_with fail
              refine (reads_any _ (by decide) _).mono ?_
              rintro e w2 ⟨rfl, hb2⟩
              have hB2 := hB.trans (hb2.mono hB.size)
              clear hb2
              go_wp2_with fail
              refine (reads_any _ (by decide) _).mono ?_
              rintro e w3 ⟨rfl, hb3⟩
              have hB3 := hB2.trans (hb3.mono hB2.size)
              clear hb3
              go_wp2_with fail
              refine (reads_any _ (by decide) _).mono ?_
              rintro e w4 ⟨rfl, hb4⟩
              have hB4 := hB3.trans (hb4.mono hB3.size)
              clear hb4
              go_wp2_with fail
              refine (awake_any _).mono ?_
              rintro e w5 ⟨rfl, hb5⟩
              have hB5 := hB4.trans (hb5.mono hB4.size)
              clear hb5
              go_wp2_with fail
              go_ret
              exact ⟨rfl, hB5⟩
end Go.Proofs.Ytdgmbghbjpmiiaa
