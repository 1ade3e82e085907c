/- Walks of the reference on lists of bits: less, bitwise, product. -/
import Derived.Test.YtbmommomhepfpaaR2
namespace Go.Proofs.Ytbmommomhepfpaa
open Go.RowKit
set_option linter.unusedVariables false

theorem div_bit (x : BitVec 64) (m : Nat) : (x.toNat / 2 ^ m : Int) = 2 * (x.toNat / 2 ^ (m + 1) : Nat) + bi x m := by
  rw [bi_nat, Nat.pow_succ, ← Nat.div_div_eq_div_mul]
  have : ((x.toNat / 2 ^ m : Nat) : Int) = (x.toNat : Int) / 2 ^ m := by simp
  rw [← this]
  generalize x.toNat / 2 ^ m = q
  omega
theorem less_eq (x y : BitVec 64) (m : Nat) (h : x.toNat / 2 ^ (m + 1) = y.toNat / 2 ^ (m + 1)) (hb : bi x m = bi y m) : x.toNat / 2 ^ m = y.toNat / 2 ^ m := by
  have h1 := div_bit x m
  have h2 := div_bit y m
  rw [h, hb, ← h2] at h1
  have e1 : ((x.toNat / 2 ^ m : Nat) : Int) = (x.toNat : Int) / 2 ^ m := by simp
  have e2 : ((y.toNat / 2 ^ m : Nat) : Int) = (y.toNat : Int) / 2 ^ m := by simp
  omega
theorem less_ne (x y : BitVec 64) (m : Nat) (h : x.toNat / 2 ^ (m + 1) = y.toNat / 2 ^ (m + 1)) (hb : bi x m < bi y m) : x.toNat < y.toNat := by
  have h1 := div_bit x m
  have h2 := div_bit y m
  rw [h] at h1
  have e1 : ((x.toNat / 2 ^ m : Nat) : Int) = (x.toNat : Int) / 2 ^ m := by simp
  have e2 : ((y.toNat / 2 ^ m : Nat) : Int) = (y.toNat : Int) / 2 ^ m := by simp
  have h3 : x.toNat / 2 ^ m < y.toNat / 2 ^ m := by omega
  exact Nat.lt_of_not_le fun hc => absurd (Nat.div_le_div_right (c := 2 ^ m) hc) (by omega)

set_option maxHeartbeats 2000000 in
theorem less_any (v1 v2 : Value) (x y : BitVec 64) (w : World) (hv1 : Bs w v1 x) (hv2 : Bs w v2 y) : Calls Try.prog 40 #[v1, v2] w fun e w' => e = .returned (.bool (x.ult y)) ∧ Below w.heap.size w w' := by
  obtain ⟨b, off, cp, rfl, hc, _, hbw, hcell⟩ := hv1
  obtain ⟨b2, off2, cp2, rfl, hc2, _, hbw2, hcell2⟩ := hv2
  have HC := Hd.mk hcell
  have HC2 := Hd.mk hcell2
  clear hcell hcell2
  go_enter Try.func40, Try.ntmps40
  go_wp2_with fail
  go_loopw [5] (fun i W => ∃ k : Nat, k ≤ 64 ∧ i = .int .i64 ((k : Int) - 1) ∧ Hd (x.toNat / 2 ^ k = y.toNat / 2 ^ k) ∧ Below w.heap.size w W) (fun i _ => (intOf i + 1).toNat)
  case atStart => exact ⟨64, by omega, rfl, ⟨by rw [Nat.div_eq_of_lt x.isLt, Nat.div_eq_of_lt y.isLt]⟩, Below.refl _ _⟩
  case round =>
    obtain ⟨k, hk, rfl, HH, hB⟩ := hrel
    by_cases hlt : 0 < k
    · obtain ⟨m, rfl⟩ : ∃ m, k = m + 1 := ⟨k - 1, by omega⟩
      have hm0 : ((m + 1 : Nat) : Int) - 1 = (m : Int) := by omega
      rw [hm0]
      have hck : wr.cell? ⟨b, off + m, none⟩ = some (.int .i64 (bi x m)) := by rw [hB.cell (p := ⟨b, off + m, none⟩) hbw]; exact HC.out m (by omega)
      have hck2 : wr.cell? ⟨b2, off2 + m, none⟩ = some (.int .i64 (bi y m)) := by rw [hB.cell (p := ⟨b2, off2 + m, none⟩) hbw2]; exact HC2.out m (by omega)
      have i0 : (0 : Int) ≤ (m : Int) := by omega
      have i1 : (m : Int) < 64 := by omega
      clear hm0
      rcases bi_01 x m with h1 | h1
      all_goals (rcases bi_01 y m with h2 | h2)
      all_goals (rw [h1] at hck; rw [h2] at hck2)
      · have HE := Hd.mk (less_eq x y m HH.out (by rw [h1, h2]))
        clear h1 h2
        go_wp2_with fail
        go_quiet (fail)
        go_wp2_with fail
        go_roundw
        case rel => exact ⟨m, by omega, by go_num, HE, below_drewN hB _⟩
        case measure => simp [intOf]
      · have HE : Hd (x.ult y = true) := ⟨by rw [BitVec.ult]; exact decide_eq_true (less_ne x y m HH.out (by rw [h1, h2]; decide))⟩
        clear h1 h2
        go_wp2_with fail
        go_quiet (fail)
        go_wp2_with fail
        go_quiet (fail)
        go_wp2_with fail
        go_ret
        exact ⟨by rw [HE.out]; rfl, below_drewN (below_drewN hB _) _⟩
      · have HE : Hd (x.ult y = false) := ⟨by rw [BitVec.ult]; exact decide_eq_false (by have := less_ne y x m HH.out.symm (by rw [h1, h2]; decide); omega)⟩
        clear h1 h2
        go_wp2_with fail
        go_quiet (fail)
        go_wp2_with fail
        go_quiet (fail)
        go_wp2_with fail
        go_ret
        exact ⟨by rw [HE.out]; rfl, below_drewN (below_drewN hB _) _⟩
      · have HE := Hd.mk (less_eq x y m HH.out (by rw [h1, h2]))
        clear h1 h2
        go_wp2_with fail
        go_quiet (fail)
        go_wp2_with fail
        go_roundw
        case rel => exact ⟨m, by omega, by go_num, HE, below_drewN hB _⟩
        case measure => simp [intOf]
    · obtain rfl : k = 0 := by omega
      have HE : Hd (x.ult y = false) := ⟨by rw [BitVec.ult]; have := HH.out; simp at this; exact decide_eq_false (by omega)⟩
      go_wp2_with fail
      go_ret
      exact ⟨by rw [HE.out]; rfl, hB⟩

def bitV (op : Int) (x y : BitVec 64) : BitVec 64 := if op = 7 then x &&& y else if op = 8 then x ||| y else x ^^^ y
theorem bitV_bit (op : Int) (x y : BitVec 64) (i : Nat) : bi (bitV op x y) i = if op = 7 then bi x i * bi y i else if op = 8 then bi x i + bi y i - bi x i * bi y i else (bi x i + bi y i) % 2 := by
  unfold bitV bi
  split
  · rw [BitVec.getLsbD_and]; cases x.getLsbD i <;> cases y.getLsbD i <;> rfl
  · split
    · rw [BitVec.getLsbD_or]; cases x.getLsbD i <;> cases y.getLsbD i <;> rfl
    · rw [BitVec.getLsbD_xor]; cases x.getLsbD i <;> cases y.getLsbD i <;> rfl
end Go.Proofs.Ytbmommomhepfpaa
