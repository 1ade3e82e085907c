/- Walks of the reference on lists of bits: bitwise, product, divided. -/
import Derived.Test.YtbmommomhepfpaaR3
namespace Go.Proofs.Ytbmommomhepfpaa
open Go.RowKit
set_option linter.unusedVariables false

set_option maxRecDepth 100000 in
set_option maxHeartbeats 2000000 in
theorem bitwise_7 (v1 v2 : Value) (x y : BitVec 64) (w : World) (hv1 : Bs w v1 x) (hv2 : Bs w v2 y) : Calls Try.prog 47 #[.int .u8 7, v1, v2] w fun e w' => ∃ v, e = .returned v ∧ Bs w' v (bitV 7 x y) ∧ Below w.heap.size w w' := by
  obtain ⟨b, off, cp, rfl, hc, _, hbw, hcell⟩ := hv1
  obtain ⟨b2, off2, cp2, rfl, hc2, _, hbw2, hcell2⟩ := hv2
  have HC := Hd.mk hcell
  have HC2 := Hd.mk hcell2
  clear hcell hcell2
  obtain ⟨z, hz⟩ : ∃ z, z = bitV 7 x y := ⟨_, rfl⟩
  rw [← hz]
  have HZ : Hd (∀ k, bi z k = if (7 : Int) = 7 then bi x k * bi y k else if (7 : Int) = 8 then bi x k + bi y k - bi x k * bi y k else (bi x k + bi y k) % 2) := ⟨fun k => by rw [hz]; exact bitV_bit 7 x y k⟩
  clear hz
  go_enter Try.func47, Try.ntmps47
  go_wp2_with fail
  go_loopw [7, 8] (fun v i W => ∃ k : Nat, k ≤ 64 ∧ i = .int .i64 k ∧ OwnE ei W w.heap.size 3 v (bl z k) ∧ Below w.heap.size w W) (fun _ i _ => 64 - (intOf i).toNat)
  case atStart => exact ⟨0, by omega, rfl, OwnE.nil _ _ _ _, Below.refl _ _⟩
  case round =>
    obtain ⟨k, hk, rfl, ho, hB⟩ := hrel
    by_cases hlt : k < 64
    · have hck : wr.cell? ⟨b, off + k, none⟩ = some (.int .i64 (bi x k)) := by rw [hB.cell (p := ⟨b, off + k, none⟩) hbw]; exact HC.out k hlt
      have hck2 : wr.cell? ⟨b2, off2 + k, none⟩ = some (.int .i64 (bi y k)) := by rw [hB.cell (p := ⟨b2, off2 + k, none⟩) hbw2]; exact HC2.out k hlt
      have i0 : (0 : Int) ≤ (k : Int) := by omega
      have i1 : (k : Int) < 64 := by omega
      have hzk := HZ.out k
      have HO0 := Hd.mk ho
      have HB := Hd.mk hB
      clear ho hB
      rcases bi_01 x k with h1 | h1
      all_goals (rcases bi_01 y k with h2 | h2)
      all_goals (rw [h1] at hck hzk; rw [h2] at hck2 hzk; simp at hzk; have HK := Hd.mk hzk; clear hzk h1 h2)
      all_goals
        go_wp2_with fail
        go_quiet (fail)
        obtain ⟨wd, hwd⟩ : ∃ wd, wd = (wr.drewN nq) := ⟨_, rfl⟩
        have hBd : Below wr.heap.size wr wd := by rw [hwd]; exact below_drewN (Below.refl _ _) _
        rw [← hwd]
        clear hwd hck hck2
        obtain ⟨v', w', hr', ho', hB'⟩ := app1 (bi z k) (HO0.out.below hBd) (HB.out.trans (hBd.mono HB.out.size)) (Nat.le_trans HB.out.size hBd.size) (by rw [bl_len]; omega)
        rw [← bl_succ] at ho'
        rw [HK.out] at hr'
        have HO := Hd.mk ho'
        clear ho' hBd
        go_wp2_with (at_builtin; refine wpList_append_run rfl _ _ _ rfl rfl rfl hr' ?_; clear hr')
        go_roundw
        case rel => exact ⟨k + 1, by omega, by go_num, HO.out, hB'⟩
        case measure => simp [intOf]; omega
    · obtain rfl : k = 64 := by omega
      go_wp2_with fail
      go_ret
      exact ⟨_, rfl, Bs.of ho, hB⟩

set_option maxRecDepth 100000 in
set_option maxHeartbeats 2000000 in
theorem bitwise_8 (v1 v2 : Value) (x y : BitVec 64) (w : World) (hv1 : Bs w v1 x) (hv2 : Bs w v2 y) : Calls Try.prog 47 #[.int .u8 8, v1, v2] w fun e w' => ∃ v, e = .returned v ∧ Bs w' v (bitV 8 x y) ∧ Below w.heap.size w w' := by
  obtain ⟨b, off, cp, rfl, hc, _, hbw, hcell⟩ := hv1
  obtain ⟨b2, off2, cp2, rfl, hc2, _, hbw2, hcell2⟩ := hv2
  have HC := Hd.mk hcell
  have HC2 := Hd.mk hcell2
  clear hcell hcell2
  obtain ⟨z, hz⟩ : ∃ z, z = bitV 8 x y := ⟨_, rfl⟩
  rw [← hz]
  have HZ : Hd (∀ k, bi z k = if (8 : Int) = 7 then bi x k * bi y k else if (8 : Int) = 8 then bi x k + bi y k - bi x k * bi y k else (bi x k + bi y k) % 2) := ⟨fun k => by rw [hz]; exact bitV_bit 8 x y k⟩
  clear hz
  go_enter Try.func47, Try.ntmps47
  go_wp2_with fail
  go_loopw [7, 8] (fun v i W => ∃ k : Nat, k ≤ 64 ∧ i = .int .i64 k ∧ OwnE ei W w.heap.size 3 v (bl z k) ∧ Below w.heap.size w W) (fun _ i _ => 64 - (intOf i).toNat)
  case atStart => exact ⟨0, by omega, rfl, OwnE.nil _ _ _ _, Below.refl _ _⟩
  case round =>
    obtain ⟨k, hk, rfl, ho, hB⟩ := hrel
    by_cases hlt : k < 64
    · have hck : wr.cell? ⟨b, off + k, none⟩ = some (.int .i64 (bi x k)) := by rw [hB.cell (p := ⟨b, off + k, none⟩) hbw]; exact HC.out k hlt
      have hck2 : wr.cell? ⟨b2, off2 + k, none⟩ = some (.int .i64 (bi y k)) := by rw [hB.cell (p := ⟨b2, off2 + k, none⟩) hbw2]; exact HC2.out k hlt
      have i0 : (0 : Int) ≤ (k : Int) := by omega
      have i1 : (k : Int) < 64 := by omega
      have hzk := HZ.out k
      have HO0 := Hd.mk ho
      have HB := Hd.mk hB
      clear ho hB
      rcases bi_01 x k with h1 | h1
      all_goals (rcases bi_01 y k with h2 | h2)
      all_goals (rw [h1] at hck hzk; rw [h2] at hck2 hzk; simp at hzk; have HK := Hd.mk hzk; clear hzk h1 h2)
      all_goals
        go_wp2_with fail
        go_quiet (fail)
        obtain ⟨wd1, hwd1⟩ : ∃ wd1, wd1 = wr.drewN nq := ⟨_, rfl⟩
        have hBd1 : Below wr.heap.size wr wd1 := by rw [hwd1]; exact below_drewN (Below.refl _ _) _
        have hb1 : b < wr.heap.size := World.block_lt_of_cell? wr _ hck
        have hb2 : b2 < wr.heap.size := World.block_lt_of_cell? wr _ hck2
        rw [← hwd1]
        clear hwd1
        rw [← hBd1.cell (p := ⟨b, off + k, none⟩) hb1] at hck
        rw [← hBd1.cell (p := ⟨b2, off2 + k, none⟩) hb2] at hck2
        go_wp2_with fail
        go_quiet (fail)
        obtain ⟨wd, hwd⟩ : ∃ wd, wd = (wd1.drewN nq) := ⟨_, rfl⟩
        have hBd : Below wr.heap.size wr wd := by rw [hwd]; exact below_drewN hBd1 _
        rw [← hwd]
        clear hwd hck hck2
        obtain ⟨v', w', hr', ho', hB'⟩ := app1 (bi z k) (HO0.out.below hBd) (HB.out.trans (hBd.mono HB.out.size)) (Nat.le_trans HB.out.size hBd.size) (by rw [bl_len]; omega)
        rw [← bl_succ] at ho'
        rw [HK.out] at hr'
        have HO := Hd.mk ho'
        clear ho' hBd
        go_wp2_with (at_builtin; refine wpList_append_run rfl _ _ _ rfl rfl rfl hr' ?_; clear hr')
        go_roundw
        case rel => exact ⟨k + 1, by omega, by go_num, HO.out, hB'⟩
        case measure => simp [intOf]; omega
    · obtain rfl : k = 64 := by omega
      go_wp2_with fail
      go_ret
      exact ⟨_, rfl, Bs.of ho, hB⟩

set_option maxRecDepth 100000 in
set_option maxHeartbeats 2000000 in
theorem bitwise_9 (v1 v2 : Value) (x y : BitVec 64) (w : World) (hv1 : Bs w v1 x) (hv2 : Bs w v2 y) : Calls Try.prog 47 #[.int .u8 9, v1, v2] w fun e w' => ∃ v, e = .returned v ∧ Bs w' v (bitV 9 x y) ∧ Below w.heap.size w w' := by
  obtain ⟨b, off, cp, rfl, hc, _, hbw, hcell⟩ := hv1
  obtain ⟨b2, off2, cp2, rfl, hc2, _, hbw2, hcell2⟩ := hv2
  have HC := Hd.mk hcell
  have HC2 := Hd.mk hcell2
  clear hcell hcell2
  obtain ⟨z, hz⟩ : ∃ z, z = bitV 9 x y := ⟨_, rfl⟩
  rw [← hz]
  have HZ : Hd (∀ k, bi z k = if (9 : Int) = 7 then bi x k * bi y k else if (9 : Int) = 8 then bi x k + bi y k - bi x k * bi y k else (bi x k + bi y k) % 2) := ⟨fun k => by rw [hz]; exact bitV_bit 9 x y k⟩
  clear hz
  go_enter Try.func47, Try.ntmps47
  go_wp2_with fail
  go_loopw [7, 8] (fun v i W => ∃ k : Nat, k ≤ 64 ∧ i = .int .i64 k ∧ OwnE ei W w.heap.size 3 v (bl z k) ∧ Below w.heap.size w W) (fun _ i _ => 64 - (intOf i).toNat)
  case atStart => exact ⟨0, by omega, rfl, OwnE.nil _ _ _ _, Below.refl _ _⟩
  case round =>
    obtain ⟨k, hk, rfl, ho, hB⟩ := hrel
    by_cases hlt : k < 64
    · have hck : wr.cell? ⟨b, off + k, none⟩ = some (.int .i64 (bi x k)) := by rw [hB.cell (p := ⟨b, off + k, none⟩) hbw]; exact HC.out k hlt
      have hck2 : wr.cell? ⟨b2, off2 + k, none⟩ = some (.int .i64 (bi y k)) := by rw [hB.cell (p := ⟨b2, off2 + k, none⟩) hbw2]; exact HC2.out k hlt
      have i0 : (0 : Int) ≤ (k : Int) := by omega
      have i1 : (k : Int) < 64 := by omega
      have hzk := HZ.out k
      have HO0 := Hd.mk ho
      have HB := Hd.mk hB
      clear ho hB
      rcases bi_01 x k with h1 | h1
      all_goals (rcases bi_01 y k with h2 | h2)
      all_goals (rw [h1] at hck hzk; rw [h2] at hck2 hzk; simp at hzk; have HK := Hd.mk hzk; clear hzk h1 h2)
      all_goals
        go_wp2_with fail
        go_quiet (fail)
        obtain ⟨wd1, hwd1⟩ : ∃ wd1, wd1 = wr.drewN nq := ⟨_, rfl⟩
        have hBd1 : Below wr.heap.size wr wd1 := by rw [hwd1]; exact below_drewN (Below.refl _ _) _
        have hb1 : b < wr.heap.size := World.block_lt_of_cell? wr _ hck
        have hb2 : b2 < wr.heap.size := World.block_lt_of_cell? wr _ hck2
        rw [← hwd1]
        clear hwd1
        rw [← hBd1.cell (p := ⟨b, off + k, none⟩) hb1] at hck
        rw [← hBd1.cell (p := ⟨b2, off2 + k, none⟩) hb2] at hck2
        go_wp2_with fail
        go_quiet (fail)
        obtain ⟨wd, hwd⟩ : ∃ wd, wd = (wd1.drewN nq) := ⟨_, rfl⟩
        have hBd : Below wr.heap.size wr wd := by rw [hwd]; exact below_drewN hBd1 _
        rw [← hwd]
        clear hwd hck hck2
        obtain ⟨v', w', hr', ho', hB'⟩ := app1 (bi z k) (HO0.out.below hBd) (HB.out.trans (hBd.mono HB.out.size)) (Nat.le_trans HB.out.size hBd.size) (by rw [bl_len]; omega)
        rw [← bl_succ] at ho'
        rw [HK.out] at hr'
        have HO := Hd.mk ho'
        clear ho' hBd
        go_wp2_with (at_builtin; refine wpList_append_run rfl _ _ _ rfl rfl rfl hr' ?_; clear hr')
        go_roundw
        case rel => exact ⟨k + 1, by omega, by go_num, HO.out, hB'⟩
        case measure => simp [intOf]; omega
    · obtain rfl : k = 64 := by omega
      go_wp2_with fail
      go_ret
      exact ⟨_, rfl, Bs.of ho, hB⟩

theorem prod_zero (x y : BitVec 64) : 0#64 = x * BitVec.ofNat 64 (y.toNat % 2 ^ 0) := by simp [Nat.mod_one]
theorem prod_step (x y z : BitVec 64) (k : Nat) (hk : k < 64) (hz : z = x * BitVec.ofNat 64 (y.toNat % 2 ^ k)) :
    (bi y k = 1 → z + x <<< k = x * BitVec.ofNat 64 (y.toNat % 2 ^ (k + 1))) ∧ (bi y k = 0 → z = x * BitVec.ofNat 64 (y.toNat % 2 ^ (k + 1))) := by
  have hb := bi_nat y k
  constructor
  · intro h
    have hv : y.toNat / 2 ^ k % 2 = 1 := by omega
    rw [Nat.mod_pow_succ, hv, Nat.mul_one, BitVec.ofNat_add, BitVec.mul_add, ← hz]
    congr 1
    apply BitVec.eq_of_toNat_eq
    rw [BitVec.toNat_shiftLeft, Nat.shiftLeft_eq, BitVec.toNat_mul, BitVec.toNat_ofNat]
    simp
  · intro h
    have hv : y.toNat / 2 ^ k % 2 = 0 := by omega
    rw [Nat.mod_pow_succ, hv, Nat.mul_zero, Nat.add_zero, hz]
theorem prod_end (x y : BitVec 64) : x * BitVec.ofNat 64 (y.toNat % 2 ^ 64) = x * y := by
  rw [Nat.mod_eq_of_lt y.isLt, BitVec.ofNat_toNat]; simp

set_option maxRecDepth 100000 in
set_option maxHeartbeats 2000000 in
theorem product_any (v1 v2 : Value) (x y : BitVec 64) (w : World) (hv1 : Bs w v1 x) (hv2 : Bs w v2 y) : Calls Try.prog 44 #[v1, v2] w fun e w' => ∃ v, e = .returned v ∧ Bs w' v (x * y) ∧ Below w.heap.size w w' := by
  have HV1 := Hd.mk hv1
  obtain ⟨b2, off2, cp2, rfl, hc2, _, hbw2, hcell2⟩ := hv2
  have HC2 := Hd.mk hcell2
  have hmk := mk64
  clear hcell2 hv1
  go_enter Try.func44, Try.ntmps44
  go_wp2_with fail
  have hB0 : Below w.heap.size w (w.alloc (.cells z64 3)) := (Below.refl _ _).alloc (Nat.le_refl _) _
  go_loopw [5, 6] (fun v i W => ∃ (k : Nat) (z : BitVec 64), k ≤ 64 ∧ i = .int .i64 k ∧ Bs W v z ∧ Hd (z = x * BitVec.ofNat 64 (y.toNat % 2 ^ k)) ∧ Below w.heap.size w W) (fun _ i _ => 64 - (intOf i).toNat)
  case atStart => exact ⟨0, 0#64, by omega, rfl, bs_zero (Mk.made w), ⟨prod_zero x y⟩, hB0⟩
  case round =>
    obtain ⟨k, z, hk, rfl, hz, HZ, hB⟩ := hrel
    have HBz := Hd.mk hz
    clear hz
    by_cases hlt : k < 64
    · have hck2 : wr.cell? ⟨b2, off2 + k, none⟩ = some (.int .i64 (bi y k)) := by rw [hB.cell (p := ⟨b2, off2 + k, none⟩) hbw2]; exact HC2.out k hlt
      have hst := prod_step x y z k hlt HZ.out
      rcases bi_01 y k with h1 | h1
      · have HS := Hd.mk (hst.2 h1)
        rw [h1] at hck2
        clear hst h1
        go_wp2_with fail
        go_roundw
        case rel => exact ⟨k + 1, z, by omega, by go_num, HBz.out, HS, hB⟩
        case measure => simp [intOf]; omega
      · have HS := Hd.mk (hst.1 h1)
        rw [h1] at hck2
        clear hst h1
        go_wp2_with fail
        refine (up_any v1 x k (by omega) _ (HV1.out.below hB)).mono ?_
        rintro e w2 ⟨v2, rfl, hb2, hB2⟩
        have HB2 := Hd.mk hb2
        have HBz2 := Hd.mk (HBz.out.below hB2)
        have hB3 := hB.trans (hB2.mono hB.size)
        clear hb2 hB2 hB hck2
        go_wp2_with fail
        refine (sum0 _ _ z (x <<< k) _ HBz2.out HB2.out).mono ?_
        rintro e w4 ⟨v4, rfl, hb4, hB4⟩
        have HB4 := Hd.mk hb4
        have hB5 := hB3.trans (hB4.mono hB3.size)
        clear hb4 hB4 hB3
        go_wp2_with fail
        go_roundw
        case rel => exact ⟨k + 1, _, by omega, by go_num, HB4.out, HS, hB5⟩
        case measure => simp [intOf]; omega
    · obtain rfl : k = 64 := by omega
      have HE : Hd (z = x * y) := ⟨by rw [HZ.out, prod_end]⟩
      go_wp2_with fail
      go_ret
      exact ⟨_, rfl, by rw [← HE.out]; exact HBz.out, hB⟩
end Go.Proofs.Ytbmommomhepfpaa
