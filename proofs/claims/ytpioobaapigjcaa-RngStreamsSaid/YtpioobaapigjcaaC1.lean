/- Walks of the reference for streams: Process, Index, Key, Value, Below, least, Range. -/
import Derived.Test.YtpioobaapigjcaaA4
import Derived.Test.YtpioobaapigjcaaMixRef
import Derived.Laws.Small
namespace Go.Proofs.Ytpioobaapigjcaa
open Go.RowKit
set_option linter.unusedVariables false

set_option maxHeartbeats 1000000 in
theorem refProcess_any (n : Int) (w : World) :
    Calls Try.prog 20 #[.int .i64 n] w fun e w' => e = .returned (.bool (decide (0 ≤ n) && decide (n ≤ 65536))) ∧ w = w' := by
  by_cases h : 0 ≤ n
  · go_enter Try.func20, Try.ntmps20
    go_wp2_with fail
    go_ret
    exact ⟨by simp [h], rfl⟩
  · go_enter Try.func20, Try.ntmps20
    go_wp2_with fail
    go_ret
    exact ⟨by simp; omega, rfl⟩

set_option maxHeartbeats 1000000 in
theorem refIndex_any (n : Int) (w : World) :
    Calls Try.prog 35 #[.int .i64 n] w fun e w' => e = .returned (.bool (decide (0 ≤ n) && decide (n ≤ 281474976710656))) ∧ w = w' := by
  by_cases h : 0 ≤ n
  · go_enter Try.func35, Try.ntmps35
    go_wp2_with fail
    go_ret
    exact ⟨by simp [h], rfl⟩
  · go_enter Try.func35, Try.ntmps35
    go_wp2_with fail
    go_ret
    exact ⟨by simp; omega, rfl⟩

set_option maxHeartbeats 1000000 in
theorem refKey_any (seed : BitVec 64) (p : Int) (h0 : 0 ≤ p) (h1 : p ≤ 65536) (w : World) :
    Calls Try.prog 34 #[u seed, .int .i64 p] w fun e w' => e = .returned (u (keyV seed p)) ∧ Below w.heap.size w w' := by
  have hp := u_ofInt_int p h0 (by omega)
  have HP := Hd.mk hp
  clear hp
  go_enter Try.func34, Try.ntmps34
  go_wp2_with fail
  rw [HP.out]
  refine (refJoin_src _ [seed, BitVec.ofInt 64 p] _ ?_ (by simp)).mono ?_
  · exact .inr ⟨⟨w.heap.size, 0, none⟩, 2, rfl, by simp, by simp [maxLen], fun j hj => by
      rw [plain_add, Nat.zero_add, cells_cell (World.alloc_heap_new w _) j]
      have hj' : j = 0 ∨ j = 1 := by simp at hj; omega
      rcases hj' with rfl | rfl <;> rfl⟩
  rintro e w' ⟨rfl, hB⟩
  go_wp2_with fail
  go_ret
  exact ⟨rfl, ((Below.refl _ _).alloc (Nat.le_refl _) _).trans (hB.mono (by simp))⟩

set_option maxHeartbeats 1000000 in
theorem refValue_any (seed : BitVec 64) (p i : Int) (h0 : 0 ≤ p) (h1 : p ≤ 65536) (i0 : 0 ≤ i) (i1 : i ≤ 281474976710656) (w : World) :
    Calls Try.prog 21 #[u seed, .int .i64 p, .int .i64 i] w fun e w' => e = .returned (u (atV (keyV seed p) i)) ∧ Below w.heap.size w w' := by
  go_enter Try.func21, Try.ntmps21
  go_wp2_with fail
  refine (refKey_any seed p h0 h1 _).mono ?_
  rintro e w1 ⟨rfl, hB⟩
  go_wp2_with fail
  refine (refMix_any _ _).mono ?_
  rintro e w2 ⟨rfl, rfl⟩
  go_wp2_with fail
  go_ret
  exact ⟨rfl, hB⟩

/-- The sum behind k bits. -/
theorem half_step (v n k : Nat) : (v % 2 ^ k * n / 2 ^ k + (v / 2 ^ k % 2) * n) / 2 = v % 2 ^ (k + 1) * n / 2 ^ (k + 1) := by
  have hp := Nat.two_pow_pos k
  rw [Nat.mod_pow_succ, Nat.pow_succ, ← Nat.div_div_eq_div_mul]
  congr 1
  rw [Nat.add_mul, Nat.mul_assoc (2 ^ k), Nat.add_mul_div_left _ _ hp]

theorem below_step (v x : BitVec 64) (n : Int) (k : Nat) (h1 : 1 ≤ n) (h2 : n ≤ 9223372036854775807) (hk : k < 64) (hx : x.toNat = v.toNat % 2 ^ k * n.toNat / 2 ^ k) :
    (((v >>> k) % 2#64 == 1#64) = true → ((x + BitVec.ofInt 64 n) / 2#64).toNat = v.toNat % 2 ^ (k + 1) * n.toNat / 2 ^ (k + 1)) ∧
    (((v >>> k) % 2#64 == 1#64) = false → (x / 2#64).toNat = v.toNat % 2 ^ (k + 1) * n.toNat / 2 ^ (k + 1)) := by
  have hb := bit2 v k
  have hs := half_step v.toNat n.toNat k
  have hn : (BitVec.ofInt 64 n).toNat = n.toNat := by rw [BitVec.toNat_ofInt]; omega
  have hlt : x.toNat < n.toNat := by
    rw [hx]
    refine Nat.div_lt_of_lt_mul ?_
    exact Nat.mul_lt_mul_of_pos_right (Nat.mod_lt _ (Nat.two_pow_pos k)) (by omega)
  constructor
  · intro ht
    have ht' : (v >>> k) % 2#64 = 1#64 := by simpa using ht
    rw [ht'] at hb
    rw [← hb, ← hx] at hs
    rw [← hs, BitVec.toNat_udiv, BitVec.toNat_add, hn, show (2#64).toNat = 2 from rfl, show (1#64).toNat = 1 from rfl, Nat.one_mul, Nat.mod_eq_of_lt (by omega)]
  · intro ht
    have hb0 : v.toNat / 2 ^ k % 2 = 0 := by
      have hne : ¬ (v >>> k) % 2#64 = 1#64 := by simpa using ht
      have : ¬ v.toNat / 2 ^ k % 2 = 1 := fun e => hne (BitVec.eq_of_toNat_eq (by rw [hb, e]; rfl))
      omega
    rw [hb0, ← hx] at hs
    rw [← hs, BitVec.toNat_udiv, show (2#64).toNat = 2 from rfl, Nat.zero_mul, Nat.add_zero]

theorem below_end (v x : BitVec 64) (n : Int) (h1 : 1 ≤ n) (h2 : n ≤ 9223372036854775807) (hx : x.toNat = v.toNat % 2 ^ 64 * n.toNat / 2 ^ 64) : IntKind.i64.wrap (nv x) = (blw v.toNat n.toNat : Int) := by
  have hl := blw_lt v.toNat n.toNat v.isLt (by omega)
  rw [Nat.mod_eq_of_lt v.isLt] at hx
  have hx' : x.toNat = blw v.toNat n.toNat := hx
  rw [nv, hx', wrap_i64_toInt, BitVec.toInt_ofInt, Int.bmod_eq_of_le (by omega) (by omega)]

set_option maxHeartbeats 1000000 in
theorem refBelow_any (v : BitVec 64) (n : Int) (h1 : 1 ≤ n) (h2 : n ≤ 9223372036854775807) (w : World) :
    Calls Try.prog 24 #[u v, .int .i64 n] w fun e w' => e = .returned (.int .i64 (blw v.toNat n.toNat)) ∧ w = w' := by
  have hn0 : 0 ≤ n := by omega
  have hn64 : n < 18446744073709551616 := by omega
  go_enter Try.func24, Try.ntmps24
  go_wp2_with fail
  go_loop [5, 6] (fun a i => ∃ (k : Nat) (x : BitVec 64), k ≤ 64 ∧ a = u x ∧ i = .int .i64 k ∧ Hd (x.toNat = v.toNat % 2 ^ k * n.toNat / 2 ^ k)) (fun _ i => 64 - (intOf i).toNat)
  case atStart => exact ⟨0, 0#64, by omega, rfl, rfl, ⟨by simp [Nat.mod_one]⟩⟩
  case round =>
    obtain ⟨k, x, hk, rfl, rfl, HH⟩ := hrel
    by_cases hlt : k < 64
    · have hst := below_step v x n k h1 h2 hlt HH.out
      cases ht : ((v >>> k) % 2#64 == 1#64)
      · have HS := Hd.mk (hst.2 ht)
        clear hst
        go_wp2_with fail
        go_round
        case rel => exact ⟨k + 1, _, by omega, rfl, by go_num, HS⟩
        case measure => simp [intOf]; omega
      · have HS := Hd.mk (hst.1 ht)
        clear hst
        go_wp2_with fail
        go_round
        case rel => exact ⟨k + 1, _, by omega, rfl, by go_num, HS⟩
        case measure => simp [intOf]; omega
    · obtain rfl : k = 64 := by omega
      have hw := below_end v x n h1 h2 HH.out
      go_wp2_with fail
      go_ret
      exact ⟨rfl, rfl⟩

/-- The least number whose number below n is not less than k; 2^64 counts as 0. -/
theorem blw_leI (m : BitVec 64) (n k : Int) (h0 : 0 ≤ k) (h1 : 1 ≤ n) : (k ≤ (blw m.toNat n.toNat : Int)) ↔ fst' n.toNat k.toNat ≤ m.toNat := by
  rw [← blw_ge_iff m.toNat n.toNat k.toNat (by omega)]; omega

theorem mid_nat (lo hi : BitVec 64) (h : lo.toNat < hi.toNat) : (lo + (hi - lo) / 2#64).toNat = lo.toNat + (hi.toNat - lo.toNat) / 2 := by
  have := hi.isLt
  rw [BitVec.toNat_add, BitVec.toNat_udiv, BitVec.toNat_sub, show (2#64).toNat = 2 from rfl]
  have e2 : (2 ^ 64 - lo.toNat + hi.toNat) % 2 ^ 64 = hi.toNat - lo.toNat := by omega
  rw [e2]; omega

set_option maxHeartbeats 1000000 in
theorem least_over (n k : Int) (h : n ≤ k) (w : World) : Calls Try.prog 45 #[.int .i64 n, .int .i64 k] w fun e w' => e = .returned (u 0#64) ∧ w = w' := by
  go_enter Try.func45, Try.ntmps45
  go_wp2_with fail
  go_ret
  exact ⟨rfl, rfl⟩

set_option maxHeartbeats 1000000 in
theorem least_any (n k : Int) (h0 : 0 ≤ k) (h1 : k < n) (h2 : n ≤ 9223372036854775807) (w : World) :
    Calls Try.prog 45 #[.int .i64 n, .int .i64 k] w fun e w' => e = .returned (u (rlo n k)) ∧ w = w' := by
  have hfb := fst_bound n.toNat k.toNat (by omega) (by omega)
  obtain ⟨F, hF⟩ : ∃ F, F = fst' n.toNat k.toNat := ⟨_, rfl⟩
  have HR : Hd ((rlo n k).toNat = F) := ⟨by rw [hF, rlo, BitVec.toNat_ofNat]; omega⟩
  have HF := Hd.mk hF
  have HB : Hd (F < 18446744073709551616) := ⟨by omega⟩
  clear hfb hF
  have hnk : ¬ n ≤ k := by omega
  go_enter Try.func45, Try.ntmps45
  go_wp2_with fail
  go_loop [5, 6] (fun a b => ∃ lo hi : BitVec 64, a = u lo ∧ b = u hi ∧ Hd (lo.toNat ≤ F ∧ F ≤ hi.toNat)) (fun a b => (intOf b - intOf a).toNat)
  case atStart => exact ⟨0#64, 18446744073709551615#64, rfl, rfl, ⟨by have := HB.out; simp; omega⟩⟩
  case round =>
    obtain ⟨lo, hi, rfl, rfl, HH⟩ := hrel
    by_cases hlt : lo.toNat < hi.toNat
    · have hul : lo.ult hi = true := by rw [BitVec.ult]; exact decide_eq_true hlt
      have HM := Hd.mk (mid_nat lo hi hlt)
      have HL := Hd.mk hlt
      have hki := blw_leI (lo + (hi - lo) / 2#64) n k h0 (by omega)
      rw [← HF.out] at hki
      obtain ⟨B, hB⟩ : ∃ B : Int, (blw (lo + (hi - lo) / 2#64).toNat n.toNat : Int) = B := ⟨_, rfl⟩
      rw [hB] at hki
      have HK := Hd.mk hki
      have HBB := Hd.mk hB
      clear hlt hki hB
      go_wp2_with fail
      refine (refBelow_any _ n (by omega) h2 _).mono ?_
      rintro e w1 ⟨rfl, rfl⟩
      rw [HBB.out]
      by_cases hkb : k ≤ B
      · have HC := Hd.mk (HK.out.1 hkb)
        go_wp2_with fail
        go_round
        case rel => exact ⟨_, _, rfl, rfl, ⟨HH.out.1, HC.out⟩⟩
        case measure =>
          have a1 := HM.out
          have a2 := HL.out
          show (((lo + (hi - lo) / 2#64).toNat : Int) - (lo.toNat : Int)).toNat < ((hi.toNat : Int) - (lo.toNat : Int)).toNat
          omega
      · have HC : Hd (¬ F ≤ (lo + (hi - lo) / 2#64).toNat) := ⟨fun h => hkb (HK.out.2 h)⟩
        go_wp2_with fail
        go_round
        case rel => exact ⟨_, _, rfl, rfl, ⟨by
          have a1 := HM.out
          have a2 := HL.out
          have a3 := HC.out
          have := hi.isLt
          rw [BitVec.toNat_add, show (1#64).toNat = 1 from rfl]
          omega, HH.out.2⟩⟩
        case measure =>
          have a1 := HM.out
          have a2 := HL.out
          have a4 := hi.isLt
          have a3 : (lo + (hi - lo) / 2#64 + 1#64).toNat = (lo + (hi - lo) / 2#64).toNat + 1 := by
            rw [BitVec.toNat_add, show (1#64).toNat = 1 from rfl]; omega
          show ((hi.toNat : Int) - ((lo + (hi - lo) / 2#64 + 1#64).toNat : Int)).toNat < ((hi.toNat : Int) - (lo.toNat : Int)).toNat
          omega
    · have hul : lo.ult hi = false := by rw [BitVec.ult]; exact decide_eq_false hlt
      have HE : Hd (lo = rlo n k) := ⟨BitVec.eq_of_toNat_eq (by rw [HR.out]; have := HH.out; omega)⟩
      clear hlt
      go_wp2_with fail
      go_ret
      exact ⟨by rw [← HE.out]; rfl, rfl⟩

set_option maxHeartbeats 1000000 in
theorem refRange_any (n k : Int) (h0 : 0 ≤ k) (h1 : k < n) (h2 : n ≤ 9223372036854775807) (w : World) :
    Calls Try.prog 39 #[.int .i64 n, .int .i64 k] w fun e w' => e = .returned (.tuple #[u (rlo n k), u (rhi n k)]) ∧ w = w' := by
  by_cases hl : k + 1 < n
  · have HR : Hd (rhi n k = rlo n (k + 1) - 1#64) := ⟨by unfold rhi rlo; rw [show (k + 1).toNat = k.toNat + 1 from by omega]⟩
    go_enter Try.func39, Try.ntmps39
    go_wp2_with fail
    refine (least_any n k h0 h1 h2 _).mono ?_
    rintro e w' ⟨rfl, rfl⟩
    go_wp2_with fail
    refine (least_any n (k + 1) (by omega) (by omega) h2 _).mono ?_
    rintro e w' ⟨rfl, rfl⟩
    go_wp2_with fail
    go_ret2
    exact ⟨by rw [HR.out]; rfl, rfl⟩
  · have HR := Hd.mk (rhi_last n k h0 (by omega))
    go_enter Try.func39, Try.ntmps39
    go_wp2_with fail
    refine (least_any n k h0 h1 h2 _).mono ?_
    rintro e w' ⟨rfl, rfl⟩
    go_wp2_with fail
    refine (least_over n (k + 1) (by omega) _).mono ?_
    rintro e w' ⟨rfl, rfl⟩
    go_wp2_with fail
    go_ret2
    exact ⟨by rw [HR.out]; rfl, rfl⟩
end Go.Proofs.Ytpioobaapigjcaa
