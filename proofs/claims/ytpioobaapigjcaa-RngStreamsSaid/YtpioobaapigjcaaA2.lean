/- Walks of rng.first, Range, Find. -/
import Derived.Test.YtpioobaapigjcaaA1
namespace Go.Proofs.Ytpioobaapigjcaa
open Go.RowKit

theorem fs_x2 {n k q r left : Nat} {x y : BitVec 64} (hx : x.toNat = q) (hy : y.toNat = r) (h : FsQ n k q r (left + 1)) (hk : k < n) (hn : n < 9223372036854775808) :
    (x * 2#64).toNat = 2 * q ∧ (y * 2#64).toNat = 2 * r := by
  have h1 := h.qlt hk
  have h2 : 2 * q < 18446744073709551616 := by
    refine Nat.lt_of_le_of_lt ?_ h1
    rw [Nat.pow_succ, Nat.mul_comm (2 ^ left) 2, ← Nat.mul_assoc, Nat.mul_comm q 2]
    exact Nat.le_mul_of_pos_right _ (Nat.two_pow_pos _)
  have h3 := h.lt
  constructor
  · rw [BitVec.toNat_mul, hx]; show q * 2 % 2 ^ 64 = _; omega
  · rw [BitVec.toNat_mul, hy]; show r * 2 % 2 ^ 64 = _; omega

theorem fs_low {k left : Nat} {N x y : BitVec 64} (h : FsQ N.toNat k x.toNat y.toNat (left + 1)) (hk : k < N.toNat) (hn : N.toNat < 9223372036854775808) (ht : N.ule (y * 2#64) = false) :
    FsQ N.toNat k (x * 2#64).toNat (y * 2#64).toNat left := by
  obtain ⟨h1, h2⟩ := fs_x2 rfl rfl h hk hn
  rw [BitVec.ule, h2] at ht
  rw [h1, h2]
  exact h.low (by simpa using ht)
theorem fs_high {k left : Nat} {N x y : BitVec 64} (h : FsQ N.toNat k x.toNat y.toNat (left + 1)) (hk : k < N.toNat) (hn : N.toNat < 9223372036854775808) (ht : N.ule (y * 2#64) = true) :
    FsQ N.toNat k (x * 2#64 + 1#64).toNat (y * 2#64 - N).toNat left := by
  obtain ⟨h1, h2⟩ := fs_x2 rfl rfl h hk hn
  rw [BitVec.ule, h2] at ht
  have ht' : N.toNat ≤ 2 * y.toNat := by simpa using ht
  have h3 := h.high ht'
  have h4 := h3.qlt' hk
  have h5 := h.lt
  rw [BitVec.toNat_add, BitVec.toNat_sub, h1, h2, show (1#64).toNat = 1 from rfl, Nat.mod_eq_of_lt (by omega), show (2 ^ 64 - N.toNat + 2 * y.toNat) % 2 ^ 64 = 2 * y.toNat - N.toNat from by omega]
  exact h3
theorem fs_end0 {k left : Nat} {N x : BitVec 64} (h : FsQ N.toNat k x.toNat (0#64).toNat left) (hk : k < N.toNat) : x <<< left = BitVec.ofNat 64 (fst' N.toNat k) := by
  have h1 := h.qlt hk
  apply BitVec.eq_of_toNat_eq
  rw [BitVec.toNat_shiftLeft, Nat.shiftLeft_eq, BitVec.toNat_ofNat, ← FsQ.done0 h]
theorem fs_end1 {k : Nat} {N x y : BitVec 64} (h : FsQ N.toNat k x.toNat y.toNat 0) (hy : ¬ y = 0#64) : x + 1#64 = BitVec.ofNat 64 (fst' N.toNat k) := by
  have h0 : 0 < y.toNat := Nat.pos_of_ne_zero fun e => hy (BitVec.eq_of_toNat_eq (by simpa using e))
  apply BitVec.eq_of_toNat_eq
  rw [BitVec.toNat_add, BitVec.toNat_ofNat, ← FsQ.done1 h h0]; rfl

set_option maxHeartbeats 1000000 in
theorem first_any (N K : BitVec 64) (hk : K.toNat < N.toNat) (hn : N.toNat < 9223372036854775808) (w : World) :
    Calls Try.prog 31 #[u N, u K] w fun e w' => e = .returned (u (BitVec.ofNat 64 (fst' N.toNat K.toNat))) ∧ w = w' := by
  by_cases h0 : K = 0#64
  · subst h0
    have e : BitVec.ofNat 64 (fst' N.toNat (0#64).toNat) = 0#64 := by rw [show (0#64).toNat = 0 from rfl, fst_zero _ (by simpa using hk)]
    rw [e]
    clear e hk hn
    go_enter Try.func31, Try.ntmps31
    go_wp2_with fail
    go_step3
    go_wp2_with fail
    rw [Exit.noGoto_ret]
    go_ret
    exact ⟨rfl, rfl⟩
  · have hk0 : (K == 0#64) = false := by simpa using h0
    have HK := Hd.mk hk
    have HN := Hd.mk hn
    have H0 := Hd.mk h0
    clear hk hn h0
    go_enter Try.func31, Try.ntmps31
    go_wp2_with fail
    go_step3
    go_wp2_with fail
    go_step3
    go_wp2_with fail
    go_loop [5, 6, 7] (fun a b c => ∃ (x y : BitVec 64) (left : Nat), left ≤ 64 ∧ a = u x ∧ b = u y ∧ c = .int .i64 left ∧ Hd (FsQ N.toNat K.toNat x.toNat y.toNat left)) (fun _ _ c => (intOf c).toNat)
    case atStart => exact ⟨0#64, K, 64, by omega, rfl, rfl, rfl, ⟨FsQ.start _ _ HK.out⟩⟩
    case round =>
      obtain ⟨x, y, left, hl, rfl, rfl, rfl, HF⟩ := hrel
      by_cases hlt : 0 < left
      · by_cases hy : y = 0#64
        · subst hy
          have HE := Hd.mk (fs_end0 HF.out HK.out)
          go_wp2_with fail
          go_ret
          exact ⟨ret_u HE.out, rfl⟩
        · have hy0 : (y == 0#64) = false := by simpa using hy
          obtain ⟨m, rfl⟩ : ∃ m, left = m + 1 := ⟨left - 1, by omega⟩
          have hm : ((m + 1 : Nat) : Int) - 1 = (m : Int) := by omega
          cases ht : N.ule (y * 2#64)
          · have HS := Hd.mk (fs_low HF.out HK.out HN.out ht)
            clear hy
            go_wp2_with fail
            go_round
            case rel => exact ⟨_, _, m, by omega, rfl, rfl, by go_num, HS⟩
            case measure => simp [intOf]
          · have HS := Hd.mk (fs_high HF.out HK.out HN.out ht)
            clear hy
            go_wp2_with fail
            go_round
            case rel => exact ⟨_, _, m, by omega, rfl, rfl, by go_num, HS⟩
            case measure => simp [intOf]
      · obtain rfl : left = 0 := by omega
        by_cases hy : y = 0#64
        · subst hy
          have HE := Hd.mk (fs_end0 HF.out HK.out)
          go_wp2_with fail
          go_ret
          exact ⟨ret_u (by rw [← HE.out]; simp), rfl⟩
        · have HE := Hd.mk (fs_end1 HF.out hy)
          have hy0 : (0#64).ult y = true := by
            rw [BitVec.ult]; refine decide_eq_true (Nat.pos_of_ne_zero fun e => hy (BitVec.eq_of_toNat_eq (by simpa using e)))
          clear hy
          go_wp2_with fail
          go_ret
          exact ⟨ret_u HE.out, rfl⟩

/-- The first and the last number that become k below n. -/
def rlo (n k : Int) : BitVec 64 := BitVec.ofNat 64 (fst' n.toNat k.toNat)
def rhi (n k : Int) : BitVec 64 := BitVec.ofNat 64 (fst' n.toNat (k.toNat + 1)) - 1#64

theorem first_int (n k : Int) (h0 : 0 ≤ k) (h1 : k < n) (h2 : n ≤ 9223372036854775807) (w : World) :
    Calls Try.prog 31 #[.int .u64 n, .int .u64 k] w fun e w' => e = .returned (u (rlo n k)) ∧ w = w' := by
  have hn : (BitVec.ofInt 64 n).toNat = n.toNat := by rw [BitVec.toNat_ofInt]; omega
  have hk : (BitVec.ofInt 64 k).toNat = k.toNat := by rw [BitVec.toNat_ofInt]; omega
  have := first_any (BitVec.ofInt 64 n) (BitVec.ofInt 64 k) (by rw [hn, hk]; omega) (by rw [hn]; omega) w
  rw [hn, hk, ← u_ofInt_int n (by omega) (by omega), ← u_ofInt_int k (by omega) (by omega)] at this
  exact this

theorem rhi_last (n k : Int) (h0 : 0 ≤ k) (h : k = n - 1) : rhi n k = 18446744073709551615#64 := by
  have e : k.toNat + 1 = n.toNat := by omega
  unfold rhi
  rw [e, fst_n _ (by omega)]
  decide

set_option maxHeartbeats 1000000 in
theorem Range_yes (n k : Int) (h0 : 0 ≤ k) (h1 : k < n) (h2 : n ≤ 9223372036854775807) (w : World) :
    Calls Try.prog 15 #[.int .i64 n, .int .i64 k] w fun e w' => e = .returned (.tuple #[u (rlo n k), u (rhi n k), .int .i64 0]) ∧ w = w' := by
  have a1 : ¬ n < 1 := by omega
  have a2 : ¬ k < 0 := by omega
  have a3 : ¬ n ≤ k := by omega
  by_cases hl : k < n - 1
  · have HR : Hd (rhi n k = rlo n (k + 1) - 1#64) := ⟨by unfold rhi rlo; rw [show (k + 1).toNat = k.toNat + 1 from by omega]⟩
    go_enter Try.func15, Try.ntmps15
    go_wp2_with fail
    refine (first_int n (k + 1) (by omega) (by omega) h2 _).mono ?_
    rintro e w' ⟨rfl, rfl⟩
    go_wp2_with fail
    refine (first_int n k (by omega) (by omega) h2 _).mono ?_
    rintro e w' ⟨rfl, rfl⟩
    go_wp2_with fail
    go_ret3
    exact ⟨by rw [HR.out]; rfl, rfl⟩
  · have HR := Hd.mk (rhi_last n k h0 (by omega))
    go_enter Try.func15, Try.ntmps15
    go_wp2_with fail
    refine (first_int n k (by omega) (by omega) h2 _).mono ?_
    rintro e w' ⟨rfl, rfl⟩
    go_wp2_with fail
    go_ret3
    exact ⟨by rw [HR.out]; rfl, rfl⟩

set_option maxHeartbeats 1000000 in
theorem Range_no1 (n k : Int) (h1 : n < 1) (w : World) :
    Calls Try.prog 15 #[.int .i64 n, .int .i64 k] w fun e w' => e = .returned (.tuple #[.int .u64 0, .int .u64 0, .int .i64 60]) ∧ w = w' := by
  go_enter Try.func15, Try.ntmps15
  go_wp2_with fail
  go_ret3
  exact ⟨rfl, rfl⟩
set_option maxHeartbeats 1000000 in
theorem Range_no2 (n k : Int) (h1 : 1 ≤ n) (h : k < 0 ∨ n ≤ k) (w : World) :
    Calls Try.prog 15 #[.int .i64 n, .int .i64 k] w fun e w' => e = .returned (.tuple #[.int .u64 0, .int .u64 0, .int .i64 2]) ∧ w = w' := by
  have a1 : ¬ n < 1 := by omega
  rcases h with h | h
  · go_enter Try.func15, Try.ntmps15
    go_wp2_with fail
    go_ret3
    exact ⟨rfl, rfl⟩
  · have a2 : ¬ k < 0 := by omega
    go_enter Try.func15, Try.ntmps15
    go_wp2_with fail
    go_ret3
    exact ⟨rfl, rfl⟩

def byV : Nat → BitVec 64
  | 0 => 11400714819323198485#64
  | k + 1 => byV k * (2#64 - 11400714819323198485#64 * byV k)
theorem byV5 : 11400714819323198485#64 * byV 5 = 1#64 := by decide +kernel

def findV (seed : BitVec 64) (p : Int) (v : BitVec 64) : BitVec 64 := (unmixV v - keyV seed p) * byV 5 - 1#64

set_option maxHeartbeats 1000000 in
theorem Find_no (seed : BitVec 64) (p : Int) (v : BitVec 64) (h : p < 0 ∨ 65536 < p) (w : World) :
    Calls Try.prog 13 #[u seed, .int .i64 p, u v] w fun e w' => e = .returned (.tuple #[.int .i64 0, .int .i64 2]) ∧ Below w.heap.size w w' := by
  have H := Hd.mk h
  clear h
  go_enter Try.func13, Try.ntmps13
  go_wp2_with fail
  refine (Key_no seed p H.out _).mono ?_
  rintro e w1 ⟨rfl, hB⟩
  go_wp2_with fail
  go_ret2
  exact ⟨rfl, hB⟩

theorem find_num (x : BitVec 64) (h : ¬ 281474976710656 < x.toNat) : IntKind.i64.wrap (nv x) = nv x := by
  rw [nv, wrap_i64_toInt, BitVec.toInt_ofInt, Int.bmod_eq_of_le (by omega) (by omega)]

def findI (x : BitVec 64) : Int := if 281474976710656 < x.toNat then 0 else nv x
def findE (x : BitVec 64) : Int := if 281474976710656 < x.toNat then 6 else 0

set_option maxHeartbeats 1000000 in
theorem Find_yes (seed : BitVec 64) (p : Int) (v : BitVec 64) (h0 : 0 ≤ p) (h1 : p ≤ 65536) (w : World) :
    Calls Try.prog 13 #[u seed, .int .i64 p, u v] w fun e w' => e = .returned (.tuple #[.int .i64 (findI (findV seed p v)), .int .i64 (findE (findV seed p v))]) ∧ Below w.heap.size w w' := by
  obtain ⟨X, hX⟩ : ∃ X, findV seed p v = X := ⟨_, rfl⟩
  rw [hX]
  have HX := Hd.mk hX
  clear hX
  go_enter Try.func13, Try.ntmps13
  go_wp2_with fail
  refine (Key_yes seed p h0 h1 _).mono ?_
  rintro e w1 ⟨rfl, hB⟩
  go_wp2_with fail
  go_loop [10, 21] (fun a i => ∃ k : Nat, k ≤ 5 ∧ a = u (byV k) ∧ i = .int .i64 k) (fun _ i => 5 - (intOf i).toNat)
  case atStart => exact ⟨0, by omega, rfl, rfl⟩
  case round =>
    obtain ⟨k, hk, rfl, rfl⟩ := hrel
    by_cases hlt : k < 5
    · go_wp2_with fail
      go_round
      case rel => exact ⟨k + 1, by omega, rfl, by go_num⟩
      case measure => simp [intOf]; omega
    · obtain rfl : k = 5 := by omega
      by_cases hb : 281474976710656 < X.toNat
      · have HB : Hd ((281474976710656#64).ult X = true) := ⟨by rw [BitVec.ult]; exact decide_eq_true hb⟩
        have HC := Hd.mk hb
        clear hb
        go_wp2_with fail
        refine (unmix_any _ _).mono ?_
        rintro e w2 ⟨rfl, hB2⟩
        have hB3 := hB.trans (hB2.mono hB.size)
        clear hB hB2
        have hu := HB.out
        rw [← HX.out, findV] at hu
        go_wp2_with fail
        go_ret2
        exact ⟨by rw [findI, findE, if_pos HC.out, if_pos HC.out]; rfl, hB3⟩
      · have HB : Hd ((281474976710656#64).ult X = false) := ⟨by rw [BitVec.ult]; exact decide_eq_false hb⟩
        have HN := Hd.mk (find_num X hb)
        have HC := Hd.mk hb
        clear hb
        go_wp2_with fail
        refine (unmix_any _ _).mono ?_
        rintro e w2 ⟨rfl, hB2⟩
        have hB3 := hB.trans (hB2.mono hB.size)
        clear hB hB2
        have hu := HB.out
        have hn := HN.out
        rw [← HX.out, findV] at hu hn
        go_wp2_with fail
        go_ret2
        exact ⟨by rw [findI, findE, if_neg HC.out, if_neg HC.out, ← HX.out]; rfl, hB3⟩
end Go.Proofs.Ytpioobaapigjcaa
