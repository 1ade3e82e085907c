/- Walk of the law RngSpread. -/
import Derived.Test.YtpioobaapigjcaaA4
import Derived.Laws.Small
import Derived.Deep.QuietTactic
import Derived.BigQuiet
namespace Go.Proofs.Ytpioobaapigjcaa
open Go.RowKit
set_option linter.unusedVariables false

theorem rlo_nat (n k : Int) (h0 : 0 ≤ k) (h1 : k < n) (h2 : n ≤ 9223372036854775807) : (rlo n k).toNat = fst' n.toNat k.toNat := by
  have := fst_bound n.toNat k.toNat (by omega) (by omega)
  rw [rlo, BitVec.toNat_ofNat]; omega
theorem rhi_nat (n k : Int) (h0 : 0 ≤ k) (h1 : k < n) (h2 : n ≤ 9223372036854775807) : (rhi n k).toNat = fst' n.toNat (k.toNat + 1) - 1 := by
  have h3 := fst_lt n.toNat k.toNat (by omega) (by omega)
  have h4 := fst_mono n.toNat (k.toNat + 1) n.toNat (by omega)
  rw [fst_n _ (by omega)] at h4
  rw [rhi, BitVec.toNat_sub, show (1#64).toNat = 1 from rfl, BitVec.toNat_ofNat]
  omega
theorem blw_of (n k : Int) (v : BitVec 64) (h0 : 0 ≤ k) (h1 : k < n) (h2 : n ≤ 9223372036854775807) (ha : (rlo n k).toNat ≤ v.toNat) (hb : v.toNat ≤ (rhi n k).toNat) :
    (blw v.toNat n.toNat : Int) = k := by
  rw [rlo_nat n k h0 h1 h2] at ha
  rw [rhi_nat n k h0 h1 h2] at hb
  have h3 := fst_lt n.toNat k.toNat (by omega) (by omega)
  rw [blw_eq v.toNat n.toNat k.toNat (by omega) ha (by omega)]
  omega

/-- What the law asks of the first and the last number a, b of k, and those of l. -/
structure Spread (n k l : Int) (a b c d : BitVec 64) : Prop where
  ab : b.ult a = false
  cd : d.ult c = false
  va : (blw a.toNat n.toNat : Int) = k
  vb : (blw b.toNat n.toNat : Int) = k
  vm : (blw (a + (b - a) / 2#64).toNat n.toNat : Int) = k
  lo : 0 < k → (blw (a - 1#64).toNat n.toNat : Int) = k - 1
  hi : k < n - 1 → (blw (b + 1#64).toNat n.toNat : Int) = k + 1
  lo0 : k = 0 → (a == 0#64) = true
  hi0 : k = n - 1 → (b == 18446744073709551615#64) = true

theorem spread (n k l : Int) (k0 : 0 ≤ k) (k1 : k < n) (l0 : 0 ≤ l) (l1 : l < n) (h2 : n ≤ 9223372036854775807) : Spread n k l (rlo n k) (rhi n k) (rlo n l) (rhi n l) := by
  have ea := rlo_nat n k k0 k1 h2
  have eb := rhi_nat n k k0 k1 h2
  have ec := rlo_nat n l l0 l1 h2
  have ed := rhi_nat n l l0 l1 h2
  have f1 := fst_lt n.toNat k.toNat (by omega) (by omega)
  have f2 := fst_lt n.toNat l.toNat (by omega) (by omega)
  have hab : (rlo n k).toNat ≤ (rhi n k).toNat := by omega
  refine ⟨?_, ?_, blw_of n k _ k0 k1 h2 (Nat.le_refl _) hab, blw_of n k _ k0 k1 h2 hab (Nat.le_refl _), ?_, ?_, ?_, ?_, fun h => ?_⟩
  · rw [BitVec.ult]; exact decide_eq_false (by omega)
  · rw [BitVec.ult]; exact decide_eq_false (by omega)
  · have e : (rlo n k + (rhi n k - rlo n k) / 2#64).toNat = (rlo n k).toNat + ((rhi n k).toNat - (rlo n k).toNat) / 2 := by
      have := (rhi n k).isLt
      rw [BitVec.toNat_add, BitVec.toNat_udiv, BitVec.toNat_sub, show (2#64).toNat = 2 from rfl]
      have e2 : (2 ^ 64 - (rlo n k).toNat + (rhi n k).toNat) % 2 ^ 64 = (rhi n k).toNat - (rlo n k).toNat := by omega
      rw [e2]; omega
    refine blw_of n k _ k0 k1 h2 ?_ ?_ <;> rw [e] <;> omega
  · intro h
    have g1 := fst_lt n.toNat (k - 1).toNat (by omega) (by omega)
    have e : (k - 1).toNat + 1 = k.toNat := by omega
    rw [e] at g1
    have e1 : (rlo n k - 1#64).toNat = fst' n.toNat k.toNat - 1 := by
      have := (rlo n k).isLt
      rw [BitVec.toNat_sub, show (1#64).toNat = 1 from rfl]; omega
    refine blw_of n (k - 1) _ (by omega) (by omega) h2 ?_ ?_
    · rw [rlo_nat n (k - 1) (by omega) (by omega) h2, e1]; omega
    · rw [rhi_nat n (k - 1) (by omega) (by omega) h2, e1, e]; omega
  · intro h
    have e : (k + 1).toNat = k.toNat + 1 := by omega
    have g1 := fst_lt n.toNat (k.toNat + 1) (by omega) (by omega)
    have g2 := fst_bound n.toNat (k.toNat + 1) (by omega) (by omega)
    have e1 : (rhi n k + 1#64).toNat = fst' n.toNat (k.toNat + 1) := by
      rw [BitVec.toNat_add, show (1#64).toNat = 1 from rfl, eb]; omega
    refine blw_of n (k + 1) _ (by omega) (by omega) h2 ?_ ?_
    · rw [rlo_nat n (k + 1) (by omega) (by omega) h2, e1, e]; omega
    · rw [rhi_nat n (k + 1) (by omega) (by omega) h2, e1, e]; omega
  · intro h
    subst h
    rw [beq_iff_eq]
    apply BitVec.eq_of_toNat_eq
    rw [ea]
    exact fst_zero _ (by omega)
  · rw [rhi_last n k k0 h]; rfl

/-- How many numbers become k, less one; and how many l. -/
theorem spread_gap (n k l : Int) (k0 : 0 ≤ k) (k1 : k < n) (l0 : 0 ≤ l) (l1 : l < n) (h2 : n ≤ 9223372036854775807) :
    (rhi n k - rlo n k).toNat ≤ (rhi n l - rlo n l).toNat + 1 := by
  have ea := rlo_nat n k k0 k1 h2
  have eb := rhi_nat n k k0 k1 h2
  have ec := rlo_nat n l l0 l1 h2
  have ed := rhi_nat n l l0 l1 h2
  have f1 := fst_lt n.toNat k.toNat (by omega) (by omega)
  have f2 := fst_lt n.toNat l.toNat (by omega) (by omega)
  have g := fst_gap n.toNat k.toNat l.toNat (by omega)
  have := (rhi n k).isLt
  have := (rhi n l).isLt
  rw [BitVec.toNat_sub, BitVec.toNat_sub]
  omega

def umaxV (x y : BitVec 64) : BitVec 64 := if x.ult y then y else x
def uminV (x y : BitVec 64) : BitVec 64 := if y.ult x then y else x
@[go_sem] theorem run_max_u (P : Program) (w : World) (ts : Array TypeId) (t : TypeId) (x y : BitVec 64) : (Builtin.max_ ts t #[u x, u y]).run P w = .ok (u (umaxV x y)) w := by
  rw [umaxV, u, u, run_max_int2]
  by_cases h : x.toNat < y.toNat
  · have h2 : x.ult y = true := by rw [BitVec.ult]; exact decide_eq_true h
    rw [if_pos (by omega), if_pos h2]; rfl
  · have h2 : x.ult y = false := by rw [BitVec.ult]; exact decide_eq_false h
    rw [if_neg (by omega), if_neg (by simp [h2])]; rfl
@[go_sem] theorem run_min_u (P : Program) (w : World) (ts : Array TypeId) (t : TypeId) (x y : BitVec 64) : (Builtin.min_ ts t #[u x, u y]).run P w = .ok (u (uminV x y)) w := by
  rw [uminV, u, u, run_min_int2]
  by_cases h : y.toNat < x.toNat
  · have h2 : y.ult x = true := by rw [BitVec.ult]; exact decide_eq_true h
    rw [if_pos (by omega), if_pos h2]; rfl
  · have h2 : y.ult x = false := by rw [BitVec.ult]; exact decide_eq_false h
    rw [if_neg (by omega), if_neg (by simp [h2])]; rfl
theorem gap_ule (x y : BitVec 64) (h1 : x.toNat ≤ y.toNat + 1) (h2 : y.toNat ≤ x.toNat + 1) : (umaxV x y - uminV x y).ule 1#64 = true := by
  have hx := x.isLt
  have hy := y.isLt
  unfold umaxV uminV
  rw [BitVec.ule, BitVec.ult, BitVec.ult]
  refine decide_eq_true ?_
  by_cases a : x.toNat < y.toNat
  · have b : ¬ y.toNat < x.toNat := by omega
    simp only [a, b, decide_true, decide_false, if_true, Bool.false_eq_true, if_false, BitVec.toNat_sub]
    show _ ≤ 1
    omega
  · by_cases b : y.toNat < x.toNat
    · simp only [a, b, decide_true, decide_false, if_true, Bool.false_eq_true, if_false, BitVec.toNat_sub]
      show _ ≤ 1
      omega
    · simp only [a, b, decide_false, Bool.false_eq_true, if_false, BitVec.toNat_sub]
      show _ ≤ 1
      omega

theorem nneg (x : Int) (x0 : -9223372036854775808 ≤ x) (x1 : x ≤ 9223372036854775807) : wrap64 (-wrap64 (x + 1)) = if x = 9223372036854775807 then -9223372036854775808 else -(x + 1) := by
  unfold wrap64
  split <;> omega
theorem max_neg64 (x : Int) (x0 : -9223372036854775808 ≤ x) (x1 : x ≤ 9223372036854775807) : ∃ p : Int, 0 ≤ p ∧ p ≤ 9223372036854775807 ∧ (if x < wrap64 (-wrap64 (x + 1)) then wrap64 (-wrap64 (x + 1)) else x) = p := by
  rw [nneg x x0 x1]
  refine ⟨_, ?_, ?_, rfl⟩ <;> split <;> split <;> omega

set_option maxRecDepth 100000 in
set_option maxHeartbeats 2000000 in
theorem rngSpread_aux (n k l p q r N K L : Int) (n0 : -9223372036854775808 ≤ n) (n1 : n ≤ 9223372036854775807) (k0 : -9223372036854775808 ≤ k) (k1 : k ≤ 9223372036854775807) (l0 : -9223372036854775808 ≤ l) (l1 : l ≤ 9223372036854775807)
    (p0 : 0 ≤ p) (p1 : p ≤ 9223372036854775807) (q0 : 0 ≤ q) (q1 : q ≤ 9223372036854775807) (r0 : 0 ≤ r) (r1 : r ≤ 9223372036854775807)
    (hp : (if n < wrap64 (-wrap64 (n + 1)) then wrap64 (-wrap64 (n + 1)) else n) = p)
    (hq : (if k < wrap64 (-wrap64 (k + 1)) then wrap64 (-wrap64 (k + 1)) else k) = q)
    (hr : (if l < wrap64 (-wrap64 (l + 1)) then wrap64 (-wrap64 (l + 1)) else l) = r)
    (hN : p % 9223372036854775807 + 1 = N) (hK : q % N = K) (hL : r % N = L) (N0 : 1 ≤ N) (N1 : N ≤ 9223372036854775807) (K0 : 0 ≤ K) (K1 : K < N) (L0 : 0 ≤ L) (L1 : L < N) (w : World) :
    Calls Try.prog 4 #[.int .i64 n, .int .i64 k, .int .i64 l] w fun e w' => e = .returned (.bool true) ∧ Below w.heap.size w w' := by
  have hs := spread N K L K0 K1 L0 L1 N1
  have hg1 := spread_gap N K L K0 K1 L0 L1 N1
  have hg2 := spread_gap N L K L0 L1 K0 K1 N1
  obtain ⟨a, ha⟩ : ∃ a, rlo N K = a := ⟨_, rfl⟩
  obtain ⟨b, hb⟩ : ∃ b, rhi N K = b := ⟨_, rfl⟩
  obtain ⟨c, hc⟩ : ∃ c, rlo N L = c := ⟨_, rfl⟩
  obtain ⟨d, hd⟩ : ∃ d, rhi N L = d := ⟨_, rfl⟩
  rw [ha, hb, hc, hd] at hs hg1 hg2
  have HA := Hd.mk ha
  have HB := Hd.mk hb
  have HC := Hd.mk hc
  have HD := Hd.mk hd
  have HS := Hd.mk hs
  have hgap : (umaxV (b - a) (d - c) - uminV (b - a) (d - c)).ule 1#64 = true := gap_ule _ _ hg1 hg2
  have HG := Hd.mk hgap
  have hab := hs.ab
  have hcd := hs.cd
  clear ha hb hc hd hs hg1 hg2 hgap
  go_enter Try.func4, Try.ntmps4
  go_wp2_with fail
  go_quiet (fail)
  go_wp2_with fail
  refine (Range_yes N K K0 K1 N1 _).mono ?_
  rintro e w1 ⟨rfl, rfl⟩
  rw [HA.out, HB.out]
  go_wp2_with fail
  refine (Range_yes N L L0 L1 N1 _).mono ?_
  rintro e w1 ⟨rfl, rfl⟩
  rw [HC.out, HD.out]
  go_wp2_with fail
  go_loop [82] (fun i => ∃ k : Nat, k ≤ 3 ∧ i = .int .i64 k) (fun i => 3 - (intOf i).toNat)
  case atStart => exact ⟨0, by omega, rfl⟩
  case round =>
    obtain ⟨j, hj, rfl⟩ := hrel
    have hj' : j = 0 ∨ j = 1 ∨ j = 2 ∨ j = 3 := by omega
    clear hj
    rcases hj' with rfl | rfl | rfl | rfl
    · rw [show ((0 : Nat) : Int) = 0 from rfl]
      have hv := HS.out.va
      have hck : ((w.drewN nq).alloc (Obj.cells #[u a, u b, u (a + (b - a) / 2#64)] 22)).cell? ⟨w.heap.size, 0, none⟩ = some (u a) := cells_cell (World.alloc_heap_new (w.drewN nq) _) 0
      have HV := Hd.mk hv
      clear hv
      go_wp2_with fail
      refine (Below_yes _ N N0 N1 _).mono ?_
      rintro e w1 ⟨rfl, rfl⟩
      rw [HV.out]
      go_wp2_with fail
      go_round
      case rel => exact ⟨1, by omega, rfl⟩
      case measure => simp [intOf]
    · rw [show ((1 : Nat) : Int) = 1 from rfl]
      have hv := HS.out.vb
      have hck : ((w.drewN nq).alloc (Obj.cells #[u a, u b, u (a + (b - a) / 2#64)] 22)).cell? ⟨w.heap.size, 1, none⟩ = some (u b) := cells_cell (World.alloc_heap_new (w.drewN nq) _) 1
      have HV := Hd.mk hv
      clear hv
      go_wp2_with fail
      refine (Below_yes _ N N0 N1 _).mono ?_
      rintro e w1 ⟨rfl, rfl⟩
      rw [HV.out]
      go_wp2_with fail
      go_round
      case rel => exact ⟨2, by omega, rfl⟩
      case measure => simp [intOf]
    · rw [show ((2 : Nat) : Int) = 2 from rfl]
      have hv := HS.out.vm
      have hck : ((w.drewN nq).alloc (Obj.cells #[u a, u b, u (a + (b - a) / 2#64)] 22)).cell? ⟨w.heap.size, 2, none⟩ = some (u (a + (b - a) / 2#64)) := cells_cell (World.alloc_heap_new (w.drewN nq) _) 2
      have HV := Hd.mk hv
      clear hv
      go_wp2_with fail
      refine (Below_yes _ N N0 N1 _).mono ?_
      rintro e w1 ⟨rfl, rfl⟩
      rw [HV.out]
      go_wp2_with fail
      go_round
      case rel => exact ⟨3, by omega, rfl⟩
      case measure => simp [intOf]
    · rw [show ((3 : Nat) : Int) = 3 from rfl]
      have hlo0 := HS.out.lo0
      have hhi0 := HS.out.hi0
      have hgap := HG.out
      have HL0 := Hd.mk hlo0
      have HH0 := Hd.mk hhi0
      clear hlo0 hhi0
      by_cases hk0 : 0 < K
      · by_cases hk1 : K < N - 1
        · have HV := Hd.mk (HS.out.lo hk0)
          go_wp2_with fail
          refine (Below_yes _ N N0 N1 _).mono ?_
          rintro e w1 ⟨rfl, rfl⟩
          rw [HV.out]
          have HV2 := Hd.mk (HS.out.hi hk1)
          go_wp2_with fail
          refine (Below_yes _ N N0 N1 _).mono ?_
          rintro e w1 ⟨rfl, rfl⟩
          rw [HV2.out]
          go_wp2_with fail
          refine (awake_any _).mono ?_
          rintro e w6 ⟨rfl, hB6⟩
          go_wp2_with fail
          go_ret
          exact ⟨rfl, (below_drewN (Below.refl _ _) nq |>.alloc (by simp) _).trans (hB6.mono (by simp))⟩
        · have HV := Hd.mk (HS.out.lo hk0)
          go_wp2_with fail
          refine (Below_yes _ N N0 N1 _).mono ?_
          rintro e w1 ⟨rfl, rfl⟩
          rw [HV.out]
          have hz2 := HH0.out (by omega)
          go_wp2_with fail
          refine (awake_any _).mono ?_
          rintro e w6 ⟨rfl, hB6⟩
          go_wp2_with fail
          go_ret
          exact ⟨rfl, (below_drewN (Below.refl _ _) nq |>.alloc (by simp) _).trans (hB6.mono (by simp))⟩
      · by_cases hk1 : K < N - 1
        · have hz := HL0.out (by omega)
          have HV2 := Hd.mk (HS.out.hi hk1)
          go_wp2_with fail
          refine (Below_yes _ N N0 N1 _).mono ?_
          rintro e w1 ⟨rfl, rfl⟩
          rw [HV2.out]
          go_wp2_with fail
          refine (awake_any _).mono ?_
          rintro e w6 ⟨rfl, hB6⟩
          go_wp2_with fail
          go_ret
          exact ⟨rfl, (below_drewN (Below.refl _ _) nq |>.alloc (by simp) _).trans (hB6.mono (by simp))⟩
        · have hz := HL0.out (by omega)
          have hz2 := HH0.out (by omega)
          go_wp2_with fail
          refine (awake_any _).mono ?_
          rintro e w6 ⟨rfl, hB6⟩
          go_wp2_with fail
          go_ret
          exact ⟨rfl, (below_drewN (Below.refl _ _) nq |>.alloc (by simp) _).trans (hB6.mono (by simp))⟩

theorem rngSpread_walk (n k l : Int) (n0 : -9223372036854775808 ≤ n) (n1 : n ≤ 9223372036854775807) (k0 : -9223372036854775808 ≤ k) (k1 : k ≤ 9223372036854775807) (l0 : -9223372036854775808 ≤ l) (l1 : l ≤ 9223372036854775807) (w : World) :
    Calls Try.prog 4 #[.int .i64 n, .int .i64 k, .int .i64 l] w fun e w' => e = .returned (.bool true) ∧ Below w.heap.size w w' := by
  obtain ⟨p, p0, p1, hp⟩ := max_neg64 n n0 n1
  obtain ⟨q, q0, q1, hq⟩ := max_neg64 k k0 k1
  obtain ⟨r, r0, r1, hr⟩ := max_neg64 l l0 l1
  obtain ⟨N, hN⟩ : ∃ N, p % 9223372036854775807 + 1 = N := ⟨_, rfl⟩
  have N0 : 1 ≤ N := by omega
  have N1 : N ≤ 9223372036854775807 := by omega
  exact rngSpread_aux n k l p q r N (q % N) (r % N) n0 n1 k0 k1 l0 l1 p0 p1 q0 q1 r0 r1 hp hq hr hN rfl rfl N0 N1
    (Int.emod_nonneg _ (by omega)) (Int.emod_lt_of_pos _ (by omega)) (Int.emod_nonneg _ (by omega)) (Int.emod_lt_of_pos _ (by omega)) w
end Go.Proofs.Ytpioobaapigjcaa
