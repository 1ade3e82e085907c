/- Walk of the law RngSmall. -/
import Derived.Test.YtpioobaapigjcaaC2
namespace Go.Proofs.Ytpioobaapigjcaa
open Go.RowKit
set_option linter.unusedVariables false

set_option maxHeartbeats 1000000 in
theorem is_nil (w : World) : Calls Try.prog 37 #[.pointer none] w fun e w' => e = .returned (.bool false) ∧ w = w' := by
  go_enter Try.func37, Try.ntmps37
  go_wp2_with fail
  go_ret
  exact ⟨rfl, rfl⟩
set_option maxHeartbeats 1000000 in
theorem is_none (b : Nat) (w : World) (h2 : w.cell? ⟨b, 2, none⟩ = some (.bool false)) : Calls Try.prog 37 #[.pointer (some ⟨b, 0, none⟩)] w fun e w' => e = .returned (.bool false) ∧ w = w' := by
  go_enter Try.func37, Try.ntmps37
  go_wp2_with fail
  go_ret
  exact ⟨rfl, rfl⟩

/-- A pointer that is no stream. -/
def NoS (w : World) (a : Option Addr) : Prop := a = none ∨ ∃ b, a = some ⟨b, 0, none⟩ ∧ b < w.heap.size ∧ w.cell? ⟨b, 2, none⟩ = some (.bool false)
theorem NoS.below {w w1 : World} {a : Option Addr} (h : NoS w a) (hB : Below w.heap.size w w1) : NoS w1 a := by
  rcases h with rfl | ⟨b, rfl, hb, hc⟩
  · exact .inl rfl
  · exact .inr ⟨b, rfl, Nat.lt_of_lt_of_le hb hB.size, by rw [hB.cell (p := ⟨b, 2, none⟩) hb]; exact hc⟩
theorem is_NoS (a : Option Addr) (w : World) (h : NoS w a) : Calls Try.prog 37 #[.pointer a] w fun e w' => e = .returned (.bool false) ∧ w = w' := by
  rcases h with rfl | ⟨b, rfl, _, hc⟩
  · exact is_nil w
  · exact is_none b w hc

set_option maxHeartbeats 1000000 in
theorem Index_NoS (a : Option Addr) (w : World) (h : NoS w a) : Calls Try.prog 26 #[.pointer a] w fun e w' => e = .returned (.int .i64 0) ∧ w = w' := by
  go_enter Try.func26, Try.ntmps26
  go_wp2_with fail
  refine (is_NoS a _ h).mono ?_
  rintro e w' ⟨rfl, rfl⟩
  go_wp2_with fail
  go_ret
  exact ⟨rfl, rfl⟩
set_option maxHeartbeats 1000000 in
theorem Move_NoS (a : Option Addr) (i : Int) (w : World) (h : NoS w a) : Calls Try.prog 25 #[.pointer a, .int .i64 i] w fun e w' => e = .returned (.int .i64 1) ∧ w = w' := by
  have H := Hd.mk h
  clear h
  go_enter Try.func25, Try.ntmps25
  go_wp2_with fail
  refine (is_NoS a _ H.out).mono ?_
  rintro e w' ⟨rfl, rfl⟩
  go_wp2_with fail
  go_ret
  exact ⟨rfl, rfl⟩
set_option maxHeartbeats 1000000 in
theorem Next_NoS (a : Option Addr) (w : World) (h : NoS w a) : Calls Try.prog 22 #[.pointer a] w fun e w' => e = .returned (.tuple #[.int .u64 0, .int .i64 1]) ∧ Below w.heap.size w w' := by
  have H := Hd.mk h
  clear h
  go_enter_defers Try.func22, Try.ntmps22
  go_wp2_with fail
  refine (is_NoS a _ (H.out.below ((Below.refl _ _).alloc (Nat.le_refl _) _))).mono ?_
  rintro e w' ⟨rfl, rfl⟩
  go_wp2_with fail
  refine ⟨_, results_tmp2 rfl _ _ _, ?_⟩
  exact ⟨rfl, (Below.refl _ _).alloc (Nat.le_refl _) _⟩
set_option maxHeartbeats 1000000 in
theorem DrawS_NoS (a : Option Addr) (n : Int) (w : World) (h : NoS w a) : Calls Try.prog 23 #[.pointer a, .int .i64 n] w fun e w' => e = .returned (.tuple #[.int .i64 0, .int .i64 1]) ∧ Below w.heap.size w w' := by
  have H := Hd.mk h
  clear h
  go_enter Try.func23, Try.ntmps23
  go_wp2_with fail
  refine (is_NoS a _ H.out).mono ?_
  rintro e w' ⟨rfl, rfl⟩
  go_wp2_with fail
  refine (Next_NoS a _ H.out).mono ?_
  rintro e w1 ⟨rfl, hB⟩
  go_wp2_with fail
  go_ret2
  exact ⟨rfl, hB⟩

/-- The elements of a literal array of integers. -/
def Ints (k : IntKind) (A : Array Value) : Prop := ∀ j, j < A.size → ∃ x : Int, A[j]? = some (.int k x) ∧ (Lit.int k x).wf = true
def intsB (k : IntKind) (A : Array Value) : Bool := A.all fun v => match v with | .int k' x => decide (k' = k) && (Lit.int k x).wf | _ => false
theorem ints_of {k : IntKind} {A : Array Value} (h : intsB k A = true) : Ints k A := by
  intro j hj
  have h1 := Array.all_eq_true.1 h j hj
  rw [Array.getElem?_eq_getElem hj]
  revert h1
  generalize A[j] = v
  intro h1
  cases v <;> simp at h1
  obtain ⟨rfl, h2⟩ := h1
  exact ⟨_, rfl, h2⟩
def seedsA : Array Value := #[.int .u64 0, .int .u64 1, .int .u64 18446744073709551615, .int .u64 11400714819323198485]
def procsA : Array Value := #[.int .i64 (-1), .int .i64 0, .int .i64 1, .int .i64 2, .int .i64 65536, .int .i64 65537, .int .i64 (-9223372036854775808)]
def idxA : Array Value := #[.int .i64 (-1), .int .i64 0, .int .i64 1, .int .i64 2, .int .i64 281474976710655, .int .i64 281474976710656, .int .i64 281474976710657]
theorem seeds_ints : Ints .u64 seedsA := ints_of (by decide +kernel)
theorem procs_ints : Ints .i64 procsA := ints_of (by decide +kernel)
def sixA : Array Value := #[.int .i64 (-9223372036854775808), .int .i64 4294967296, .int .i64 4294967297, .int .i64 4611686018427387904, .int .i64 4611686018427387905, .int .i64 9223372036854775807]
theorem six_ints : Ints .i64 sixA := ints_of (by decide +kernel)
theorem idx_ints : Ints .i64 idxA := ints_of (by decide +kernel)

def kA (N : Int) : Array Value := #[.int .i64 0, .int .i64 1, .int .i64 (N.tdiv 2), .int .i64 (wrap64 (N - 2)), .int .i64 (wrap64 (N - 1)), .int .i64 N]
theorem kA_ints (N : Int) (j : Nat) (h : j < 6) : ∃ x : Int, (kA N)[j]? = some (.int .i64 x) := by
  have : j = 0 ∨ j = 1 ∨ j = 2 ∨ j = 3 ∨ j = 4 ∨ j = 5 := by omega
  rcases this with rfl | rfl | rfl | rfl | rfl | rfl <;> exact ⟨_, rfl⟩

set_option maxRecDepth 100000 in
set_option maxHeartbeats 4000000 in
theorem rngSmall_walk (w : World) : Calls Try.prog 9 #[] w fun e w' => e = .returned (.bool true) ∧ Below w.heap.size w w' := by
  go_enter Try.func9, Try.ntmps9
  go_wp2_with fail
  obtain ⟨w1, hw1⟩ : ∃ w1, w1 = w.alloc (.cells seedsA 22) := ⟨_, rfl⟩
  have hsz1 : w.heap.size < w1.heap.size := by rw [hw1]; simp
  have HW := Hd.mk hw1
  clear hw1
  go_loopw [21] (fun i W => ∃ j : Nat, j ≤ 4 ∧ i = .int .i64 j ∧ Below w1.heap.size w1 W) (fun i _ => 4 - (intOf i).toNat)
  case atStart => exact ⟨0, by omega, rfl, by rw [HW.out]; exact Below.refl _ _⟩
  case round =>
    obtain ⟨j, hj, rfl, hB⟩ := hrel
    by_cases hlt : j < 4
    · obtain ⟨S, hS, wS⟩ := seeds_ints j hlt
      have hcell : wr.cell? ⟨w.heap.size, j, none⟩ = some (.int .u64 S) := by
        rw [← hS, hB.cell (p := ⟨w.heap.size, j, none⟩) hsz1, HW.out]
        exact cells_cell (World.alloc_heap_new w _) j
      have hdj : decide ((j : Int) < 4) = true := decide_eq_true (by omega)
      rw [u_int wS] at hcell
      obtain ⟨sd, hsd⟩ : ∃ sd, BitVec.ofInt 64 S = sd := ⟨_, rfl⟩
      rw [hsd] at hcell
      clear hsd hS wS
      go_wp2_with fail
      obtain ⟨w2, hw2⟩ : ∃ w2, w2 = wr.alloc (.cells #[.int .i64 (-1), .int .i64 0, .int .i64 1, .int .i64 2, .int .i64 65536, .int .i64 65537, .int .i64 (-9223372036854775808)] 3) := ⟨_, rfl⟩
      obtain ⟨b2, hb2⟩ : ∃ b2, b2 = wr.heap.size := ⟨_, rfl⟩
      have hsz2 : b2 < w2.heap.size := by rw [hw2, hb2]; simp
      have hB2 : Below w1.heap.size w1 w2 := by rw [hw2]; exact hB.alloc hB.size _
      have HC2 : Hd (∀ j v, procsA[j]? = some v → w2.cell? ⟨b2, j, none⟩ = some v) := ⟨fun j v hv => by rw [← hv, hw2, hb2]; exact cells_cell (World.alloc_heap_new wr _) j⟩
      rw [← hw2, ← hb2]
      clear hw2 hb2 hB hcell
      go_loopw [27] (fun i W => ∃ j : Nat, j ≤ 7 ∧ i = .int .i64 j ∧ Below w2.heap.size w2 W) (fun i _ => 7 - (intOf i).toNat)
      case atStart => exact ⟨0, by omega, rfl, Below.refl _ _⟩
      case round =>
        obtain ⟨j2, hj2, rfl, hB⟩ := hrel
        by_cases hlt2 : j2 < 7
        · obtain ⟨P, hS, wS⟩ := procs_ints j2 hlt2
          have hcell : wr.cell? ⟨b2, j2, none⟩ = some (.int .i64 P) := by
            rw [hB.cell (p := ⟨b2, j2, none⟩) hsz2]; exact HC2.out _ _ hS
          have hdj2 : decide ((j2 : Int) < 7) = true := decide_eq_true (by omega)
          obtain ⟨P1, P2⟩ := bounds_i64 wS
          clear hS wS
          go_wp2_with fail
          obtain ⟨w3, hw3⟩ : ∃ w3, w3 = wr.alloc (.cells #[.int .i64 (-1), .int .i64 0, .int .i64 1, .int .i64 2, .int .i64 281474976710655, .int .i64 281474976710656, .int .i64 281474976710657] 3) := ⟨_, rfl⟩
          obtain ⟨b3, hb3⟩ : ∃ b3, b3 = wr.heap.size := ⟨_, rfl⟩
          have hsz3 : b3 < w3.heap.size := by rw [hw3, hb3]; simp
          have hB3 : Below w2.heap.size w2 w3 := by rw [hw3]; exact hB.alloc hB.size _
          have HC3 : Hd (∀ j v, idxA[j]? = some v → w3.cell? ⟨b3, j, none⟩ = some v) := ⟨fun j v hv => by rw [← hv, hw3, hb3]; exact cells_cell (World.alloc_heap_new wr _) j⟩
          rw [← hw3, ← hb3]
          clear hw3 hb3 hB hcell
          go_loopw [33] (fun i W => ∃ j : Nat, j ≤ 7 ∧ i = .int .i64 j ∧ Below w3.heap.size w3 W) (fun i _ => 7 - (intOf i).toNat)
          case atStart => exact ⟨0, by omega, rfl, Below.refl _ _⟩
          case round =>
            obtain ⟨j3, hj3, rfl, hB⟩ := hrel
            by_cases hlt3 : j3 < 7
            · obtain ⟨I, hS, wS⟩ := idx_ints j3 hlt3
              have hcell : wr.cell? ⟨b3, j3, none⟩ = some (.int .i64 I) := by
                rw [hB.cell (p := ⟨b3, j3, none⟩) hsz3]; exact HC3.out _ _ hS
              obtain ⟨I1, I2⟩ := bounds_i64 wS
              clear hS wS
              go_wp2_with fail
              refine (tells_any sd P I I P sd (by omega) _).mono ?_
              rintro e w4 ⟨rfl, hB4⟩
              have hB5 := hB.trans (hB4.mono hB.size)
              clear hB hB4 hcell
              go_wp2_with fail
              rw [u_mk]
              refine (tells_any sd P I 6 5 _ (by decide) _).mono ?_
              rintro e w6 ⟨rfl, hB6⟩
              have hB7 := hB5.trans (hB6.mono hB5.size)
              clear hB5 hB6
              go_wp2_with fail
              go_roundw
              case rel => exact ⟨j3 + 1, by omega, by go_num, hB7⟩
              case measure => simp [intOf]; omega
            · obtain rfl : j3 = 7 := by omega
              rw [show ((7 : Nat) : Int) = 7 from rfl]
              have hB' := hB3.trans (hB.mono hB3.size)
              clear hB
              go_wp2_with fail
              go_roundw
              case rel => exact ⟨j2 + 1, by omega, by go_num, hB'⟩
              case measure => simp [intOf]; omega
        · obtain rfl : j2 = 7 := by omega
          rw [show ((7 : Nat) : Int) = 7 from rfl]
          have hB' := hB2.trans (hB.mono hB2.size)
          clear hB
          go_wp2_with fail
          go_roundw
          case rel => exact ⟨j + 1, by omega, by go_num, hB'⟩
          case measure => simp [intOf]; omega
    · obtain rfl : j = 4 := by omega
      rw [show ((4 : Nat) : Int) = 4 from rfl]
      have hB' : Below w.heap.size w wr := (by rw [HW.out]; exact (Below.refl _ _).alloc (Nat.le_refl _) _ : Below w.heap.size w w1).trans (hB.mono (by omega))
      clear hB HW hsz1
      have hB := hB'
      clear hB'
      go_wp2_with fail
      go_loopw [57] (fun i W => ∃ j : Nat, j ≤ 41 ∧ i = .int .i64 j ∧ Below w.heap.size w W) (fun i _ => 41 - (intOf i).toNat)
      case atStart => exact ⟨0, by omega, rfl, hB⟩
      case round =>
        obtain ⟨j, hj, rfl, hB⟩ := hrel
        by_cases hlt : j < 41
        · have hdj : decide ((j : Int) < 41) = true := decide_eq_true (by omega)
          go_wp2_with fail
          obtain ⟨wo, hwo⟩ : ∃ wo : World, wo = wr := ⟨_, rfl⟩
          rw [← hwo] at hB ⊢
          clear hwo
          have hB0 := hB
          go_loopw [62] (fun i W => ∃ k : Nat, k ≤ j + 2 ∧ i = .int .i64 k ∧ Below w.heap.size w W) (fun i _ => j + 2 - (intOf i).toNat)
          case atStart => exact ⟨0, by omega, rfl, hB⟩
          case round =>
            clear hB hB0
            obtain ⟨k, hk, rfl, hB⟩ := hrel
            by_cases hltk : k < j + 2
            · have hdk : decide ((k : Int) < (j : Int) + 2) = true := decide_eq_true (by omega)
              go_wp2_with fail
              rw [u_ofInt_int _ (by omega) (by omega)]
              refine (cmp_any _ (j : Int) ((k : Int) - 1) (by omega) _).mono ?_
              rintro e w4 ⟨rfl, hB4⟩
              have hB5 := hB.trans (hB4.mono hB.size)
              clear hB hB4
              go_wp2_with fail
              go_roundw
              case rel => exact ⟨k + 1, by omega, by go_num, hB5⟩
              case measure => simp [intOf]; omega
            · obtain rfl : k = j + 2 := by omega
              rw [show ((j + 2 : Nat) : Int) = (j : Int) + 2 from by omega]
              go_wp2_with fail
              go_roundw
              case rel => exact ⟨j + 1, by omega, by go_num, hB⟩
              case measure => simp [intOf]; omega
        · obtain rfl : j = 41 := by omega
          rw [show ((41 : Nat) : Int) = 41 from rfl]
          go_wp2_with fail
          obtain ⟨w4, hw4⟩ : ∃ w4, w4 = wr.alloc (.cells #[.int .i64 (-9223372036854775808), .int .i64 4294967296, .int .i64 4294967297, .int .i64 4611686018427387904, .int .i64 4611686018427387905, .int .i64 9223372036854775807] 2) := ⟨_, rfl⟩
          obtain ⟨b4, hb4⟩ : ∃ b4, b4 = wr.heap.size := ⟨_, rfl⟩
          have hsz4 : b4 < w4.heap.size := by rw [hw4, hb4]; simp
          have hB4 : Below w.heap.size w w4 := by rw [hw4]; exact hB.alloc hB.size _
          have HC4 : Hd (∀ j v, sixA[j]? = some v → w4.cell? ⟨b4, j, none⟩ = some v) := ⟨fun j v hv => by rw [← hv, hw4, hb4]; exact cells_cell (World.alloc_heap_new wr _) j⟩
          rw [← hw4, ← hb4]
          clear hw4 hb4 hB
          go_loopw [77] (fun i W => ∃ j : Nat, j ≤ 6 ∧ i = .int .i64 j ∧ Below w4.heap.size w4 W) (fun i _ => 6 - (intOf i).toNat)
          case atStart => exact ⟨0, by omega, rfl, Below.refl _ _⟩
          case round =>
            obtain ⟨j4, hj4, rfl, hB⟩ := hrel
            by_cases hlt4 : j4 < 6
            · obtain ⟨N, hS, wS⟩ := six_ints j4 hlt4
              have hdj4 : decide ((j4 : Int) < 6) = true := decide_eq_true (by omega)
              have hcell : wr.cell? ⟨b4, j4, none⟩ = some (.int .i64 N) := by
                rw [hB.cell (p := ⟨b4, j4, none⟩) hsz4]; exact HC4.out _ _ hS
              obtain ⟨N1, N2⟩ := bounds_i64 wS
              clear hS wS
              go_wp2_with fail
              obtain ⟨w5, hw5⟩ : ∃ w5, w5 = wr.alloc (.cells #[.int .i64 0, .int .i64 1, .int .i64 (N.tdiv 2), .int .i64 (wrap64 (N - 2)), .int .i64 (wrap64 (N - 1)), .int .i64 N] 2) := ⟨_, rfl⟩
              obtain ⟨b5, hb5⟩ : ∃ b5, b5 = wr.heap.size := ⟨_, rfl⟩
              have hsz5 : b5 < w5.heap.size := by rw [hw5, hb5]; simp
              have hB5 : Below w4.heap.size w4 w5 := by rw [hw5]; exact hB.alloc hB.size _
              have HC5 : Hd (∀ j v, (kA N)[j]? = some v → w5.cell? ⟨b5, j, none⟩ = some v) := ⟨fun j v hv => by rw [← hv, hw5, hb5]; exact cells_cell (World.alloc_heap_new wr _) j⟩
              rw [← hw5, ← hb5]
              clear hw5 hb5 hB hcell
              go_loopw [90] (fun i W => ∃ j : Nat, j ≤ 6 ∧ i = .int .i64 j ∧ Below w5.heap.size w5 W) (fun i _ => 6 - (intOf i).toNat)
              case atStart => exact ⟨0, by omega, rfl, Below.refl _ _⟩
              case round =>
                obtain ⟨j5, hj5, rfl, hB⟩ := hrel
                by_cases hlt5 : j5 < 6
                · obtain ⟨X, hS⟩ := kA_ints N j5 hlt5
                  have hdj5 : decide ((j5 : Int) < 6) = true := decide_eq_true (by omega)
                  have hcell : wr.cell? ⟨b5, j5, none⟩ = some (.int .i64 X) := by
                    rw [hB.cell (p := ⟨b5, j5, none⟩) hsz5]; exact HC5.out _ _ hS
                  clear hS
                  go_wp2_with fail
                  refine (cmp_any 9223372036854775808#64 N X (by omega) _).mono ?_
                  rintro e w6 ⟨rfl, hB6⟩
                  have hB7 := hB.trans (hB6.mono hB.size)
                  clear hB hB6 hcell
                  go_wp2_with fail
                  refine (cmp_any 18446744073709551615#64 N X (by omega) _).mono ?_
                  rintro e w8 ⟨rfl, hB8⟩
                  have hB9 := hB7.trans (hB8.mono hB7.size)
                  clear hB7 hB8
                  go_wp2_with fail
                  refine (cmp_any 0#64 N X (by omega) _).mono ?_
                  rintro e w10 ⟨rfl, hB10⟩
                  have hB11 := hB9.trans (hB10.mono hB9.size)
                  clear hB9 hB10
                  go_wp2_with fail
                  go_roundw
                  case rel => exact ⟨j5 + 1, by omega, by go_num, hB11⟩
                  case measure => simp [intOf]; omega
                · obtain rfl : j5 = 6 := by omega
                  rw [show ((6 : Nat) : Int) = 6 from rfl]
                  have hB' := hB5.trans (hB.mono hB5.size)
                  clear hB
                  go_wp2_with fail
                  go_roundw
                  case rel => exact ⟨j4 + 1, by omega, by go_num, hB'⟩
                  case measure => simp [intOf]; omega
            · obtain rfl : j4 = 6 := by omega
              rw [show ((6 : Nat) : Int) = 6 from rfl]
              have hB' := hB4.trans (hB.mono hB4.size)
              clear hB
              go_wp2_with fail
              obtain ⟨b6, hb6⟩ : ∃ b, b = wr.heap.size := ⟨_, rfl⟩
              obtain ⟨w6, hw6⟩ : ∃ w6, w6 = (wr.alloc (.cells #[.int .u64 0, .int .i64 0, .bool false] 62)).alloc (.cells #[.pointer none, .pointer (some ⟨b6, 0, none⟩)] 42) := ⟨_, rfl⟩
              have hB6 : Below w.heap.size w w6 := by rw [hw6]; exact (hB'.alloc hB'.size _).alloc (by have := hB'.size; simp; omega) _
              have hsz6 : b6 + 1 < w6.heap.size := by rw [hw6, hb6]; simp
              have hf1 : w6.cell? ⟨b6, 2, none⟩ = some (.bool false) := by
                rw [hw6, hb6, ((Below.refl _ (wr.alloc (.cells #[.int .u64 0, .int .i64 0, .bool false] 62))).alloc (Nat.le_refl _) _).cell (p := ⟨wr.heap.size, 2, none⟩) (by simp)]
                exact cells_cell (World.alloc_heap_new wr _) 2
              have hptr : ∀ j v, (#[.pointer none, .pointer (some ⟨b6, 0, none⟩)] : Array Value)[j]? = some v → w6.cell? ⟨b6 + 1, j, none⟩ = some v := fun j v hv => by
                rw [← hv, hw6, hb6]
                have := cells_cell (World.alloc_heap_new (wr.alloc (.cells #[.int .u64 0, .int .i64 0, .bool false] 62)) (.cells #[.pointer none, .pointer (some ⟨wr.heap.size, 0, none⟩)] 42)) j
                rwa [World.size_alloc] at this
              have hall : ∀ j, j < 2 → ∃ a, w6.cell? ⟨b6 + 1, j, none⟩ = some (.pointer a) ∧ NoS w6 a := by
                intro j hj
                have : j = 0 ∨ j = 1 := by omega
                rcases this with rfl | rfl
                · exact ⟨_, hptr _ _ rfl, .inl rfl⟩
                · exact ⟨_, hptr _ _ rfl, .inr ⟨b6, rfl, by omega, hf1⟩⟩
              have HALL := Hd.mk hall
              rw [← hb6, ← hw6]
              clear hf1 hptr hall hw6 hb6 hB'
              go_loopw [116] (fun i W => ∃ j : Nat, j ≤ 2 ∧ i = .int .i64 j ∧ Below w6.heap.size w6 W) (fun i _ => 2 - (intOf i).toNat)
              case atStart => exact ⟨0, by omega, rfl, Below.refl _ _⟩
              case round =>
                obtain ⟨j6, hj6, rfl, hB⟩ := hrel
                by_cases hlt6 : j6 < 2
                · obtain ⟨a, hca, hna⟩ := HALL.out j6 hlt6
                  have hdj6 : decide ((j6 : Int) < 2) = true := decide_eq_true (by omega)
                  have hcell : wr.cell? ⟨b6 + 1, j6, none⟩ = some (.pointer a) := by
                    rw [hB.cell (p := ⟨b6 + 1, j6, none⟩) hsz6]; exact hca
                  have HN := Hd.mk (hna.below hB)
                  clear hca hna
                  go_wp2_with fail
                  refine (Next_NoS a _ HN.out).mono ?_
                  rintro e w7 ⟨rfl, hB7⟩
                  have HN7 := Hd.mk (HN.out.below hB7)
                  have hB8 := hB.trans (hB7.mono hB.size)
                  clear hB hB7 hcell HN
                  go_wp2_with fail
                  refine (DrawS_NoS a 0 _ HN7.out).mono ?_
                  rintro e w9 ⟨rfl, hB9⟩
                  have HN9 := Hd.mk (HN7.out.below hB9)
                  have hB10 := hB8.trans (hB9.mono hB8.size)
                  clear hB8 hB9 HN7
                  go_wp2_with fail
                  refine (Move_NoS a (-1) _ HN9.out).mono ?_
                  rintro e w11 ⟨rfl, rfl⟩
                  go_wp2_with fail
                  refine (Index_NoS a _ HN9.out).mono ?_
                  rintro e w11 ⟨rfl, rfl⟩
                  go_wp2_with fail
                  go_roundw
                  case rel => exact ⟨j6 + 1, by omega, by go_num, hB10⟩
                  case measure => simp [intOf]; omega
                · obtain rfl : j6 = 2 := by omega
                  rw [show ((2 : Nat) : Int) = 2 from rfl]
                  have hB7 := hB6.trans (hB.mono hB6.size)
                  clear hB
                  go_wp2_with fail
                  refine (awake_any _).mono ?_
                  rintro e w8 ⟨rfl, hB8⟩
                  have hB9 := hB7.trans (hB8.mono hB7.size)
                  go_wp2_with fail
                  go_ret
                  exact ⟨rfl, hB9⟩
end Go.Proofs.Ytpioobaapigjcaa
