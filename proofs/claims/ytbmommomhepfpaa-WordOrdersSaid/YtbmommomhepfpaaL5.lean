/- Walk of the law WordOrders. -/
import Derived.Test.YtbmommomhepfpaaW8
import Derived.Test.YtbmommomhepfpaaP2
namespace Go.Proofs.Ytbmommomhepfpaa
open Go.RowKit
set_option linter.unusedVariables false

def ordC : Array Value := #[.int .u8 13, .int .u8 14]

set_option maxRecDepth 100000 in
set_option maxHeartbeats 4000000 in
theorem ord_e (a c : BitVec 64) (h13a : a.slt a = false) (h14a : a.ult a = false) (h131 : a.slt a = false) (h132 : a.slt a = false) (h141 : a.ult a = false) (h142 : a.ult a = false) (hab : (a == a) = true) (hmin : sminV a a = a) (hmax : smaxV a a = a) (w : World) :
    Calls Try.prog 7 #[s a, s a, s c] w fun e w' => e = .returned (.bool true) ∧ Below w.heap.size w w' := by
  go_enter Try.func7, Try.ntmps7
  go_wp2_with fail
  obtain ⟨w1, hw1⟩ : ∃ w1, w1 = w.alloc (.cells ordC 5) := ⟨_, rfl⟩
  have hsz1 : w.heap.size < w1.heap.size := by rw [hw1]; simp
  have HW := Hd.mk hw1
  clear hw1
  go_loopw [18] (fun i W => ∃ k : Nat, k ≤ 2 ∧ i = .int .i64 k ∧ Below w1.heap.size w1 W) (fun i _ => 2 - (intOf i).toNat)
  case atStart => exact ⟨0, by omega, rfl, by rw [HW.out]; exact Below.refl _ _⟩
  case round =>
    obtain ⟨k, hk, rfl, hB⟩ := hrel
    have hcell : ∀ j v, ordC[j]? = some v → wr.cell? ⟨w.heap.size, j, none⟩ = some v := fun j v hv => by
      rw [← hv, hB.cell (p := ⟨w.heap.size, j, none⟩) hsz1, HW.out]
      exact cells_cell (World.alloc_heap_new w _) j
    have hk' : k = 0 ∨ k = 1 ∨ k = 2 := by omega
    clear hk
    rcases hk' with rfl | rfl | rfl
    · rw [show ((0 : Nat) : Int) = 0 from rfl]
      have c0 : wr.cell? ⟨w.heap.size, 0, none⟩ = some (.int .u8 13) := hcell _ _ rfl
      clear hcell
      go_wp2_with fail
      refine (do_13 a a _).mono ?_
      rintro e w101 ⟨rfl, hB101⟩
      rw [show truthV (a.slt a) = 0#64 from by rw [h131]; rfl]
      have hB' := hB.trans (hB101.mono hB.size)
      clear hB hB101
      have hB := hB'
      clear hB'
      go_wp2_with fail
      refine (do_13 a a _).mono ?_
      rintro e w102 ⟨rfl, hB102⟩
      rw [show truthV (a.slt a) = 0#64 from by rw [h132]; rfl]
      have hB' := hB.trans (hB102.mono hB.size)
      clear hB hB102
      have hB := hB'
      clear hB'
      go_wp2_with fail
      refine (do_15 a a _).mono ?_
      rintro e w103 ⟨rfl, hB103⟩
      rw [show truthV (a == a) = 1#64 from by rw [hab]; rfl]
      have hB' := hB.trans (hB103.mono hB.size)
      clear hB hB103
      have hB := hB'
      clear hB'
      go_wp2_with fail
      refine (do_13 a a _).mono ?_
      rintro e w104 ⟨rfl, hB104⟩
      rw [show truthV (a.slt a) = 0#64 from by rw [h13a]; rfl]
      have hB' := hB.trans (hB104.mono hB.size)
      clear hB hB104
      have hB := hB'
      clear hB'
      go_wp2_with fail
      go_roundw
      case rel => exact ⟨1, by omega, by rfl, hB⟩
      case measure => simp [intOf]
    · rw [show ((1 : Nat) : Int) = 1 from rfl]
      have c0 : wr.cell? ⟨w.heap.size, 1, none⟩ = some (.int .u8 14) := hcell _ _ rfl
      clear hcell
      go_wp2_with fail
      refine (do_14 a a _).mono ?_
      rintro e w101 ⟨rfl, hB101⟩
      rw [show truthV (a.ult a) = 0#64 from by rw [h141]; rfl]
      have hB' := hB.trans (hB101.mono hB.size)
      clear hB hB101
      have hB := hB'
      clear hB'
      go_wp2_with fail
      refine (do_14 a a _).mono ?_
      rintro e w102 ⟨rfl, hB102⟩
      rw [show truthV (a.ult a) = 0#64 from by rw [h142]; rfl]
      have hB' := hB.trans (hB102.mono hB.size)
      clear hB hB102
      have hB := hB'
      clear hB'
      go_wp2_with fail
      refine (do_15 a a _).mono ?_
      rintro e w103 ⟨rfl, hB103⟩
      rw [show truthV (a == a) = 1#64 from by rw [hab]; rfl]
      have hB' := hB.trans (hB103.mono hB.size)
      clear hB hB103
      have hB := hB'
      clear hB'
      go_wp2_with fail
      refine (do_14 a a _).mono ?_
      rintro e w104 ⟨rfl, hB104⟩
      rw [show truthV (a.ult a) = 0#64 from by rw [h14a]; rfl]
      have hB' := hB.trans (hB104.mono hB.size)
      clear hB hB104
      have hB := hB'
      clear hB'
      go_wp2_with fail
      go_roundw
      case rel => exact ⟨2, by omega, by rfl, hB⟩
      case measure => simp [intOf]
    · have hB' : Below w.heap.size w wr := (by rw [HW.out]; exact (Below.refl _ _).alloc (Nat.le_refl _) _ : Below w.heap.size w w1).trans (hB.mono (by omega))
      clear hB hcell
      have hB := hB'
      clear hB'
      rw [show ((2 : Nat) : Int) = 2 from rfl]
      go_wp2_with fail
      refine (do_13 a a _).mono ?_
      rintro e w101 ⟨rfl, hB101⟩
      rw [show truthV (a.slt a) = 0#64 from by rw [h131]; rfl]
      have hB' := hB.trans (hB101.mono hB.size)
      clear hB hB101
      have hB := hB'
      clear hB'
      go_wp2_with fail
      refine (do_14 a a _).mono ?_
      rintro e w102 ⟨rfl, hB102⟩
      rw [show truthV (a.ult a) = 0#64 from by rw [h141]; rfl]
      have hB' := hB.trans (hB102.mono hB.size)
      clear hB hB102
      have hB := hB'
      clear hB'
      go_wp2_with fail
      refine (do_16 a a _).mono ?_
      rintro e w103 ⟨rfl, hB103⟩
      rw [hmin]
      have hB' := hB.trans (hB103.mono hB.size)
      clear hB hB103
      have hB := hB'
      clear hB'
      go_wp2_with fail
      refine (do_17 a a _).mono ?_
      rintro e w104 ⟨rfl, hB104⟩
      rw [hmax]
      have hB' := hB.trans (hB104.mono hB.size)
      clear hB hB104
      have hB := hB'
      clear hB'
      go_wp2_with fail
      refine (do_13 a a _).mono ?_
      rintro e w105 ⟨rfl, hB105⟩
      rw [show truthV (a.slt a) = 0#64 from by rw [h13a]; rfl]
      have hB' := hB.trans (hB105.mono hB.size)
      clear hB hB105
      have hB := hB'
      clear hB'
      go_wp2_with fail
      refine (do_15 a a _).mono ?_
      rintro e w106 ⟨rfl, hB106⟩
      rw [show truthV (a == a) = 1#64 from by rw [hab]; rfl]
      have hB' := hB.trans (hB106.mono hB.size)
      clear hB hB106
      have hB := hB'
      clear hB'
      go_wp2_with fail
      refine (do_15 a a _).mono ?_
      rintro e w107 ⟨rfl, hB107⟩
      rw [show truthV (a == a) = 1#64 from by rw [hab]; rfl]
      have hB' := hB.trans (hB107.mono hB.size)
      clear hB hB107
      have hB := hB'
      clear hB'
      go_wp2_with fail
      refine (awake_any _).mono ?_
      rintro e w108 ⟨rfl, hB108⟩
      have hB' := hB.trans (hB108.mono hB.size)
      clear hB hB108
      have hB := hB'
      clear hB'
      go_wp2_with fail
      go_ret
      exact ⟨rfl, hB⟩

set_option maxRecDepth 100000 in
set_option maxHeartbeats 4000000 in
theorem ord_tt (a b c : BitVec 64) (h13a : a.slt a = false) (h14a : a.ult a = false) (h131 : a.slt b = true) (h132 : b.slt a = false) (h141 : a.ult b = true) (h142 : b.ult a = false) (hab : (a == b) = false) (hba : (b == a) = false) (h13t : b.slt c = true → a.slt c = true) (h14t : b.ult c = true → a.ult c = true) (hS : (a.slt 0#64 == b.slt 0#64) = true) (hmin : sminV a b = a) (hmax : smaxV a b = b) (w : World) :
    Calls Try.prog 7 #[s a, s b, s c] w fun e w' => e = .returned (.bool true) ∧ Below w.heap.size w w' := by
  go_enter Try.func7, Try.ntmps7
  go_wp2_with fail
  obtain ⟨w1, hw1⟩ : ∃ w1, w1 = w.alloc (.cells ordC 5) := ⟨_, rfl⟩
  have hsz1 : w.heap.size < w1.heap.size := by rw [hw1]; simp
  have HW := Hd.mk hw1
  clear hw1
  go_loopw [18] (fun i W => ∃ k : Nat, k ≤ 2 ∧ i = .int .i64 k ∧ Below w1.heap.size w1 W) (fun i _ => 2 - (intOf i).toNat)
  case atStart => exact ⟨0, by omega, rfl, by rw [HW.out]; exact Below.refl _ _⟩
  case round =>
    obtain ⟨k, hk, rfl, hB⟩ := hrel
    have hcell : ∀ j v, ordC[j]? = some v → wr.cell? ⟨w.heap.size, j, none⟩ = some v := fun j v hv => by
      rw [← hv, hB.cell (p := ⟨w.heap.size, j, none⟩) hsz1, HW.out]
      exact cells_cell (World.alloc_heap_new w _) j
    have hk' : k = 0 ∨ k = 1 ∨ k = 2 := by omega
    clear hk
    rcases hk' with rfl | rfl | rfl
    · rw [show ((0 : Nat) : Int) = 0 from rfl]
      have c0 : wr.cell? ⟨w.heap.size, 0, none⟩ = some (.int .u8 13) := hcell _ _ rfl
      clear hcell
      cases hbc : b.slt c
      · go_wp2_with fail
        refine (do_13 a b _).mono ?_
        rintro e w101 ⟨rfl, hB101⟩
        rw [show truthV (a.slt b) = 1#64 from by rw [h131]; rfl]
        have hB' := hB.trans (hB101.mono hB.size)
        clear hB hB101
        have hB := hB'
        clear hB'
        go_wp2_with fail
        refine (do_13 b a _).mono ?_
        rintro e w102 ⟨rfl, hB102⟩
        rw [show truthV (b.slt a) = 0#64 from by rw [h132]; rfl]
        have hB' := hB.trans (hB102.mono hB.size)
        clear hB hB102
        have hB := hB'
        clear hB'
        go_wp2_with fail
        refine (do_15 a b _).mono ?_
        rintro e w103 ⟨rfl, hB103⟩
        rw [show truthV (a == b) = 0#64 from by rw [hab]; rfl]
        have hB' := hB.trans (hB103.mono hB.size)
        clear hB hB103
        have hB := hB'
        clear hB'
        go_wp2_with fail
        refine (do_13 b c _).mono ?_
        rintro e w104 ⟨rfl, hB104⟩
        rw [show truthV (b.slt c) = 0#64 from by rw [hbc]; rfl]
        have hB' := hB.trans (hB104.mono hB.size)
        clear hB hB104
        have hB := hB'
        clear hB'
        go_wp2_with fail
        refine (do_13 a a _).mono ?_
        rintro e w105 ⟨rfl, hB105⟩
        rw [show truthV (a.slt a) = 0#64 from by rw [h13a]; rfl]
        have hB' := hB.trans (hB105.mono hB.size)
        clear hB hB105
        have hB := hB'
        clear hB'
        go_wp2_with fail
        go_roundw
        case rel => exact ⟨1, by omega, by rfl, hB⟩
        case measure => simp [intOf]
      · go_wp2_with fail
        refine (do_13 a b _).mono ?_
        rintro e w151 ⟨rfl, hB151⟩
        rw [show truthV (a.slt b) = 1#64 from by rw [h131]; rfl]
        have hB' := hB.trans (hB151.mono hB.size)
        clear hB hB151
        have hB := hB'
        clear hB'
        go_wp2_with fail
        refine (do_13 b a _).mono ?_
        rintro e w152 ⟨rfl, hB152⟩
        rw [show truthV (b.slt a) = 0#64 from by rw [h132]; rfl]
        have hB' := hB.trans (hB152.mono hB.size)
        clear hB hB152
        have hB := hB'
        clear hB'
        go_wp2_with fail
        refine (do_15 a b _).mono ?_
        rintro e w153 ⟨rfl, hB153⟩
        rw [show truthV (a == b) = 0#64 from by rw [hab]; rfl]
        have hB' := hB.trans (hB153.mono hB.size)
        clear hB hB153
        have hB := hB'
        clear hB'
        go_wp2_with fail
        refine (do_13 b c _).mono ?_
        rintro e w154 ⟨rfl, hB154⟩
        rw [show truthV (b.slt c) = 1#64 from by rw [hbc]; rfl]
        have hB' := hB.trans (hB154.mono hB.size)
        clear hB hB154
        have hB := hB'
        clear hB'
        go_wp2_with fail
        refine (do_13 a c _).mono ?_
        rintro e w155 ⟨rfl, hB155⟩
        rw [show truthV (a.slt c) = 1#64 from by rw [h13t hbc]; rfl]
        have hB' := hB.trans (hB155.mono hB.size)
        clear hB hB155
        have hB := hB'
        clear hB'
        go_wp2_with fail
        refine (do_13 a a _).mono ?_
        rintro e w156 ⟨rfl, hB156⟩
        rw [show truthV (a.slt a) = 0#64 from by rw [h13a]; rfl]
        have hB' := hB.trans (hB156.mono hB.size)
        clear hB hB156
        have hB := hB'
        clear hB'
        go_wp2_with fail
        go_roundw
        case rel => exact ⟨1, by omega, by rfl, hB⟩
        case measure => simp [intOf]
    · rw [show ((1 : Nat) : Int) = 1 from rfl]
      have c0 : wr.cell? ⟨w.heap.size, 1, none⟩ = some (.int .u8 14) := hcell _ _ rfl
      clear hcell
      cases hbc : b.ult c
      · go_wp2_with fail
        refine (do_14 a b _).mono ?_
        rintro e w101 ⟨rfl, hB101⟩
        rw [show truthV (a.ult b) = 1#64 from by rw [h141]; rfl]
        have hB' := hB.trans (hB101.mono hB.size)
        clear hB hB101
        have hB := hB'
        clear hB'
        go_wp2_with fail
        refine (do_14 b a _).mono ?_
        rintro e w102 ⟨rfl, hB102⟩
        rw [show truthV (b.ult a) = 0#64 from by rw [h142]; rfl]
        have hB' := hB.trans (hB102.mono hB.size)
        clear hB hB102
        have hB := hB'
        clear hB'
        go_wp2_with fail
        refine (do_15 a b _).mono ?_
        rintro e w103 ⟨rfl, hB103⟩
        rw [show truthV (a == b) = 0#64 from by rw [hab]; rfl]
        have hB' := hB.trans (hB103.mono hB.size)
        clear hB hB103
        have hB := hB'
        clear hB'
        go_wp2_with fail
        refine (do_14 b c _).mono ?_
        rintro e w104 ⟨rfl, hB104⟩
        rw [show truthV (b.ult c) = 0#64 from by rw [hbc]; rfl]
        have hB' := hB.trans (hB104.mono hB.size)
        clear hB hB104
        have hB := hB'
        clear hB'
        go_wp2_with fail
        refine (do_14 a a _).mono ?_
        rintro e w105 ⟨rfl, hB105⟩
        rw [show truthV (a.ult a) = 0#64 from by rw [h14a]; rfl]
        have hB' := hB.trans (hB105.mono hB.size)
        clear hB hB105
        have hB := hB'
        clear hB'
        go_wp2_with fail
        go_roundw
        case rel => exact ⟨2, by omega, by rfl, hB⟩
        case measure => simp [intOf]
      · go_wp2_with fail
        refine (do_14 a b _).mono ?_
        rintro e w151 ⟨rfl, hB151⟩
        rw [show truthV (a.ult b) = 1#64 from by rw [h141]; rfl]
        have hB' := hB.trans (hB151.mono hB.size)
        clear hB hB151
        have hB := hB'
        clear hB'
        go_wp2_with fail
        refine (do_14 b a _).mono ?_
        rintro e w152 ⟨rfl, hB152⟩
        rw [show truthV (b.ult a) = 0#64 from by rw [h142]; rfl]
        have hB' := hB.trans (hB152.mono hB.size)
        clear hB hB152
        have hB := hB'
        clear hB'
        go_wp2_with fail
        refine (do_15 a b _).mono ?_
        rintro e w153 ⟨rfl, hB153⟩
        rw [show truthV (a == b) = 0#64 from by rw [hab]; rfl]
        have hB' := hB.trans (hB153.mono hB.size)
        clear hB hB153
        have hB := hB'
        clear hB'
        go_wp2_with fail
        refine (do_14 b c _).mono ?_
        rintro e w154 ⟨rfl, hB154⟩
        rw [show truthV (b.ult c) = 1#64 from by rw [hbc]; rfl]
        have hB' := hB.trans (hB154.mono hB.size)
        clear hB hB154
        have hB := hB'
        clear hB'
        go_wp2_with fail
        refine (do_14 a c _).mono ?_
        rintro e w155 ⟨rfl, hB155⟩
        rw [show truthV (a.ult c) = 1#64 from by rw [h14t hbc]; rfl]
        have hB' := hB.trans (hB155.mono hB.size)
        clear hB hB155
        have hB := hB'
        clear hB'
        go_wp2_with fail
        refine (do_14 a a _).mono ?_
        rintro e w156 ⟨rfl, hB156⟩
        rw [show truthV (a.ult a) = 0#64 from by rw [h14a]; rfl]
        have hB' := hB.trans (hB156.mono hB.size)
        clear hB hB156
        have hB := hB'
        clear hB'
        go_wp2_with fail
        go_roundw
        case rel => exact ⟨2, by omega, by rfl, hB⟩
        case measure => simp [intOf]
    · have hB' : Below w.heap.size w wr := (by rw [HW.out]; exact (Below.refl _ _).alloc (Nat.le_refl _) _ : Below w.heap.size w w1).trans (hB.mono (by omega))
      clear hB hcell
      have hB := hB'
      clear hB'
      rw [show ((2 : Nat) : Int) = 2 from rfl]
      go_wp2_with fail
      refine (do_13 a b _).mono ?_
      rintro e w101 ⟨rfl, hB101⟩
      rw [show truthV (a.slt b) = 1#64 from by rw [h131]; rfl]
      have hB' := hB.trans (hB101.mono hB.size)
      clear hB hB101
      have hB := hB'
      clear hB'
      go_wp2_with fail
      refine (do_14 a b _).mono ?_
      rintro e w102 ⟨rfl, hB102⟩
      rw [show truthV (a.ult b) = 1#64 from by rw [h141]; rfl]
      have hB' := hB.trans (hB102.mono hB.size)
      clear hB hB102
      have hB := hB'
      clear hB'
      go_wp2_with fail
      refine (do_16 a b _).mono ?_
      rintro e w103 ⟨rfl, hB103⟩
      rw [hmin]
      have hB' := hB.trans (hB103.mono hB.size)
      clear hB hB103
      have hB := hB'
      clear hB'
      go_wp2_with fail
      refine (do_17 a b _).mono ?_
      rintro e w104 ⟨rfl, hB104⟩
      rw [hmax]
      have hB' := hB.trans (hB104.mono hB.size)
      clear hB hB104
      have hB := hB'
      clear hB'
      go_wp2_with fail
      refine (do_13 b a _).mono ?_
      rintro e w105 ⟨rfl, hB105⟩
      rw [show truthV (b.slt a) = 0#64 from by rw [h132]; rfl]
      have hB' := hB.trans (hB105.mono hB.size)
      clear hB hB105
      have hB := hB'
      clear hB'
      go_wp2_with fail
      refine (do_15 a b _).mono ?_
      rintro e w106 ⟨rfl, hB106⟩
      rw [show truthV (a == b) = 0#64 from by rw [hab]; rfl]
      have hB' := hB.trans (hB106.mono hB.size)
      clear hB hB106
      have hB := hB'
      clear hB'
      go_wp2_with fail
      refine (do_15 a b _).mono ?_
      rintro e w107 ⟨rfl, hB107⟩
      rw [show truthV (a == b) = 0#64 from by rw [hab]; rfl]
      have hB' := hB.trans (hB107.mono hB.size)
      clear hB hB107
      have hB := hB'
      clear hB'
      go_wp2_with fail
      refine (awake_any _).mono ?_
      rintro e w108 ⟨rfl, hB108⟩
      have hB' := hB.trans (hB108.mono hB.size)
      clear hB hB108
      have hB := hB'
      clear hB'
      go_wp2_with fail
      go_ret
      exact ⟨rfl, hB⟩

set_option maxRecDepth 100000 in
set_option maxHeartbeats 4000000 in
theorem ord_ff (a b c : BitVec 64) (h13a : a.slt a = false) (h14a : a.ult a = false) (h131 : a.slt b = false) (h132 : b.slt a = true) (h141 : a.ult b = false) (h142 : b.ult a = true) (hab : (a == b) = false) (hba : (b == a) = false) (hS : (a.slt 0#64 == b.slt 0#64) = true) (hmin : sminV a b = b) (hmax : smaxV a b = a) (w : World) :
    Calls Try.prog 7 #[s a, s b, s c] w fun e w' => e = .returned (.bool true) ∧ Below w.heap.size w w' := by
  go_enter Try.func7, Try.ntmps7
  go_wp2_with fail
  obtain ⟨w1, hw1⟩ : ∃ w1, w1 = w.alloc (.cells ordC 5) := ⟨_, rfl⟩
  have hsz1 : w.heap.size < w1.heap.size := by rw [hw1]; simp
  have HW := Hd.mk hw1
  clear hw1
  go_loopw [18] (fun i W => ∃ k : Nat, k ≤ 2 ∧ i = .int .i64 k ∧ Below w1.heap.size w1 W) (fun i _ => 2 - (intOf i).toNat)
  case atStart => exact ⟨0, by omega, rfl, by rw [HW.out]; exact Below.refl _ _⟩
  case round =>
    obtain ⟨k, hk, rfl, hB⟩ := hrel
    have hcell : ∀ j v, ordC[j]? = some v → wr.cell? ⟨w.heap.size, j, none⟩ = some v := fun j v hv => by
      rw [← hv, hB.cell (p := ⟨w.heap.size, j, none⟩) hsz1, HW.out]
      exact cells_cell (World.alloc_heap_new w _) j
    have hk' : k = 0 ∨ k = 1 ∨ k = 2 := by omega
    clear hk
    rcases hk' with rfl | rfl | rfl
    · rw [show ((0 : Nat) : Int) = 0 from rfl]
      have c0 : wr.cell? ⟨w.heap.size, 0, none⟩ = some (.int .u8 13) := hcell _ _ rfl
      clear hcell
      go_wp2_with fail
      refine (do_13 a b _).mono ?_
      rintro e w101 ⟨rfl, hB101⟩
      rw [show truthV (a.slt b) = 0#64 from by rw [h131]; rfl]
      have hB' := hB.trans (hB101.mono hB.size)
      clear hB hB101
      have hB := hB'
      clear hB'
      go_wp2_with fail
      refine (do_13 b a _).mono ?_
      rintro e w102 ⟨rfl, hB102⟩
      rw [show truthV (b.slt a) = 1#64 from by rw [h132]; rfl]
      have hB' := hB.trans (hB102.mono hB.size)
      clear hB hB102
      have hB := hB'
      clear hB'
      go_wp2_with fail
      refine (do_15 a b _).mono ?_
      rintro e w103 ⟨rfl, hB103⟩
      rw [show truthV (a == b) = 0#64 from by rw [hab]; rfl]
      have hB' := hB.trans (hB103.mono hB.size)
      clear hB hB103
      have hB := hB'
      clear hB'
      go_wp2_with fail
      refine (do_13 a a _).mono ?_
      rintro e w104 ⟨rfl, hB104⟩
      rw [show truthV (a.slt a) = 0#64 from by rw [h13a]; rfl]
      have hB' := hB.trans (hB104.mono hB.size)
      clear hB hB104
      have hB := hB'
      clear hB'
      go_wp2_with fail
      go_roundw
      case rel => exact ⟨1, by omega, by rfl, hB⟩
      case measure => simp [intOf]
    · rw [show ((1 : Nat) : Int) = 1 from rfl]
      have c0 : wr.cell? ⟨w.heap.size, 1, none⟩ = some (.int .u8 14) := hcell _ _ rfl
      clear hcell
      go_wp2_with fail
      refine (do_14 a b _).mono ?_
      rintro e w101 ⟨rfl, hB101⟩
      rw [show truthV (a.ult b) = 0#64 from by rw [h141]; rfl]
      have hB' := hB.trans (hB101.mono hB.size)
      clear hB hB101
      have hB := hB'
      clear hB'
      go_wp2_with fail
      refine (do_14 b a _).mono ?_
      rintro e w102 ⟨rfl, hB102⟩
      rw [show truthV (b.ult a) = 1#64 from by rw [h142]; rfl]
      have hB' := hB.trans (hB102.mono hB.size)
      clear hB hB102
      have hB := hB'
      clear hB'
      go_wp2_with fail
      refine (do_15 a b _).mono ?_
      rintro e w103 ⟨rfl, hB103⟩
      rw [show truthV (a == b) = 0#64 from by rw [hab]; rfl]
      have hB' := hB.trans (hB103.mono hB.size)
      clear hB hB103
      have hB := hB'
      clear hB'
      go_wp2_with fail
      refine (do_14 a a _).mono ?_
      rintro e w104 ⟨rfl, hB104⟩
      rw [show truthV (a.ult a) = 0#64 from by rw [h14a]; rfl]
      have hB' := hB.trans (hB104.mono hB.size)
      clear hB hB104
      have hB := hB'
      clear hB'
      go_wp2_with fail
      go_roundw
      case rel => exact ⟨2, by omega, by rfl, hB⟩
      case measure => simp [intOf]
    · have hB' : Below w.heap.size w wr := (by rw [HW.out]; exact (Below.refl _ _).alloc (Nat.le_refl _) _ : Below w.heap.size w w1).trans (hB.mono (by omega))
      clear hB hcell
      have hB := hB'
      clear hB'
      rw [show ((2 : Nat) : Int) = 2 from rfl]
      go_wp2_with fail
      refine (do_13 a b _).mono ?_
      rintro e w101 ⟨rfl, hB101⟩
      rw [show truthV (a.slt b) = 0#64 from by rw [h131]; rfl]
      have hB' := hB.trans (hB101.mono hB.size)
      clear hB hB101
      have hB := hB'
      clear hB'
      go_wp2_with fail
      refine (do_14 a b _).mono ?_
      rintro e w102 ⟨rfl, hB102⟩
      rw [show truthV (a.ult b) = 0#64 from by rw [h141]; rfl]
      have hB' := hB.trans (hB102.mono hB.size)
      clear hB hB102
      have hB := hB'
      clear hB'
      go_wp2_with fail
      refine (do_16 a b _).mono ?_
      rintro e w103 ⟨rfl, hB103⟩
      rw [hmin]
      have hB' := hB.trans (hB103.mono hB.size)
      clear hB hB103
      have hB := hB'
      clear hB'
      go_wp2_with fail
      refine (do_17 a b _).mono ?_
      rintro e w104 ⟨rfl, hB104⟩
      rw [hmax]
      have hB' := hB.trans (hB104.mono hB.size)
      clear hB hB104
      have hB := hB'
      clear hB'
      go_wp2_with fail
      refine (do_13 a b _).mono ?_
      rintro e w105 ⟨rfl, hB105⟩
      rw [show truthV (a.slt b) = 0#64 from by rw [h131]; rfl]
      have hB' := hB.trans (hB105.mono hB.size)
      clear hB hB105
      have hB := hB'
      clear hB'
      go_wp2_with fail
      refine (do_15 b a _).mono ?_
      rintro e w106 ⟨rfl, hB106⟩
      rw [show truthV (b == a) = 0#64 from by rw [hba]; rfl]
      have hB' := hB.trans (hB106.mono hB.size)
      clear hB hB106
      have hB := hB'
      clear hB'
      go_wp2_with fail
      refine (do_15 a b _).mono ?_
      rintro e w107 ⟨rfl, hB107⟩
      rw [show truthV (a == b) = 0#64 from by rw [hab]; rfl]
      have hB' := hB.trans (hB107.mono hB.size)
      clear hB hB107
      have hB := hB'
      clear hB'
      go_wp2_with fail
      refine (awake_any _).mono ?_
      rintro e w108 ⟨rfl, hB108⟩
      have hB' := hB.trans (hB108.mono hB.size)
      clear hB hB108
      have hB := hB'
      clear hB'
      go_wp2_with fail
      go_ret
      exact ⟨rfl, hB⟩

set_option maxRecDepth 100000 in
set_option maxHeartbeats 4000000 in
theorem ord_tf (a b c : BitVec 64) (h13a : a.slt a = false) (h14a : a.ult a = false) (h131 : a.slt b = true) (h132 : b.slt a = false) (h141 : a.ult b = false) (h142 : b.ult a = true) (hab : (a == b) = false) (hba : (b == a) = false) (h13t : b.slt c = true → a.slt c = true) (hS : (a.slt 0#64 == b.slt 0#64) = false) (hmin : sminV a b = a) (hmax : smaxV a b = b) (w : World) :
    Calls Try.prog 7 #[s a, s b, s c] w fun e w' => e = .returned (.bool true) ∧ Below w.heap.size w w' := by
  go_enter Try.func7, Try.ntmps7
  go_wp2_with fail
  obtain ⟨w1, hw1⟩ : ∃ w1, w1 = w.alloc (.cells ordC 5) := ⟨_, rfl⟩
  have hsz1 : w.heap.size < w1.heap.size := by rw [hw1]; simp
  have HW := Hd.mk hw1
  clear hw1
  go_loopw [18] (fun i W => ∃ k : Nat, k ≤ 2 ∧ i = .int .i64 k ∧ Below w1.heap.size w1 W) (fun i _ => 2 - (intOf i).toNat)
  case atStart => exact ⟨0, by omega, rfl, by rw [HW.out]; exact Below.refl _ _⟩
  case round =>
    obtain ⟨k, hk, rfl, hB⟩ := hrel
    have hcell : ∀ j v, ordC[j]? = some v → wr.cell? ⟨w.heap.size, j, none⟩ = some v := fun j v hv => by
      rw [← hv, hB.cell (p := ⟨w.heap.size, j, none⟩) hsz1, HW.out]
      exact cells_cell (World.alloc_heap_new w _) j
    have hk' : k = 0 ∨ k = 1 ∨ k = 2 := by omega
    clear hk
    rcases hk' with rfl | rfl | rfl
    · rw [show ((0 : Nat) : Int) = 0 from rfl]
      have c0 : wr.cell? ⟨w.heap.size, 0, none⟩ = some (.int .u8 13) := hcell _ _ rfl
      clear hcell
      cases hbc : b.slt c
      · go_wp2_with fail
        refine (do_13 a b _).mono ?_
        rintro e w101 ⟨rfl, hB101⟩
        rw [show truthV (a.slt b) = 1#64 from by rw [h131]; rfl]
        have hB' := hB.trans (hB101.mono hB.size)
        clear hB hB101
        have hB := hB'
        clear hB'
        go_wp2_with fail
        refine (do_13 b a _).mono ?_
        rintro e w102 ⟨rfl, hB102⟩
        rw [show truthV (b.slt a) = 0#64 from by rw [h132]; rfl]
        have hB' := hB.trans (hB102.mono hB.size)
        clear hB hB102
        have hB := hB'
        clear hB'
        go_wp2_with fail
        refine (do_15 a b _).mono ?_
        rintro e w103 ⟨rfl, hB103⟩
        rw [show truthV (a == b) = 0#64 from by rw [hab]; rfl]
        have hB' := hB.trans (hB103.mono hB.size)
        clear hB hB103
        have hB := hB'
        clear hB'
        go_wp2_with fail
        refine (do_13 b c _).mono ?_
        rintro e w104 ⟨rfl, hB104⟩
        rw [show truthV (b.slt c) = 0#64 from by rw [hbc]; rfl]
        have hB' := hB.trans (hB104.mono hB.size)
        clear hB hB104
        have hB := hB'
        clear hB'
        go_wp2_with fail
        refine (do_13 a a _).mono ?_
        rintro e w105 ⟨rfl, hB105⟩
        rw [show truthV (a.slt a) = 0#64 from by rw [h13a]; rfl]
        have hB' := hB.trans (hB105.mono hB.size)
        clear hB hB105
        have hB := hB'
        clear hB'
        go_wp2_with fail
        go_roundw
        case rel => exact ⟨1, by omega, by rfl, hB⟩
        case measure => simp [intOf]
      · go_wp2_with fail
        refine (do_13 a b _).mono ?_
        rintro e w151 ⟨rfl, hB151⟩
        rw [show truthV (a.slt b) = 1#64 from by rw [h131]; rfl]
        have hB' := hB.trans (hB151.mono hB.size)
        clear hB hB151
        have hB := hB'
        clear hB'
        go_wp2_with fail
        refine (do_13 b a _).mono ?_
        rintro e w152 ⟨rfl, hB152⟩
        rw [show truthV (b.slt a) = 0#64 from by rw [h132]; rfl]
        have hB' := hB.trans (hB152.mono hB.size)
        clear hB hB152
        have hB := hB'
        clear hB'
        go_wp2_with fail
        refine (do_15 a b _).mono ?_
        rintro e w153 ⟨rfl, hB153⟩
        rw [show truthV (a == b) = 0#64 from by rw [hab]; rfl]
        have hB' := hB.trans (hB153.mono hB.size)
        clear hB hB153
        have hB := hB'
        clear hB'
        go_wp2_with fail
        refine (do_13 b c _).mono ?_
        rintro e w154 ⟨rfl, hB154⟩
        rw [show truthV (b.slt c) = 1#64 from by rw [hbc]; rfl]
        have hB' := hB.trans (hB154.mono hB.size)
        clear hB hB154
        have hB := hB'
        clear hB'
        go_wp2_with fail
        refine (do_13 a c _).mono ?_
        rintro e w155 ⟨rfl, hB155⟩
        rw [show truthV (a.slt c) = 1#64 from by rw [h13t hbc]; rfl]
        have hB' := hB.trans (hB155.mono hB.size)
        clear hB hB155
        have hB := hB'
        clear hB'
        go_wp2_with fail
        refine (do_13 a a _).mono ?_
        rintro e w156 ⟨rfl, hB156⟩
        rw [show truthV (a.slt a) = 0#64 from by rw [h13a]; rfl]
        have hB' := hB.trans (hB156.mono hB.size)
        clear hB hB156
        have hB := hB'
        clear hB'
        go_wp2_with fail
        go_roundw
        case rel => exact ⟨1, by omega, by rfl, hB⟩
        case measure => simp [intOf]
    · rw [show ((1 : Nat) : Int) = 1 from rfl]
      have c0 : wr.cell? ⟨w.heap.size, 1, none⟩ = some (.int .u8 14) := hcell _ _ rfl
      clear hcell
      go_wp2_with fail
      refine (do_14 a b _).mono ?_
      rintro e w101 ⟨rfl, hB101⟩
      rw [show truthV (a.ult b) = 0#64 from by rw [h141]; rfl]
      have hB' := hB.trans (hB101.mono hB.size)
      clear hB hB101
      have hB := hB'
      clear hB'
      go_wp2_with fail
      refine (do_14 b a _).mono ?_
      rintro e w102 ⟨rfl, hB102⟩
      rw [show truthV (b.ult a) = 1#64 from by rw [h142]; rfl]
      have hB' := hB.trans (hB102.mono hB.size)
      clear hB hB102
      have hB := hB'
      clear hB'
      go_wp2_with fail
      refine (do_15 a b _).mono ?_
      rintro e w103 ⟨rfl, hB103⟩
      rw [show truthV (a == b) = 0#64 from by rw [hab]; rfl]
      have hB' := hB.trans (hB103.mono hB.size)
      clear hB hB103
      have hB := hB'
      clear hB'
      go_wp2_with fail
      refine (do_14 a a _).mono ?_
      rintro e w104 ⟨rfl, hB104⟩
      rw [show truthV (a.ult a) = 0#64 from by rw [h14a]; rfl]
      have hB' := hB.trans (hB104.mono hB.size)
      clear hB hB104
      have hB := hB'
      clear hB'
      go_wp2_with fail
      go_roundw
      case rel => exact ⟨2, by omega, by rfl, hB⟩
      case measure => simp [intOf]
    · have hB' : Below w.heap.size w wr := (by rw [HW.out]; exact (Below.refl _ _).alloc (Nat.le_refl _) _ : Below w.heap.size w w1).trans (hB.mono (by omega))
      clear hB hcell
      have hB := hB'
      clear hB'
      rw [show ((2 : Nat) : Int) = 2 from rfl]
      go_wp2_with fail
      refine (do_13 a b _).mono ?_
      rintro e w101 ⟨rfl, hB101⟩
      rw [show truthV (a.slt b) = 1#64 from by rw [h131]; rfl]
      have hB' := hB.trans (hB101.mono hB.size)
      clear hB hB101
      have hB := hB'
      clear hB'
      go_wp2_with fail
      refine (do_14 a b _).mono ?_
      rintro e w102 ⟨rfl, hB102⟩
      rw [show truthV (a.ult b) = 0#64 from by rw [h141]; rfl]
      have hB' := hB.trans (hB102.mono hB.size)
      clear hB hB102
      have hB := hB'
      clear hB'
      go_wp2_with fail
      refine (do_16 a b _).mono ?_
      rintro e w103 ⟨rfl, hB103⟩
      rw [hmin]
      have hB' := hB.trans (hB103.mono hB.size)
      clear hB hB103
      have hB := hB'
      clear hB'
      go_wp2_with fail
      refine (do_17 a b _).mono ?_
      rintro e w104 ⟨rfl, hB104⟩
      rw [hmax]
      have hB' := hB.trans (hB104.mono hB.size)
      clear hB hB104
      have hB := hB'
      clear hB'
      go_wp2_with fail
      refine (do_13 b a _).mono ?_
      rintro e w105 ⟨rfl, hB105⟩
      rw [show truthV (b.slt a) = 0#64 from by rw [h132]; rfl]
      have hB' := hB.trans (hB105.mono hB.size)
      clear hB hB105
      have hB := hB'
      clear hB'
      go_wp2_with fail
      refine (do_15 a b _).mono ?_
      rintro e w106 ⟨rfl, hB106⟩
      rw [show truthV (a == b) = 0#64 from by rw [hab]; rfl]
      have hB' := hB.trans (hB106.mono hB.size)
      clear hB hB106
      have hB := hB'
      clear hB'
      go_wp2_with fail
      refine (do_15 a b _).mono ?_
      rintro e w107 ⟨rfl, hB107⟩
      rw [show truthV (a == b) = 0#64 from by rw [hab]; rfl]
      have hB' := hB.trans (hB107.mono hB.size)
      clear hB hB107
      have hB := hB'
      clear hB'
      go_wp2_with fail
      refine (awake_any _).mono ?_
      rintro e w108 ⟨rfl, hB108⟩
      have hB' := hB.trans (hB108.mono hB.size)
      clear hB hB108
      have hB := hB'
      clear hB'
      go_wp2_with fail
      go_ret
      exact ⟨rfl, hB⟩

set_option maxRecDepth 100000 in
set_option maxHeartbeats 4000000 in
theorem ord_ft (a b c : BitVec 64) (h13a : a.slt a = false) (h14a : a.ult a = false) (h131 : a.slt b = false) (h132 : b.slt a = true) (h141 : a.ult b = true) (h142 : b.ult a = false) (hab : (a == b) = false) (hba : (b == a) = false) (h14t : b.ult c = true → a.ult c = true) (hS : (a.slt 0#64 == b.slt 0#64) = false) (hmin : sminV a b = b) (hmax : smaxV a b = a) (w : World) :
    Calls Try.prog 7 #[s a, s b, s c] w fun e w' => e = .returned (.bool true) ∧ Below w.heap.size w w' := by
  go_enter Try.func7, Try.ntmps7
  go_wp2_with fail
  obtain ⟨w1, hw1⟩ : ∃ w1, w1 = w.alloc (.cells ordC 5) := ⟨_, rfl⟩
  have hsz1 : w.heap.size < w1.heap.size := by rw [hw1]; simp
  have HW := Hd.mk hw1
  clear hw1
  go_loopw [18] (fun i W => ∃ k : Nat, k ≤ 2 ∧ i = .int .i64 k ∧ Below w1.heap.size w1 W) (fun i _ => 2 - (intOf i).toNat)
  case atStart => exact ⟨0, by omega, rfl, by rw [HW.out]; exact Below.refl _ _⟩
  case round =>
    obtain ⟨k, hk, rfl, hB⟩ := hrel
    have hcell : ∀ j v, ordC[j]? = some v → wr.cell? ⟨w.heap.size, j, none⟩ = some v := fun j v hv => by
      rw [← hv, hB.cell (p := ⟨w.heap.size, j, none⟩) hsz1, HW.out]
      exact cells_cell (World.alloc_heap_new w _) j
    have hk' : k = 0 ∨ k = 1 ∨ k = 2 := by omega
    clear hk
    rcases hk' with rfl | rfl | rfl
    · rw [show ((0 : Nat) : Int) = 0 from rfl]
      have c0 : wr.cell? ⟨w.heap.size, 0, none⟩ = some (.int .u8 13) := hcell _ _ rfl
      clear hcell
      go_wp2_with fail
      refine (do_13 a b _).mono ?_
      rintro e w101 ⟨rfl, hB101⟩
      rw [show truthV (a.slt b) = 0#64 from by rw [h131]; rfl]
      have hB' := hB.trans (hB101.mono hB.size)
      clear hB hB101
      have hB := hB'
      clear hB'
      go_wp2_with fail
      refine (do_13 b a _).mono ?_
      rintro e w102 ⟨rfl, hB102⟩
      rw [show truthV (b.slt a) = 1#64 from by rw [h132]; rfl]
      have hB' := hB.trans (hB102.mono hB.size)
      clear hB hB102
      have hB := hB'
      clear hB'
      go_wp2_with fail
      refine (do_15 a b _).mono ?_
      rintro e w103 ⟨rfl, hB103⟩
      rw [show truthV (a == b) = 0#64 from by rw [hab]; rfl]
      have hB' := hB.trans (hB103.mono hB.size)
      clear hB hB103
      have hB := hB'
      clear hB'
      go_wp2_with fail
      refine (do_13 a a _).mono ?_
      rintro e w104 ⟨rfl, hB104⟩
      rw [show truthV (a.slt a) = 0#64 from by rw [h13a]; rfl]
      have hB' := hB.trans (hB104.mono hB.size)
      clear hB hB104
      have hB := hB'
      clear hB'
      go_wp2_with fail
      go_roundw
      case rel => exact ⟨1, by omega, by rfl, hB⟩
      case measure => simp [intOf]
    · rw [show ((1 : Nat) : Int) = 1 from rfl]
      have c0 : wr.cell? ⟨w.heap.size, 1, none⟩ = some (.int .u8 14) := hcell _ _ rfl
      clear hcell
      cases hbc : b.ult c
      · go_wp2_with fail
        refine (do_14 a b _).mono ?_
        rintro e w101 ⟨rfl, hB101⟩
        rw [show truthV (a.ult b) = 1#64 from by rw [h141]; rfl]
        have hB' := hB.trans (hB101.mono hB.size)
        clear hB hB101
        have hB := hB'
        clear hB'
        go_wp2_with fail
        refine (do_14 b a _).mono ?_
        rintro e w102 ⟨rfl, hB102⟩
        rw [show truthV (b.ult a) = 0#64 from by rw [h142]; rfl]
        have hB' := hB.trans (hB102.mono hB.size)
        clear hB hB102
        have hB := hB'
        clear hB'
        go_wp2_with fail
        refine (do_15 a b _).mono ?_
        rintro e w103 ⟨rfl, hB103⟩
        rw [show truthV (a == b) = 0#64 from by rw [hab]; rfl]
        have hB' := hB.trans (hB103.mono hB.size)
        clear hB hB103
        have hB := hB'
        clear hB'
        go_wp2_with fail
        refine (do_14 b c _).mono ?_
        rintro e w104 ⟨rfl, hB104⟩
        rw [show truthV (b.ult c) = 0#64 from by rw [hbc]; rfl]
        have hB' := hB.trans (hB104.mono hB.size)
        clear hB hB104
        have hB := hB'
        clear hB'
        go_wp2_with fail
        refine (do_14 a a _).mono ?_
        rintro e w105 ⟨rfl, hB105⟩
        rw [show truthV (a.ult a) = 0#64 from by rw [h14a]; rfl]
        have hB' := hB.trans (hB105.mono hB.size)
        clear hB hB105
        have hB := hB'
        clear hB'
        go_wp2_with fail
        go_roundw
        case rel => exact ⟨2, by omega, by rfl, hB⟩
        case measure => simp [intOf]
      · go_wp2_with fail
        refine (do_14 a b _).mono ?_
        rintro e w151 ⟨rfl, hB151⟩
        rw [show truthV (a.ult b) = 1#64 from by rw [h141]; rfl]
        have hB' := hB.trans (hB151.mono hB.size)
        clear hB hB151
        have hB := hB'
        clear hB'
        go_wp2_with fail
        refine (do_14 b a _).mono ?_
        rintro e w152 ⟨rfl, hB152⟩
        rw [show truthV (b.ult a) = 0#64 from by rw [h142]; rfl]
        have hB' := hB.trans (hB152.mono hB.size)
        clear hB hB152
        have hB := hB'
        clear hB'
        go_wp2_with fail
        refine (do_15 a b _).mono ?_
        rintro e w153 ⟨rfl, hB153⟩
        rw [show truthV (a == b) = 0#64 from by rw [hab]; rfl]
        have hB' := hB.trans (hB153.mono hB.size)
        clear hB hB153
        have hB := hB'
        clear hB'
        go_wp2_with fail
        refine (do_14 b c _).mono ?_
        rintro e w154 ⟨rfl, hB154⟩
        rw [show truthV (b.ult c) = 1#64 from by rw [hbc]; rfl]
        have hB' := hB.trans (hB154.mono hB.size)
        clear hB hB154
        have hB := hB'
        clear hB'
        go_wp2_with fail
        refine (do_14 a c _).mono ?_
        rintro e w155 ⟨rfl, hB155⟩
        rw [show truthV (a.ult c) = 1#64 from by rw [h14t hbc]; rfl]
        have hB' := hB.trans (hB155.mono hB.size)
        clear hB hB155
        have hB := hB'
        clear hB'
        go_wp2_with fail
        refine (do_14 a a _).mono ?_
        rintro e w156 ⟨rfl, hB156⟩
        rw [show truthV (a.ult a) = 0#64 from by rw [h14a]; rfl]
        have hB' := hB.trans (hB156.mono hB.size)
        clear hB hB156
        have hB := hB'
        clear hB'
        go_wp2_with fail
        go_roundw
        case rel => exact ⟨2, by omega, by rfl, hB⟩
        case measure => simp [intOf]
    · have hB' : Below w.heap.size w wr := (by rw [HW.out]; exact (Below.refl _ _).alloc (Nat.le_refl _) _ : Below w.heap.size w w1).trans (hB.mono (by omega))
      clear hB hcell
      have hB := hB'
      clear hB'
      rw [show ((2 : Nat) : Int) = 2 from rfl]
      go_wp2_with fail
      refine (do_13 a b _).mono ?_
      rintro e w101 ⟨rfl, hB101⟩
      rw [show truthV (a.slt b) = 0#64 from by rw [h131]; rfl]
      have hB' := hB.trans (hB101.mono hB.size)
      clear hB hB101
      have hB := hB'
      clear hB'
      go_wp2_with fail
      refine (do_14 a b _).mono ?_
      rintro e w102 ⟨rfl, hB102⟩
      rw [show truthV (a.ult b) = 1#64 from by rw [h141]; rfl]
      have hB' := hB.trans (hB102.mono hB.size)
      clear hB hB102
      have hB := hB'
      clear hB'
      go_wp2_with fail
      refine (do_16 a b _).mono ?_
      rintro e w103 ⟨rfl, hB103⟩
      rw [hmin]
      have hB' := hB.trans (hB103.mono hB.size)
      clear hB hB103
      have hB := hB'
      clear hB'
      go_wp2_with fail
      refine (do_17 a b _).mono ?_
      rintro e w104 ⟨rfl, hB104⟩
      rw [hmax]
      have hB' := hB.trans (hB104.mono hB.size)
      clear hB hB104
      have hB := hB'
      clear hB'
      go_wp2_with fail
      refine (do_13 a b _).mono ?_
      rintro e w105 ⟨rfl, hB105⟩
      rw [show truthV (a.slt b) = 0#64 from by rw [h131]; rfl]
      have hB' := hB.trans (hB105.mono hB.size)
      clear hB hB105
      have hB := hB'
      clear hB'
      go_wp2_with fail
      refine (do_15 b a _).mono ?_
      rintro e w106 ⟨rfl, hB106⟩
      rw [show truthV (b == a) = 0#64 from by rw [hba]; rfl]
      have hB' := hB.trans (hB106.mono hB.size)
      clear hB hB106
      have hB := hB'
      clear hB'
      go_wp2_with fail
      refine (do_15 a b _).mono ?_
      rintro e w107 ⟨rfl, hB107⟩
      rw [show truthV (a == b) = 0#64 from by rw [hab]; rfl]
      have hB' := hB.trans (hB107.mono hB.size)
      clear hB hB107
      have hB := hB'
      clear hB'
      go_wp2_with fail
      refine (awake_any _).mono ?_
      rintro e w108 ⟨rfl, hB108⟩
      have hB' := hB.trans (hB108.mono hB.size)
      clear hB hB108
      have hB := hB'
      clear hB'
      go_wp2_with fail
      go_ret
      exact ⟨rfl, hB⟩

theorem wordOrders_walk (a b c : BitVec 64) (w : World) :
    Calls Try.prog 7 #[s a, s b, s c] w fun e w' => e = .returned (.bool true) ∧ Below w.heap.size w w' := by
  have hz := toInt_zero'
  have S : ∀ x y : BitVec 64, x.slt y = decide (x.toInt < y.toInt) := fun _ _ => rfl
  have U : ∀ x y : BitVec 64, x.ult y = decide (x.toNat < y.toNat) := fun _ _ => rfl
  have sa : a.slt a = false := by rw [S]; simp
  have ua : a.ult a = false := by rw [U]; simp
  have st : a.slt b = true → b.slt c = true → a.slt c = true := fun h1 h2 => by
    rw [S, decide_eq_true_eq] at h1 h2 ⊢; omega
  have ut : a.ult b = true → b.ult c = true → a.ult c = true := fun h1 h2 => by
    rw [U, decide_eq_true_eq] at h1 h2 ⊢; omega
  by_cases e : a = b
  · subst e
    exact ord_e a c sa ua sa sa ua ua (by simp) (by simp [sminV]) (by simp [smaxV]) w
  have ei : a.toInt ≠ b.toInt := fun h => e (BitVec.eq_of_toInt_eq h)
  have en : a.toNat ≠ b.toNat := fun h => e (BitVec.eq_of_toNat_eq h)
  have hab : (a == b) = false := by simpa using e
  have hba : (b == a) = false := by simpa using fun h => e h.symm
  have ca := BitVec.toInt_eq_toNat_cond a
  have cb := BitVec.toInt_eq_toNat_cond b
  have la := a.isLt
  have lb := b.isLt
  have hS : (a.slt 0#64 == b.slt 0#64) = decide ((a.toInt < 0) ↔ (b.toInt < 0)) := by
    rw [S, S, hz]
    by_cases h1 : a.toInt < 0 <;> by_cases h2 : b.toInt < 0 <;> simp [h1, h2]
  by_cases h1 : a.toInt < b.toInt
  · have p1 : a.slt b = true := by rw [S]; exact decide_eq_true h1
    have p2 : b.slt a = false := by rw [S]; exact decide_eq_false (by omega)
    have hmin : sminV a b = a := by rw [sminV, p2]; rfl
    have hmax : smaxV a b = b := by rw [smaxV, p1]; rfl
    by_cases h2 : a.toNat < b.toNat
    · have q1 : a.ult b = true := by rw [U]; exact decide_eq_true h2
      have q2 : b.ult a = false := by rw [U]; exact decide_eq_false (by omega)
      have s1 : (a.slt 0#64 == b.slt 0#64) = true := by rw [hS]; refine decide_eq_true ?_; split at ca <;> split at cb <;> omega
      exact ord_tt a b c sa ua p1 p2 q1 q2 hab hba (st p1) (ut q1) s1 hmin hmax w
    · have q1 : a.ult b = false := by rw [U]; exact decide_eq_false h2
      have q2 : b.ult a = true := by rw [U]; exact decide_eq_true (by omega)
      have s1 : (a.slt 0#64 == b.slt 0#64) = false := by rw [hS]; refine decide_eq_false ?_; split at ca <;> split at cb <;> omega
      exact ord_tf a b c sa ua p1 p2 q1 q2 hab hba (st p1) s1 hmin hmax w
  · have p1 : a.slt b = false := by rw [S]; exact decide_eq_false h1
    have p2 : b.slt a = true := by rw [S]; exact decide_eq_true (by omega)
    have hmin : sminV a b = b := by rw [sminV, p2]; rfl
    have hmax : smaxV a b = a := by rw [smaxV, p1]; rfl
    by_cases h2 : a.toNat < b.toNat
    · have q1 : a.ult b = true := by rw [U]; exact decide_eq_true h2
      have q2 : b.ult a = false := by rw [U]; exact decide_eq_false (by omega)
      have s1 : (a.slt 0#64 == b.slt 0#64) = false := by rw [hS]; refine decide_eq_false ?_; split at ca <;> split at cb <;> omega
      exact ord_ft a b c sa ua p1 p2 q1 q2 hab hba (ut q1) s1 hmin hmax w
    · have q1 : a.ult b = false := by rw [U]; exact decide_eq_false h2
      have q2 : b.ult a = true := by rw [U]; exact decide_eq_true (by omega)
      have s1 : (a.slt 0#64 == b.slt 0#64) = true := by rw [hS]; refine decide_eq_true ?_; split at ca <;> split at cb <;> omega
      exact ord_ff a b c sa ua p1 p2 q1 q2 hab hba s1 hmin hmax w
end Go.Proofs.Ytbmommomhepfpaa
