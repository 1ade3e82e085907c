/- Walks of quota.is, Right. -/
import Derived.Test.YtppfhcocmpmadaaRows
import Derived.Test.YtppfhcocmpmadaaOwn
import Derived.LoopTactic
import Derived.Outline
import Derived.Handy
import Derived.Laws.Rows
import Derived.Laws.EntriesVeiled
import Derived.Deep.QuietTactic
import Derived.BigQuiet
import Derived.Deep.DeepCutAuto
import Derived.Deep.DrawnRows
namespace Go.Proofs.Ytppfhcocmpmadaa
open Go.RowKit
set_option linter.unusedVariables false

theorem below_drewN {B : Nat} {a w : World} (h : Below B a w) (n : Nat) : Below B a (w.drewN n) := ⟨h.os, h.tape, h.output, h.size, h.block⟩
theorem ch4 {w w1 w2 : World} (h : Below w.heap.size w w1) (k : Below w1.heap.size w1 w2) : Below w.heap.size w w2 := h.trans (k.mono h.size)

/-- Four numbers, as cells. -/
def ar (f : Nat → Int) : Array Value := #[.int .i64 (f 0), .int .i64 (f 1), .int .i64 (f 2), .int .i64 (f 3)]
/-- A book: limits, and what is used. -/
def bk (L U : Nat → Int) : Array Value := #[.int .i64 (L 0), .int .i64 (L 1), .int .i64 (L 2), .int .i64 (L 3), .int .i64 (U 0), .int .i64 (U 1), .int .i64 (U 2), .int .i64 (U 3)]
def upd (f : Nat → Int) (k : Nat) (v : Int) : Nat → Int := fun j => if j = k then v else f j
theorem ar_get (f : Nat → Int) (k : Nat) (h : k < 4) : (ar f)[k]? = some (.int .i64 (f k)) := by
  have : k = 0 ∨ k = 1 ∨ k = 2 ∨ k = 3 := by omega
  rcases this with rfl | rfl | rfl | rfl <;> rfl
theorem ar_set (f : Nat → Int) (k : Nat) (h : k < 4) (v : Int) : (ar f).setIfInBounds k (.int .i64 v) = ar (upd f k v) := by
  have : k = 0 ∨ k = 1 ∨ k = 2 ∨ k = 3 := by omega
  rcases this with rfl | rfl | rfl | rfl <;> simp [ar, upd]
theorem bk_lim (L U : Nat → Int) (k : Nat) (h : k < 4) : (bk L U)[k]? = some (.int .i64 (L k)) := by
  have : k = 0 ∨ k = 1 ∨ k = 2 ∨ k = 3 := by omega
  rcases this with rfl | rfl | rfl | rfl <;> rfl
theorem bk_use (L U : Nat → Int) (k : Nat) (h : k < 4) : (bk L U)[4 + k]? = some (.int .i64 (U k)) := by
  have : k = 0 ∨ k = 1 ∨ k = 2 ∨ k = 3 := by omega
  rcases this with rfl | rfl | rfl | rfl <;> rfl
theorem bk_set_lim (L U : Nat → Int) (k : Nat) (h : k < 4) (v : Int) : (bk L U).setIfInBounds k (.int .i64 v) = bk (upd L k v) U := by
  have : k = 0 ∨ k = 1 ∨ k = 2 ∨ k = 3 := by omega
  rcases this with rfl | rfl | rfl | rfl <;> simp [bk, upd]

theorem ar_cells {W : World} {g : Nat} {t : TypeId} {f : Nat → Int} (h : W.heap[g]? = some (.cells (ar f) t (0, 0))) :
    (W.cell? ⟨g, 0, none⟩ = some (.int .i64 (f 0)) ∧ W.cell? ⟨g, 1, none⟩ = some (.int .i64 (f 1)) ∧ W.cell? ⟨g, 2, none⟩ = some (.int .i64 (f 2)) ∧ W.cell? ⟨g, 3, none⟩ = some (.int .i64 (f 3))) ∧
    (W.frozen? ⟨g, 0, none⟩ = false ∧ W.frozen? ⟨g, 1, none⟩ = false ∧ W.frozen? ⟨g, 2, none⟩ = false ∧ W.frozen? ⟨g, 3, none⟩ = false) :=
  ⟨⟨cells_cell h 0, cells_cell h 1, cells_cell h 2, cells_cell h 3⟩, ⟨cells_free h 0, cells_free h 1, cells_free h 2, cells_free h 3⟩⟩
theorem bk_cells {W : World} {g : Nat} {t : TypeId} {L U : Nat → Int} (h : W.heap[g]? = some (.cells (bk L U) t (0, 0))) :
    (W.cell? ⟨g, 0, none⟩ = some (.int .i64 (L 0)) ∧ W.cell? ⟨g, 1, none⟩ = some (.int .i64 (L 1)) ∧ W.cell? ⟨g, 2, none⟩ = some (.int .i64 (L 2)) ∧ W.cell? ⟨g, 3, none⟩ = some (.int .i64 (L 3)) ∧ W.cell? ⟨g, 4, none⟩ = some (.int .i64 (U 0)) ∧ W.cell? ⟨g, 5, none⟩ = some (.int .i64 (U 1)) ∧ W.cell? ⟨g, 6, none⟩ = some (.int .i64 (U 2)) ∧ W.cell? ⟨g, 7, none⟩ = some (.int .i64 (U 3))) ∧
    (W.frozen? ⟨g, 0, none⟩ = false ∧ W.frozen? ⟨g, 1, none⟩ = false ∧ W.frozen? ⟨g, 2, none⟩ = false ∧ W.frozen? ⟨g, 3, none⟩ = false ∧ W.frozen? ⟨g, 4, none⟩ = false ∧ W.frozen? ⟨g, 5, none⟩ = false ∧ W.frozen? ⟨g, 6, none⟩ = false ∧ W.frozen? ⟨g, 7, none⟩ = false) :=
  ⟨⟨cells_cell h 0, cells_cell h 1, cells_cell h 2, cells_cell h 3, cells_cell h 4, cells_cell h 5, cells_cell h 6, cells_cell h 7⟩, ⟨cells_free h 0, cells_free h 1, cells_free h 2, cells_free h 3, cells_free h 4, cells_free h 5, cells_free h 6, cells_free h 7⟩⟩
theorem ar_setall {W : World} {g : Nat} {t : TypeId} {f : Nat → Int} (f' : Nat → Int) (h : W.heap[g]? = some (.cells (ar f) t (0, 0))) :
    ((((W.setCell ⟨g, 0, none⟩ (.int .i64 (f' 0))).setCell ⟨g, 1, none⟩ (.int .i64 (f' 1))).setCell ⟨g, 2, none⟩ (.int .i64 (f' 2))).setCell ⟨g, 3, none⟩ (.int .i64 (f' 3))).heap[g]? = some (.cells (ar f') t (0, 0)) :=
  cells_set (cells_set (cells_set (cells_set h _) _) _) _
theorem bk_setuse {W : World} {g : Nat} {t : TypeId} {L U : Nat → Int} (f' : Nat → Int) (h : W.heap[g]? = some (.cells (bk L U) t (0, 0))) :
    ((((W.setCell ⟨g, 4, none⟩ (.int .i64 (f' 0))).setCell ⟨g, 5, none⟩ (.int .i64 (f' 1))).setCell ⟨g, 6, none⟩ (.int .i64 (f' 2))).setCell ⟨g, 7, none⟩ (.int .i64 (f' 3))).heap[g]? = some (.cells (bk L f') t (0, 0)) :=
  cells_set (cells_set (cells_set (cells_set h _) _) _) _

def isB (k : Int) : Bool := decide (0 ≤ k) && decide (k < 4)
theorem is_any (k : Int) (w : World) : Calls Try.prog 30 #[.int .i64 k] w fun e w' => e = .returned (.bool (isB k)) ∧ w = w' := by
  by_cases h0 : 0 ≤ k
  · by_cases h1 : k < 4
    · have e : isB k = true := by simp [isB, h0, h1]
      rw [e]; clear e
      go_enter Try.func30, Try.ntmps30
      go_wp2_with fail
      go_ret
      exact ⟨rfl, rfl⟩
    · have e : isB k = false := by simp [isB, h1]
      rw [e]; clear e
      go_enter Try.func30, Try.ntmps30
      go_wp2_with fail
      go_ret
      exact ⟨rfl, rfl⟩
  · have e : isB k = false := by simp [isB, h0]
    rw [e]; clear e
    go_enter Try.func30, Try.ntmps30
    go_wp2_with fail
    go_ret
    exact ⟨rfl, rfl⟩

/-- The account is right. -/
def okAt (L U : Nat → Int) (k : Nat) : Bool := decide (0 ≤ L k) && decide (L k ≤ 1099511627776) && decide (0 ≤ U k) && decide (U k ≤ L k)
def rightB (L U : Nat → Int) : Bool := okAt L U 0 && okAt L U 1 && okAt L U 2 && okAt L U 3

theorem right_no {L U : Nat → Int} {k : Nat} (hk : k < 4) (h : okAt L U k = false) : rightB L U = false := by
  have : k = 0 ∨ k = 1 ∨ k = 2 ∨ k = 3 := by omega
  rcases this with rfl | rfl | rfl | rfl <;> simp [rightB, h]
theorem right_yes {L U : Nat → Int} (h : ∀ j, j < 4 → okAt L U j = true) : rightB L U = true := by
  simp [rightB, h 0 (by decide), h 1 (by decide), h 2 (by decide), h 3 (by decide)]
theorem right_iff {L U : Nat → Int} : rightB L U = true ↔ ∀ j, j < 4 → 0 ≤ L j ∧ L j ≤ 1099511627776 ∧ 0 ≤ U j ∧ U j ≤ L j := by
  constructor
  · intro h j hj
    refine Decidable.byContradiction fun hc => ?_
    have : okAt L U j = false := by
      cases ho : okAt L U j
      · rfl
      · exfalso; apply hc; simp [okAt] at ho; omega
    rw [right_no hj this] at h; cases h
  · intro h
    exact right_yes fun j hj => by have := h j hj; simp [okAt]; omega

set_option maxRecDepth 100000 in
set_option maxHeartbeats 4000000 in
theorem right_any (L U : Nat → Int) (w : World) : Calls Try.prog 19 #[.agg (bk L U)] w fun e w' => e = .returned (.bool (rightB L U)) ∧ Below w.heap.size w w' := by
  have HB0 : Hd (Below w.heap.size w (w.alloc (.cells (bk L U) 27))) := ⟨(Below.refl _ _).alloc (Nat.le_refl _) _⟩
  have HA : Hd ((w.alloc (.cells (bk L U) 27)).heap[w.heap.size]? = some (.cells (bk L U) 27 (0, 0))) := ⟨World.alloc_heap_new w _⟩
  have HL : Hd (w.heap.size < (w.alloc (.cells (bk L U) 27)).heap.size) := ⟨by simp⟩
  go_enter Try.func19, Try.ntmps19
  go_wp2_with fail
  obtain ⟨w1, hw1⟩ : ∃ w1, w.alloc (.cells (bk L U) 27) = w1 := ⟨_, rfl⟩
  rw [hw1] at HB0 HA HL ⊢
  clear hw1
  go_loopw [4] (fun i W => ∃ k : Nat, k ≤ 4 ∧ i = .int .i64 k ∧ Hd (∀ j, j < k → okAt L U j = true) ∧ Below w1.heap.size w1 W) (fun i _ => 4 - (intOf i).toNat)
  case atStart => exact ⟨0, by omega, rfl, ⟨fun j hj => by omega⟩, Below.refl _ _⟩
  case round =>
    obtain ⟨k, hk, rfl, HO, hB⟩ := hrel
    by_cases hlt : k < 4
    · have hb : wr.heap[w.heap.size]? = some (.cells (bk L U) 27 (0, 0)) := (hB.block _ HL.out).trans HA.out
      have hl := (cells_cell hb k).trans (bk_lim L U k hlt)
      have hu := (cells_cell hb (4 + k)).trans (bk_use L U k hlt)
      have HOK : Hd (okAt L U k = (decide (0 ≤ L k) && decide (L k ≤ 1099511627776) && decide (0 ≤ U k) && decide (U k ≤ L k))) := ⟨rfl⟩
      have i0 : (0 : Int) ≤ (k : Int) := by omega
      have i1 : (k : Int) < 4 := by omega
      obtain ⟨l, hl'⟩ : ∃ l, L k = l := ⟨_, rfl⟩
      obtain ⟨v, hv'⟩ : ∃ v, U k = v := ⟨_, rfl⟩
      rw [hl'] at hl HOK
      rw [hv'] at hu HOK
      clear hb hl' hv'
      by_cases c1 : 0 ≤ l ∧ l ≤ 1099511627776 ∧ 0 ≤ v ∧ v ≤ l
      · obtain ⟨c1, c2, c3, c4⟩ := c1
        have HN : Hd (∀ j, j < k + 1 → okAt L U j = true) := ⟨fun j hj => by
          by_cases e : j = k
          · rw [e, HOK.out]; simp [c1, c2, c3, c4]
          · exact HO.out j (by omega)⟩
        have d1 : decide (l < 0) = false := by simp; omega
        have d2 : decide (1099511627776 < l) = false := by simp; omega
        have d3 : decide (v < 0) = false := by simp; omega
        have d4 : decide (l < v) = false := by simp; omega
        clear HO HOK
        go_wp2_with fail
        go_quiet (fail)
        go_wp2_with fail
        go_roundw
        case rel => exact ⟨k + 1, by omega, by go_num, HN, below_drewN hB _⟩
        case measure => simp [intOf]; omega
      · have HR : Hd (rightB L U = false) := ⟨right_no hlt (by
          rw [HOK.out]
          cases hc : (decide (0 ≤ l) && decide (l ≤ 1099511627776) && decide (0 ≤ v) && decide (v ≤ l))
          · rfl
          · simp at hc; omega)⟩
        have hB2 := ch4 HB0.out hB
        by_cases c2 : l < 0
        · have d1 : decide (l < 0) = true := by simp; omega
          clear HO HOK
          go_wp2_with fail
          go_quiet (fail)
          go_wp2_with fail
          go_ret
          exact ⟨by rw [HR.out]; rfl, below_drewN hB2 _⟩
        by_cases c3 : 1099511627776 < l
        · have d1 : decide (l < 0) = false := by simp; omega
          have d2 : decide (1099511627776 < l) = true := by simp; omega
          clear HO HOK
          go_wp2_with fail
          go_quiet (fail)
          go_wp2_with fail
          go_ret
          exact ⟨by rw [HR.out]; rfl, below_drewN hB2 _⟩
        by_cases c4 : v < 0
        · have d1 : decide (l < 0) = false := by simp; omega
          have d2 : decide (1099511627776 < l) = false := by simp; omega
          have d3 : decide (v < 0) = true := by simp; omega
          clear HO HOK
          go_wp2_with fail
          go_quiet (fail)
          go_wp2_with fail
          go_ret
          exact ⟨by rw [HR.out]; rfl, below_drewN hB2 _⟩
        · have d1 : decide (l < 0) = false := by simp; omega
          have d2 : decide (1099511627776 < l) = false := by simp; omega
          have d3 : decide (v < 0) = false := by simp; omega
          have d4 : decide (l < v) = true := by simp; omega
          have c5 : l < v := by omega
          clear HO HOK c1
          go_wp2_with fail
          go_quiet (fail)
          go_wp2_with fail
          go_ret
          exact ⟨by rw [HR.out]; rfl, below_drewN hB2 _⟩
    · obtain rfl : k = 4 := by omega
      have HR : Hd (rightB L U = true) := ⟨right_yes HO.out⟩
      go_wp2_with fail
      go_ret
      exact ⟨by rw [HR.out]; rfl, ch4 HB0.out hB⟩
end Go.Proofs.Ytppfhcocmpmadaa
