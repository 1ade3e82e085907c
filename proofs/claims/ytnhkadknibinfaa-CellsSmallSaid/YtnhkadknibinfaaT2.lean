/- A list written over. -/
import Derived.Test.YtnhkadknibinfaaT1
import Derived.Lib.MinMax
namespace Go.Proofs.Ytnhkadknibinfaa
open Go.RowKit
set_option linter.unusedVariables false
set_option linter.unusedSimpArgs false

/-- A row of one's own written over, its spare room too. -/
structure OvQ (w W : World) (g cap : Nat) : Prop where
  grown : w.grownBy W (some g)
  blk : ∃ cur : Array Value, W.heap[g]? = some (.cells cur 3 (0, 0)) ∧ cur.size = cap
theorem OvQ.put {w W : World} {g cap : Nat} (h : OvQ w W g cap) (k : Nat) (x : Value) : OvQ w (W.setCell ⟨g, k, none⟩ x) g cap := by
  obtain ⟨cur, h1, h2⟩ := h.blk
  have h3 := cells_set (o := k) h1 x
  refine ⟨grown_trans h.grown (grown_cell W g k x), _, h3, by simpa using h2⟩
theorem OvQ.cell {w W : World} {g cap : Nat} (h : OvQ w W g cap) (k : Nat) (hk : k < cap) : (∃ v, W.cell? ⟨g, k, none⟩ = some v) ∧ W.frozen? ⟨g, k, none⟩ = false := by
  obtain ⟨cur, h1, h2⟩ := h.blk
  refine ⟨⟨_, (cells_cell h1 k).trans (by rw [Array.getElem?_eq_getElem (by omega)])⟩, cells_free h1 k⟩

set_option maxRecDepth 100000 in
set_option maxHeartbeats 2000000 in
theorem overInts_any {w : World} {base : Nat} {v : Value} {l : List Int} (h : AppI 3 w base v l) (hl : l.length ≤ 100000) :
    Calls Try.prog 37 #[v] w fun e w' => e = .returned (.tuple #[]) ∧ w.grownBy w' v.ownBlock := by
  rcases h.2 with ⟨rfl, h0⟩ | ⟨g, cap, cur, rfl, hg, hh, hn, hm, hs, ht⟩
  · clear h h0 hl
    go_enter Try.func37, Try.ntmps37
    go_wp2_with fail
    try rw [show (min 0 (0 + 12) : Int) = 0 from rfl]
    go_wp2_with fail
    go_loopw [3] (fun i W => i = .int .i64 0 ∧ W = w) (fun _ _ => 0)
    case atStart => exact ⟨rfl, rfl⟩
    case round =>
      obtain ⟨rfl, rfl⟩ := hrel
      go_wp2_with fail
      go_end0
      exact ⟨rfl, grown_refl _ _⟩
  · have HQ : Hd (OvQ w w g cap) := ⟨⟨grown_refl _ _, cur, hh, by simpa using hs⟩⟩
    obtain ⟨n, hnl⟩ : ∃ n, l.length = n := ⟨_, rfl⟩
    rw [hnl] at hn hl ⊢
    obtain ⟨m, hmm⟩ : ∃ m : Nat, min (cap : Int) ((n : Int) + 12) = (m : Int) := ⟨min cap (n + 12), by omega⟩
    have hmc : m ≤ cap := by omega
    have hmb : m ≤ 100012 := by omega
    have hcm : cap ≤ 9223372036854775807 := by simp only [maxLen] at hm; exact hm
    clear h hh hs ht hnl hm hg
    go_enter Try.func37, Try.ntmps37
    go_wp2_with fail
    try rw [hmm]
    clear hmm
    have HCM := Hd.mk hcm
    go_wp2_with fail
    go_loopw [3] (fun i W => ∃ k : Nat, k ≤ m ∧ i = .int .i64 k ∧ Hd (OvQ w W g cap)) (fun i _ => m - (intOf i).toNat)
    case atStart => exact ⟨0, by omega, rfl, HQ⟩
    case round =>
      obtain ⟨k, hk, rfl, HR⟩ := hrel
      by_cases hlt : k < m
      · obtain ⟨⟨xv, x0⟩, f0⟩ := HR.out.cell k (by omega)
        have HLT := Hd.mk hlt
        have HPUT := Hd.mk (fun x => HR.out.put k x)
        have k0 : (0 : Int) ≤ (k : Int) := by omega
        have k1 : (k : Int) < (m : Int) := by omega
        have k2 : (k : Int) + 1 ≤ 9223372036854775807 := by omega
        have HMK := Hd.mk (fun W => lmark_any 2 (k : Int) W (by omega) (by omega))
        clear hlt hk
        go_wp2_with fail
        refine (HMK.out _).mono ?_
        rintro e w1 ⟨⟨x, rfl⟩, rfl⟩
        go_wp2_with fail
        go_roundw
        case rel => exact ⟨k + 1, by have := HLT.out; omega, by go_num, ⟨HPUT.out _⟩⟩
        case measure => have := HLT.out; simp [intOf]; omega
      · obtain rfl : k = m := by omega
        go_wp2_with fail
        go_end0
        exact ⟨rfl, HR.out.grown⟩
end Go.Proofs.Ytnhkadknibinfaa
