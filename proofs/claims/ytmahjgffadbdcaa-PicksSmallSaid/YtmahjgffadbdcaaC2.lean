/- Rows of ints that are written; the walk of slices.Reverse. -/
import Derived.Test.YtmahjgffadbdcaaC1
import Derived.BigRegion
namespace Go.Proofs.Ytmahjgffadbdcaa
open Go.RowKit
set_option linter.unusedVariables false

theorem grown_refl (w : World) (r : Option Nat) : w.grownBy w r := ⟨rfl, rfl, rfl, Nat.le_refl _, fun _ _ _ => rfl⟩
theorem grown_trans {w w1 w2 : World} {r : Option Nat} (h : w.grownBy w1 r) (k : w1.grownBy w2 r) : w.grownBy w2 r :=
  ⟨k.os.trans h.os, k.tape.trans h.tape, k.output.trans h.output, Nat.le_trans h.size k.size, fun i hi hn => (k.block i (Nat.lt_of_lt_of_le hi h.size) hn).trans (h.block i hi hn)⟩
theorem grown_set (w : World) (b i : Nat) (v : Value) : w.grownBy (w.setCell ⟨b, i, none⟩ v) (some b) :=
  ⟨rfl, rfl, rfl, by simp [World.setCell], fun k _ hn => Below.heap_setCell _ _ _ _ (fun e => hn (by rw [e]))⟩
theorem below_grown {B b : Nat} {w w1 : World} (h : w.grownBy w1 (some b)) (hb : B ≤ b) (hs : B ≤ w.heap.size) : Below B w w1 :=
  ⟨h.os, h.tape, h.output, h.size, fun k hk => h.block k (by omega) (fun e => by simp at e; omega)⟩
theorem grown_drewN {w w1 : World} {r : Option Nat} (h : w.grownBy w1 r) (n : Nat) : w.grownBy (w1.drewN n) r := ⟨h.os, h.tape, h.output, h.size, h.block⟩

/-- A row of N ints at the head of block g, that can be written. -/
structure RowF (W : World) (g N : Nat) (f : Nat → Int) : Prop where
  lt : g < W.heap.size
  cell : ∀ j, j < N → W.cell? ⟨g, j, none⟩ = some (.int .i64 (f j))
  free : ∀ j, W.frozen? ⟨g, j, none⟩ = false
theorem RowF.congr {W : World} {g N : Nat} {f f' : Nat → Int} (h : RowF W g N f) (e : ∀ j, j < N → f j = f' j) : RowF W g N f' :=
  ⟨h.lt, fun j hj => by rw [h.cell j hj, e j hj], h.free⟩
theorem RowF.drew {W : World} {g N : Nat} {f : Nat → Int} (h : RowF W g N f) : RowF W.drew g N f := ⟨h.lt, h.cell, h.free⟩
theorem RowF.drewN {W : World} {g N : Nat} {f : Nat → Int} (h : RowF W g N f) (n : Nat) : RowF (W.drewN n) g N f := ⟨h.lt, h.cell, h.free⟩
theorem RowF.below {W W' : World} {g N : Nat} {f : Nat → Int} (h : RowF W g N f) (hb : Below W.heap.size W W') : RowF W' g N f :=
  ⟨Nat.lt_of_lt_of_le h.lt hb.size, fun j hj => (hb.cell h.lt).trans (h.cell j hj), fun j => (hb.frozen h.lt).trans (h.free j)⟩
theorem RowF.set {W : World} {g N : Nat} {f : Nat → Int} (h : RowF W g N f) (i : Nat) (hi : i < N) (x : Int) : RowF (W.setCell ⟨g, i, none⟩ (.int .i64 x)) g N (fun j => if j = i then x else f j) := by
  refine ⟨by simpa using h.lt, fun j hj => ?_, fun j => by simpa using h.free j⟩
  by_cases e : j = i
  · subst e; rw [World.cell?_setCell_same (h := h.cell j hj)]; simp
  · rw [World.cell?_setCell_other (h := by intro h; cases h; exact e rfl), h.cell j hj]; simp [e]
def swapF (f : Nat → Int) (i k : Nat) : Nat → Int := fun j => if j = k then f i else if j = i then f k else f j
theorem RowF.swap {W : World} {g N : Nat} {f : Nat → Int} (h : RowF W g N f) (i k : Nat) (hi : i < N) (hk : k < N) :
    RowF ((W.setCell ⟨g, i, none⟩ (.int .i64 (f k))).setCell ⟨g, k, none⟩ (.int .i64 (f i))) g N (swapF f i k) := by
  refine ((h.set i hi (f k)).set k hk (f i)).congr fun j _ => ?_
  unfold swapF; split <;> rfl
theorem RowF.swap' {W : World} {g N : Nat} {f : Nat → Int} (h : RowF W g N f) (i k : Nat) (hi : i < N) (hk : k < N) :
    RowF ((W.setCell ⟨g, k, none⟩ (.int .i64 (f i))).setCell ⟨g, i, none⟩ (.int .i64 (f k))) g N (swapF f i k) := by
  refine ((h.set k hk (f i)).set i hi (f k)).congr fun j _ => ?_
  unfold swapF
  by_cases e : j = k
  · subst e; by_cases e2 : j = i
    · subst e2; simp
    · simp [e2]
  · simp [e]

def revF (f : Nat → Int) (s n k : Nat) : Nat → Int := fun j => if s ≤ j ∧ j < s + n ∧ (j < s + k ∨ s + n ≤ j + k) then f (2 * s + n - 1 - j) else f j
theorem rev_zero (f : Nat → Int) (s n : Nat) (j : Nat) : revF f s n 0 j = f j := by unfold revF; rw [if_neg (by omega)]
theorem rev_step (f : Nat → Int) (s n k : Nat) (h : k + k + 1 < n) (j : Nat) : swapF (revF f s n k) (s + k) (s + (n - 1 - k)) j = revF f s n (k + 1) j := by
  unfold swapF revF
  by_cases h1 : j = s + (n - 1 - k)
  · rw [if_pos h1, if_neg (by omega), if_pos (by omega)]; congr 1; omega
  · rw [if_neg h1]
    by_cases h2 : j = s + k
    · rw [if_pos h2, if_neg (by omega), if_pos (by omega)]; congr 1; omega
    · rw [if_neg h2]
      by_cases h3 : s ≤ j ∧ j < s + n ∧ (j < s + k ∨ s + n ≤ j + k)
      · rw [if_pos h3, if_pos (by omega)]
      · rw [if_neg h3, if_neg (by omega)]
theorem rev_done (f : Nat → Int) (s n k : Nat) (h : n ≤ k + k + 1) (j : Nat) (hj : j < s + n) : revF f s n k j = if s ≤ j then f (2 * s + n - 1 - j) else f j := by
  unfold revF
  by_cases h1 : s ≤ j
  · rw [if_pos h1]
    by_cases h2 : j < s + k ∨ s + n ≤ j + k
    · rw [if_pos ⟨h1, hj, h2⟩]
    · rw [if_neg (by omega)]; congr 1; omega
  · rw [if_neg h1, if_neg (by omega)]

set_option maxRecDepth 100000 in
set_option maxHeartbeats 1000000 in
theorem reverse_any (g s n c : Nat) (f : Nat → Int) (w : World) (h : RowF w g (s + n) f) (hn : s + n ≤ 1000000000) : Calls Try.prog 26 #[.slice (some ⟨g, s, none⟩) n c] w fun e w' =>
    (∃ v, e = .returned v) ∧ RowF w' g (s + n) (fun j => if s ≤ j then f (2 * s + n - 1 - j) else f j) ∧ w.grownBy w' (some g) := by
  have H := Hd.mk h
  clear h
  go_enter Try.func26, Try.ntmps26
  go_wp2_with fail
  go_loopw [2, 3] (fun i j W => ∃ k : Nat, k ≤ n ∧ k + k ≤ n + 1 ∧ i = .int .i64 k ∧ j = .int .i64 ((n : Int) - 1 - k) ∧ RowF W g (s + n) (revF f s n k) ∧ w.grownBy W (some g)) (fun i _ _ => n - (intOf i).toNat)
  case atStart => exact ⟨0, by omega, by omega, rfl, by simp, H.out.congr fun j _ => (rev_zero f s n j).symm, grown_refl _ _⟩
  case round =>
    obtain ⟨k, hk, hk2, rfl, rfl, hR, hg⟩ := hrel
    by_cases hlt : k + k + 1 < n
    · obtain ⟨m, hm⟩ : ∃ m, n - 1 - k = m := ⟨_, rfl⟩
      have e1 : (n : Int) - 1 - k = (m : Int) := by omega
      rw [e1]
      have hx := hR.cell (s + k) (by omega)
      have hy := hR.cell (s + m) (by omega)
      have fx := hR.free (s + k)
      have fy := hR.free (s + m)
      have HS1 := Hd.mk (hR.swap (s + k) (s + m) (by omega) (by omega))
      have HS2 := Hd.mk (hR.swap' (s + k) (s + m) (by omega) (by omega))
      have HE : Hd (∀ j, swapF (revF f s n k) (s + k) (s + m) j = revF f s n (k + 1) j) := ⟨by rw [← hm]; exact rev_step f s n k hlt⟩
      generalize revF f s n k (s + k) = x at hx HS1 HS2
      generalize revF f s n k (s + m) = y at hy HS1 HS2
      have i0 : (0 : Int) ≤ (k : Int) := by omega
      have i1 : (k : Int) < (n : Int) := by omega
      have i2 : (0 : Int) ≤ (m : Int) := by omega
      have i3 : (m : Int) < (n : Int) := by omega
      have i4 : (k : Int) < (m : Int) := by omega
      have i5 : k < m := by omega
      have HG := Hd.mk hg
      have HM := Hd.mk hm
      clear hR hg e1 hm
      go_wp2_with fail
      go_region
      go_wp2_with fail
      go_roundw
      case rel =>
        have hm := HM.out
        exact ⟨k + 1, by omega, by omega, by go_num, by congr 1; omega, (HS1.out.congr fun j _ => HE.out j).drew, grown_trans HG.out (grown_drewN (grown_trans (grown_set _ _ _ _) (grown_set _ _ _ _)) 1)⟩
      case measure => simp [intOf]; omega
    · have i0 : (n : Int) - 1 - k ≤ (k : Int) := by omega
      have HR := Hd.mk (hR.congr fun j hj => rev_done f s n k (by omega) j hj)
      clear hR
      go_wp2_with fail
      go_end0
      exact ⟨⟨_, rfl⟩, HR.out, hg⟩
end Go.Proofs.Ytmahjgffadbdcaa
