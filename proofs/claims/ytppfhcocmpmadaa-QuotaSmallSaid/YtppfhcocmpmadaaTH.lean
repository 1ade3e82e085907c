/- Contracts for tells: the package's functions and the reference's, of one result. -/
import Derived.Test.YtppfhcocmpmadaaC0
import Derived.Test.YtppfhcocmpmadaaRD
import Derived.Test.YtppfhcocmpmadaaRE
import Derived.Test.YtppfhcocmpmadaaRF
import Derived.Test.YtppfhcocmpmadaaRH
namespace Go.Proofs.Ytppfhcocmpmadaa
open Go.RowKit
set_option linter.unusedVariables false

theorem z_cellsT {W : World} {g : Nat} {t : TypeId} (h : W.heap[g]? = some (.cells #[.int .i64 0, .int .i64 0, .int .i64 0, .int .i64 0, .int .i64 0, .int .i64 0, .int .i64 0, .int .i64 0] t (0, 0))) :
    (W.cell? ⟨g, 0, none⟩ = some (.int .i64 0) ∧ W.cell? ⟨g, 1, none⟩ = some (.int .i64 0) ∧ W.cell? ⟨g, 2, none⟩ = some (.int .i64 0) ∧ W.cell? ⟨g, 3, none⟩ = some (.int .i64 0) ∧ W.cell? ⟨g, 4, none⟩ = some (.int .i64 0) ∧ W.cell? ⟨g, 5, none⟩ = some (.int .i64 0) ∧ W.cell? ⟨g, 6, none⟩ = some (.int .i64 0) ∧ W.cell? ⟨g, 7, none⟩ = some (.int .i64 0)) ∧
    (W.frozen? ⟨g, 0, none⟩ = false ∧ W.frozen? ⟨g, 1, none⟩ = false ∧ W.frozen? ⟨g, 2, none⟩ = false ∧ W.frozen? ⟨g, 3, none⟩ = false ∧ W.frozen? ⟨g, 4, none⟩ = false ∧ W.frozen? ⟨g, 5, none⟩ = false ∧ W.frozen? ⟨g, 6, none⟩ = false ∧ W.frozen? ⟨g, 7, none⟩ = false) :=
  ⟨⟨cells_cell h 0, cells_cell h 1, cells_cell h 2, cells_cell h 3, cells_cell h 4, cells_cell h 5, cells_cell h 6, cells_cell h 7⟩, ⟨cells_free h 0, cells_free h 1, cells_free h 2, cells_free h 3, cells_free h 4, cells_free h 5, cells_free h 6, cells_free h 7⟩⟩
theorem set_bkT {W : World} {g : Nat} {t : TypeId} (C D : Nat → Int) (h : W.heap[g]? = some (.cells #[.int .i64 0, .int .i64 0, .int .i64 0, .int .i64 0, .int .i64 0, .int .i64 0, .int .i64 0, .int .i64 0] t (0, 0))) :
    (set8 W g C D).heap[g]? = some (.cells (bk C D) t (0, 0)) := bk_setall (L := zf) (U := zf) C D h
theorem qt_steps (L U : Nat → Int) (cs : List (Int × Int)) : ∃ (X Y : Nat → Int) (i e : Int), (∀ v w, SrcC w v cs → Calls Try.prog 13 #[.agg (bk L U), v] w fun x w' => x = .returned (.tuple #[v8 (X 0) (X 1) (X 2) (X 3) (Y 0) (Y 1) (Y 2) (Y 3), .int .i64 i, .int .i64 e]) ∧ Below w.heap.size w w') ∧
    (∀ v w, SrcC w v cs → Calls Try.prog 34 #[.agg (bk L U), v] w fun x w' => x = .returned (.tuple #[v8 (X 0) (X 1) (X 2) (X 3) (Y 0) (Y 1) (Y 2) (Y 3), .int .i64 i, .int .i64 e]) ∧ Below w.heap.size w w') := by
  by_cases hb : bothV L U cs = 0
  · obtain ⟨K, hK⟩ := stepAt_ex L (useK U cs) cs.length
    by_cases hlt : K < cs.length
    · exact ⟨zf, zf, K, (failsV L (useK U cs (K + 1))).2, fun v w hs => (steps_yes L U v cs K hK w hs hb).mono fun e w' ⟨he, hB⟩ => ⟨he.trans (by rw [stepR, if_pos hlt]; rfl), hB⟩, fun v w hs => (rsteps_yes L U v cs K hK w hs hb).mono fun e w' ⟨he, hB⟩ => ⟨he.trans (by rw [stepR, if_pos hlt]; rfl), hB⟩⟩
    · exact ⟨L, useK U cs cs.length, -1, 0, fun v w hs => (steps_yes L U v cs K hK w hs hb).mono fun e w' ⟨he, hB⟩ => ⟨he.trans (by rw [stepR, if_neg hlt]; rfl), hB⟩, fun v w hs => (rsteps_yes L U v cs K hK w hs hb).mono fun e w' ⟨he, hB⟩ => ⟨he.trans (by rw [stepR, if_neg hlt]; rfl), hB⟩⟩
  · exact ⟨zf, zf, -1, bothV L U cs, fun v w hs => (steps_no L U v cs w hs hb).mono fun e w' ⟨he, hB⟩ => ⟨he, hB⟩, fun v w hs => (rsteps_no L U v cs w hs hb).mono fun e w' ⟨he, hB⟩ => ⟨he, hB⟩⟩
theorem qt_bar (L U : Nat → Int) (cs : List (Int × Int)) : ∃ (X Y : Nat → Int) (i e : Int), (∀ v w, SrcC w v cs → Calls Try.prog 17 #[.agg (bk L U), v] w fun x w' => x = .returned (.tuple #[v8 (X 0) (X 1) (X 2) (X 3) (Y 0) (Y 1) (Y 2) (Y 3), .int .i64 i, .int .i64 e]) ∧ Below w.heap.size w w') ∧
    (∀ v w, SrcC w v cs → Calls Try.prog 35 #[.agg (bk L U), v] w fun x w' => x = .returned (.tuple #[v8 (X 0) (X 1) (X 2) (X 3) (Y 0) (Y 1) (Y 2) (Y 3), .int .i64 i, .int .i64 e]) ∧ Below w.heap.size w w') := by
  by_cases hb : bothV L U cs = 0
  · by_cases hf : (failsV L (useK U cs cs.length)).2 = 0
    · exact ⟨L, useK U cs cs.length, -1, 0, fun v w hs => (barrier_yes L U v cs w hs hb).mono fun e w' ⟨he, hB⟩ => ⟨he.trans (by rw [barR, if_pos hf]; rfl), hB⟩, fun v w hs => (rbarrier_yes L U v cs w hs hb).mono fun e w' ⟨he, hB⟩ => ⟨he.trans (by rw [barR, if_pos hf]; rfl), hB⟩⟩
    · exact ⟨zf, zf, (failsV L (useK U cs cs.length)).1, (failsV L (useK U cs cs.length)).2, fun v w hs => (barrier_yes L U v cs w hs hb).mono fun e w' ⟨he, hB⟩ => ⟨he.trans (by rw [barR, if_neg hf]; rfl), hB⟩, fun v w hs => (rbarrier_yes L U v cs w hs hb).mono fun e w' ⟨he, hB⟩ => ⟨he.trans (by rw [barR, if_neg hf]; rfl), hB⟩⟩
  · exact ⟨zf, zf, -1, bothV L U cs, fun v w hs => (barrier_no L U v cs w hs hb).mono fun e w' ⟨he, hB⟩ => ⟨he, hB⟩, fun v w hs => (rbarrier_no L U v cs w hs hb).mono fun e w' ⟨he, hB⟩ => ⟨he, hB⟩⟩
theorem qt_peak (L U : Nat → Int) (cs : List (Int × Int)) : ∃ (P : Nat → Int) (e : Int), (∀ v w, SrcC w v cs → Calls Try.prog 14 #[.agg (bk L U), v] w fun x w' => x = .returned (.tuple #[.agg (ar P), .int .i64 e]) ∧ Below w.heap.size w w') ∧
    (∀ v w, SrcC w v cs → Calls Try.prog 38 #[.agg (bk L U), v] w fun x w' => x = .returned (.tuple #[.agg (ar P), .int .i64 e]) ∧ Below w.heap.size w w') := by
  by_cases hb : bothV L U cs = 0
  · exact ⟨_, 0, fun v w hs => peak_yes L U v cs w hs hb, fun v w hs => rpeak_yes L U v cs w hs hb⟩
  · exact ⟨zf, bothV L U cs, fun v w hs => peak_no L U v cs w hs hb, fun v w hs => rpeak_no L U v cs w hs hb⟩
theorem qt_sum (cs : List (Int × Int)) : ∃ (S : Nat → Int) (e : Int), (∀ v w, SrcC w v cs → Calls Try.prog 18 #[v] w fun x w' => x = .returned (.tuple #[.agg (ar S), .int .i64 e]) ∧ Below w.heap.size w w') ∧
    (∀ v w, SrcC w v cs → Calls Try.prog 39 #[v] w fun x w' => x = .returned (.tuple #[.agg (ar S), .int .i64 e]) ∧ Below w.heap.size w w') := by
  by_cases hb : chkV cs = 0
  · exact ⟨useK zf cs cs.length, chkV cs, fun v w hs => (sum_any v cs w hs).mono fun e w' ⟨he, hB⟩ => ⟨he.trans (by rw [if_pos hb]), hB⟩, fun v w hs => (rsum_any v cs w hs).mono fun e w' ⟨he, hB⟩ => ⟨he.trans (by rw [if_pos hb]), hB⟩⟩
  · exact ⟨zf, chkV cs, fun v w hs => (sum_any v cs w hs).mono fun e w' ⟨he, hB⟩ => ⟨he.trans (by rw [if_neg hb]), hB⟩, fun v w hs => (rsum_any v cs w hs).mono fun e w' ⟨he, hB⟩ => ⟨he.trans (by rw [if_neg hb]), hB⟩⟩
theorem qt_back (cs : List (Int × Int)) : ∃ (bs : List (Int × Int)) (e : Int), bs.length ≤ cs.length ∧ (∀ v w, SrcC w v cs → Calls Try.prog 20 #[v] w fun x w' => ∃ a c, x = .returned (.tuple #[.slice a bs.length c, .int .i64 e]) ∧ OwnC w' w.heap.size 32 (.slice a bs.length c) bs ∧ Below w.heap.size w w') ∧
    (∀ v w, SrcC w v cs → Calls Try.prog 40 #[v] w fun x w' => ∃ a c, x = .returned (.tuple #[.slice a bs.length c, .int .i64 e]) ∧ SrcC w' (.slice a bs.length c) bs ∧ Below w.heap.size w w') := by
  by_cases hb : chkV cs = 0
  · refine ⟨backV cs, 0, by rw [backV_len]; exact Nat.le_refl _, fun v w hs => (back_yes v cs w hs hb).mono fun e w' ⟨v', he, ho, hB⟩ => ?_, fun v w hs => (rback_yes v cs w hs hb).mono fun e w' ⟨v', he, ho, hB⟩ => ?_⟩
    · obtain ⟨a, c, rfl⟩ := ho.src.shape
      exact ⟨a, c, he, ho, hB⟩
    · obtain ⟨a, c, rfl⟩ := ho.src.shape
      exact ⟨a, c, he, ho.src, hB⟩
  · exact ⟨[], chkV cs, Nat.zero_le _, fun v w hs => (back_no v cs w hs hb).mono fun e w' ⟨he, hB⟩ => ⟨none, 0, he, OwnC.nil _ _ _, hB⟩, fun v w hs => (rback_no v cs w hs hb).mono fun e w' ⟨he, hB⟩ => ⟨none, 0, he, .inl ⟨rfl, none, 0, rfl, fun _ => rfl⟩, hB⟩⟩
theorem lim_two (L U : Nat → Int) (k n : Int) : ∃ (X Y : Nat → Int) (e : Int), limR L U k n = .returned (.tuple #[v8 (X 0) (X 1) (X 2) (X 3) (Y 0) (Y 1) (Y 2) (Y 3), .int .i64 e]) := by
  unfold limR
  by_cases h1 : rightB L U = false
  · rw [if_pos h1]; exact ⟨zf, zf, 250, rfl⟩
  rw [if_neg h1]
  by_cases h2 : isB k = false
  · rw [if_pos h2]; exact ⟨zf, zf, 2, rfl⟩
  rw [if_neg h2]
  by_cases h3 : 0 ≤ n ∧ n < U k.toNat
  · rw [if_pos h3]; exact ⟨zf, zf, 252, rfl⟩
  rw [if_neg h3]
  by_cases h4 : rightB (upd L k.toNat n) U = true
  · rw [if_pos h4]; exact ⟨_, U, 0, rfl⟩
  rw [if_neg h4]; exact ⟨zf, zf, 250, rfl⟩
theorem qt_lim (L U : Nat → Int) (k n : Int) : ∃ (X Y : Nat → Int) (e : Int), (∀ w, Calls Try.prog 15 #[.agg (bk L U), .int .i64 k, .int .i64 n] w fun x w' => x = .returned (.tuple #[v8 (X 0) (X 1) (X 2) (X 3) (Y 0) (Y 1) (Y 2) (Y 3), .int .i64 e]) ∧ Below w.heap.size w w') ∧
    (∀ w, Calls Try.prog 43 #[.agg (bk L U), .int .i64 k, .int .i64 n] w fun x w' => x = .returned (.tuple #[v8 (X 0) (X 1) (X 2) (X 3) (Y 0) (Y 1) (Y 2) (Y 3), .int .i64 e]) ∧ Below w.heap.size w w') := by
  obtain ⟨X, Y, e, h⟩ := lim_two L U k n
  exact ⟨X, Y, e, fun w => (limit_any L U k n w).mono fun x w' ⟨he, hB⟩ => ⟨he.trans h, hB⟩, fun w => (rlimit_any L U k n w).mono fun x w' ⟨he, hB⟩ => ⟨he.trans h, hB⟩⟩
theorem qt_room (L U : Nat → Int) (k : Int) : ∃ (r e : Int), (∀ w, Calls Try.prog 16 #[.agg (bk L U), .int .i64 k] w fun x w' => x = .returned (.tuple #[.int .i64 r, .int .i64 e]) ∧ Below w.heap.size w w') ∧
    (∀ w, Calls Try.prog 42 #[.agg (bk L U), .int .i64 k] w fun x w' => x = .returned (.tuple #[.int .i64 r, .int .i64 e]) ∧ Below w.heap.size w w') :=
  ⟨_, _, fun w => room_any L U k w, fun w => rroom_any L U k w⟩
theorem own_set8 {w : World} {base e : Nat} {v : Value} {cs : List (Int × Int)} (h : OwnC w base e v cs) (g : Nat) (X Y : Nat → Int) (hg : g < base) : OwnC (set8 w g X Y) base e v cs :=
  h.set8 (g := g) (fun e => by have := (World.ownsRow.lt h g e).1; omega) X Y
theorem qt_theirs (v : Value) (cs : List (Int × Int)) (hl : cs.length ≤ 4096) (w : World) (hs : SrcC w v cs) : Calls Try.prog 32 #[v] w fun x w' => ∃ a c, x = .returned (.slice a cs.length c) ∧ (SrcC w' (.slice a cs.length c) cs ∧ ∀ g X Y, g < w.heap.size → SrcC (set8 w' g X Y) (.slice a cs.length c) cs) ∧ Below w.heap.size w w' :=
  (theirs_any v cs w hs hl).mono fun e w' ⟨v', he, ho, hB⟩ => by
    obtain ⟨a, c, rfl⟩ := ho.src.shape
    exact ⟨a, c, he, ⟨ho.src, fun g X Y hg => (own_set8 ho g X Y hg).src⟩, hB⟩
theorem set_bkL {W : World} {g : Nat} {t : TypeId} (C D : Nat → Int) (h : W.heap[g]? = some (.cells #[.int .i64 0, .int .i64 0, .int .i64 0, .int .i64 0, .int .i64 0, .int .i64 0, .int .i64 0, .int .i64 0] t (0, 0))) :
    (set8 W g C D).heap[g]? = some (.cells #[.int .i64 (C 0), .int .i64 (C 1), .int .i64 (C 2), .int .i64 (C 3), .int .i64 (D 0), .int .i64 (D 1), .int .i64 (D 2), .int .i64 (D 3)] t (0, 0)) := set_bkT C D h
theorem qt_clone (v : Value) (cs : List (Int × Int)) (hl : cs.length ≤ 4096) (w : World) (hs : SrcC w v cs) : Calls Try.prog 33 #[v] w fun x w' => ∃ a c, x = .returned (.slice a cs.length c) ∧ SrcC w' (.slice a cs.length c) cs ∧ Below w.heap.size w w' :=
  (clone_any v cs w hs (by omega)).mono fun e w' ⟨v', he, ho, hB⟩ => by
    obtain ⟨a, c, rfl⟩ := ho.src.shape
    exact ⟨a, c, he, ho.src, hB⟩
theorem qt_req (v1 v2 : Value) (cs : List (Int × Int)) (w : World) (h1 : SrcC w v1 cs) (h2 : SrcC w v2 cs) : Calls Try.prog 41 #[v1, v2] w fun e w' => e = .returned (.bool true) ∧ Below w.heap.size w w' :=
  (requal_any v1 v2 cs cs w h1 h2).mono fun e w' ⟨he, hB⟩ => ⟨he.trans (by rw [decide_eq_true rfl]), hB⟩
theorem qt_eq (v1 v2 : Value) (cs : List (Int × Int)) (w : World) (h1 : SrcC w v1 cs) (h2 : SrcC w v2 cs) : Calls Try.prog 26 #[v1, v2] w fun e w' => e = .returned (.bool true) ∧ Below w.heap.size w w' :=
  (equalC_any v1 v2 cs cs w h1 h2).mono fun e w' ⟨he, hB⟩ => ⟨he.trans (by rw [decide_eq_true rfl]), hB⟩
end Go.Proofs.Ytppfhcocmpmadaa
