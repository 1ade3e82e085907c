/- Windows: time, aheads, Right, In, After, and the same of the reference. -/
import Derived.Test.YtlblpmadehikgaaA1
namespace Go.Proofs.Ytlblpmadehikgaa
open Go.RowKit
set_option linter.unusedVariables false

/-- No time is greater. -/
def tMax : Int := 281474976710656
def timeB (t : Int) : Bool := decide (0 ≤ t) && decide (t ≤ 281474976710656)
def horB (t : Int) : Bool := decide (0 ≤ t) && decide (t ≤ 281474976710657)
def aheadB (t : Int) : Bool := decide (1 ≤ t) && decide (t ≤ 1099511627776)
def rightW (a b : Int) : Bool := timeB a && decide (a < b) && decide (b ≤ 281474976710657)
def inW (a b t : Int) : Bool := rightW a b && timeB t && decide (a ≤ t) && decide (t < b)
def afterW (a b t : Int) : Bool := rightW a b && timeB t && decide (b ≤ t)

theorem time_any (t : Int) (w : World) : Calls Try.prog 34 #[.int .i64 t] w fun e w' => e = .returned (.bool (timeB t)) ∧ w = w' := by
  by_cases h0 : 0 ≤ t
  · by_cases h1 : t ≤ 281474976710656
    · have HE : Hd (timeB t = true) := ⟨by rw [timeB, decide_eq_true h0, decide_eq_true h1]; rfl⟩
      go_enter Try.func34, Try.ntmps34
      go_wp2_with fail
      go_ret
      exact ⟨by rw [HE.out]; rfl, rfl⟩
    · have HE : Hd (timeB t = false) := ⟨by rw [timeB, decide_eq_false h1, Bool.and_false]⟩
      have h2 : 281474976710656 < t := by omega
      go_enter Try.func34, Try.ntmps34
      go_wp2_with fail
      go_ret
      exact ⟨by rw [HE.out]; rfl, rfl⟩
  · have HE : Hd (timeB t = false) := ⟨by rw [timeB, decide_eq_false h0, Bool.false_and]⟩
    have h2 : t < 0 := by omega
    go_enter Try.func34, Try.ntmps34
    go_wp2_with fail
    go_ret
    exact ⟨by rw [HE.out]; rfl, rfl⟩
theorem time_at {t : Int} {b : Bool} (h : timeB t = b) {w : World} : Calls Try.prog 34 #[.int .i64 t] w fun e w' => e = .returned (.bool b) ∧ Below w.heap.size w w' := by
  refine (time_any t w).mono ?_
  rintro e w' ⟨rfl, rfl⟩
  rw [h]; exact ⟨rfl, Below.refl _ _⟩

theorem aheads_any (t : Int) (w : World) : Calls Try.prog 33 #[.int .i64 t] w fun e w' => e = .returned (.bool (aheadB t)) ∧ w = w' := by
  by_cases h0 : 1 ≤ t
  · by_cases h1 : t ≤ 1099511627776
    · have HE : Hd (aheadB t = true) := ⟨by rw [aheadB, decide_eq_true h0, decide_eq_true h1]; rfl⟩
      go_enter Try.func33, Try.ntmps33
      go_wp2_with fail
      go_ret
      exact ⟨by rw [HE.out]; rfl, rfl⟩
    · have HE : Hd (aheadB t = false) := ⟨by rw [aheadB, decide_eq_false h1, Bool.and_false]⟩
      have h2 : 1099511627776 < t := by omega
      go_enter Try.func33, Try.ntmps33
      go_wp2_with fail
      go_ret
      exact ⟨by rw [HE.out]; rfl, rfl⟩
  · have HE : Hd (aheadB t = false) := ⟨by rw [aheadB, decide_eq_false h0, Bool.false_and]⟩
    have h2 : t < 1 := by omega
    go_enter Try.func33, Try.ntmps33
    go_wp2_with fail
    go_ret
    exact ⟨by rw [HE.out]; rfl, rfl⟩
theorem aheads_at {t : Int} {b : Bool} (h : aheadB t = b) {w : World} : Calls Try.prog 33 #[.int .i64 t] w fun e w' => e = .returned (.bool b) ∧ Below w.heap.size w w' := by
  refine (aheads_any t w).mono ?_
  rintro e w' ⟨rfl, rfl⟩
  rw [h]; exact ⟨rfl, Below.refl _ _⟩

theorem rtime_any (t : Int) (w : World) : Calls Try.prog 52 #[.int .i64 t] w fun e w' => e = .returned (.bool (timeB t)) ∧ w = w' := by
  by_cases h0 : 0 ≤ t
  · by_cases h1 : t ≤ 281474976710656
    · have HE : Hd (timeB t = true) := ⟨by rw [timeB, decide_eq_true h0, decide_eq_true h1]; rfl⟩
      go_enter Try.func52, Try.ntmps52
      go_wp2_with fail
      go_ret
      exact ⟨by rw [HE.out]; rfl, rfl⟩
    · have HE : Hd (timeB t = false) := ⟨by rw [timeB, decide_eq_false h1, Bool.and_false]⟩
      have h2 : 281474976710656 < t := by omega
      go_enter Try.func52, Try.ntmps52
      go_wp2_with fail
      go_ret
      exact ⟨by rw [HE.out]; rfl, rfl⟩
  · have HE : Hd (timeB t = false) := ⟨by rw [timeB, decide_eq_false h0, Bool.false_and]⟩
    have h2 : t < 0 := by omega
    go_enter Try.func52, Try.ntmps52
    go_wp2_with fail
    go_ret
    exact ⟨by rw [HE.out]; rfl, rfl⟩
theorem rtime_at {t : Int} {b : Bool} (h : timeB t = b) {w : World} : Calls Try.prog 52 #[.int .i64 t] w fun e w' => e = .returned (.bool b) ∧ Below w.heap.size w w' := by
  refine (rtime_any t w).mono ?_
  rintro e w' ⟨rfl, rfl⟩
  rw [h]; exact ⟨rfl, Below.refl _ _⟩

theorem rahead_any (t : Int) (w : World) : Calls Try.prog 51 #[.int .i64 t] w fun e w' => e = .returned (.bool (aheadB t)) ∧ w = w' := by
  by_cases h0 : 1 ≤ t
  · by_cases h1 : t ≤ 1099511627776
    · have HE : Hd (aheadB t = true) := ⟨by rw [aheadB, decide_eq_true h0, decide_eq_true h1]; rfl⟩
      go_enter Try.func51, Try.ntmps51
      go_wp2_with fail
      go_ret
      exact ⟨by rw [HE.out]; rfl, rfl⟩
    · have HE : Hd (aheadB t = false) := ⟨by rw [aheadB, decide_eq_false h1, Bool.and_false]⟩
      have h2 : 1099511627776 < t := by omega
      go_enter Try.func51, Try.ntmps51
      go_wp2_with fail
      go_ret
      exact ⟨by rw [HE.out]; rfl, rfl⟩
  · have HE : Hd (aheadB t = false) := ⟨by rw [aheadB, decide_eq_false h0, Bool.false_and]⟩
    have h2 : t < 1 := by omega
    go_enter Try.func51, Try.ntmps51
    go_wp2_with fail
    go_ret
    exact ⟨by rw [HE.out]; rfl, rfl⟩
theorem rahead_at {t : Int} {b : Bool} (h : aheadB t = b) {w : World} : Calls Try.prog 51 #[.int .i64 t] w fun e w' => e = .returned (.bool b) ∧ Below w.heap.size w w' := by
  refine (rahead_any t w).mono ?_
  rintro e w' ⟨rfl, rfl⟩
  rw [h]; exact ⟨rfl, Below.refl _ _⟩

theorem rhor_any (t : Int) (w : World) : Calls Try.prog 53 #[.int .i64 t] w fun e w' => e = .returned (.bool (horB t)) ∧ w = w' := by
  by_cases h0 : 0 ≤ t
  · by_cases h1 : t ≤ 281474976710657
    · have HE : Hd (horB t = true) := ⟨by rw [horB, decide_eq_true h0, decide_eq_true h1]; rfl⟩
      go_enter Try.func53, Try.ntmps53
      go_wp2_with fail
      go_ret
      exact ⟨by rw [HE.out]; rfl, rfl⟩
    · have HE : Hd (horB t = false) := ⟨by rw [horB, decide_eq_false h1, Bool.and_false]⟩
      have h2 : 281474976710657 < t := by omega
      go_enter Try.func53, Try.ntmps53
      go_wp2_with fail
      go_ret
      exact ⟨by rw [HE.out]; rfl, rfl⟩
  · have HE : Hd (horB t = false) := ⟨by rw [horB, decide_eq_false h0, Bool.false_and]⟩
    have h2 : t < 0 := by omega
    go_enter Try.func53, Try.ntmps53
    go_wp2_with fail
    go_ret
    exact ⟨by rw [HE.out]; rfl, rfl⟩
theorem rhor_at {t : Int} {b : Bool} (h : horB t = b) {w : World} : Calls Try.prog 53 #[.int .i64 t] w fun e w' => e = .returned (.bool b) ∧ Below w.heap.size w w' := by
  refine (rhor_any t w).mono ?_
  rintro e w' ⟨rfl, rfl⟩
  rw [h]; exact ⟨rfl, Below.refl _ _⟩

theorem box_cells {w w1 : World} {a b : Int} {t : TypeId} (hB : Below (w.alloc (.cells #[.int .i64 a, .int .i64 b] t)).heap.size (w.alloc (.cells #[.int .i64 a, .int .i64 b] t)) w1) :
    w1.cell? ⟨w.heap.size, 0, none⟩ = some (.int .i64 a) ∧ w1.cell? ⟨w.heap.size, 1, none⟩ = some (.int .i64 b) := by
  have h := World.alloc_heap_new w (.cells #[.int .i64 a, .int .i64 b] t)
  exact ⟨(hB.cell (p := ⟨w.heap.size, 0, none⟩) (by simp)).trans (cells_cell h 0), (hB.cell (p := ⟨w.heap.size, 1, none⟩) (by simp)).trans (cells_cell h 1)⟩
theorem bl_alloc {B W : World} {o : Obj} (h : Below B.heap.size B W) : Below B.heap.size B (W.alloc o) := h.alloc h.size _
theorem bl_drew {B W : World} (h : Below B.heap.size B W) : Below B.heap.size B W.drew := below_drewN h 1

set_option maxRecDepth 100000 in
set_option maxHeartbeats 1000000 in
theorem right_any (a b : Int) (w : World) : Calls Try.prog 25 #[.agg #[.int .i64 a, .int .i64 b]] w fun e w' => e = .returned (.bool (rightW a b)) ∧ Below w.heap.size w w' := by
  rcases ht : timeB a with _ | _
  · have HE : Hd (rightW a b = false) := ⟨by rw [rightW, ht]; rfl⟩
    have HT := Hd.mk ht
    clear ht
    go_enter Try.func25, Try.ntmps25
    go_wp2_with fail
    refine (time_any _ _).mono ?_
    rintro e w1 ⟨rfl, rfl⟩
    rw [HT.out]
    go_wp2_with fail
    go_ret
    exact ⟨by rw [HE.out]; first | rfl | (simp; done) | (simp; omega), bl_alloc (Below.refl _ _)⟩
  · have HT := Hd.mk ht
    by_cases h1 : a < b
    · by_cases h2 : b ≤ 281474976710657
      · have HE : Hd (rightW a b = true) := ⟨by rw [rightW, ht, decide_eq_true h1, decide_eq_true h2]; rfl⟩
        clear ht
        go_enter Try.func25, Try.ntmps25
        go_wp2_with fail
        refine (time_any _ _).mono ?_
        rintro e w1 ⟨rfl, rfl⟩
        rw [HT.out]
        go_wp2_with fail
        go_ret
        exact ⟨by rw [HE.out]; first | rfl | (simp; done) | (simp; omega), bl_alloc (Below.refl _ _)⟩
      · have HE : Hd (rightW a b = false) := ⟨by rw [rightW, decide_eq_false h2, Bool.and_false]⟩
        have h3 : 281474976710657 < b := by omega
        clear ht
        go_enter Try.func25, Try.ntmps25
        go_wp2_with fail
        refine (time_any _ _).mono ?_
        rintro e w1 ⟨rfl, rfl⟩
        rw [HT.out]
        go_wp2_with fail
        go_ret
        exact ⟨by rw [HE.out]; first | rfl | (simp; done) | (simp; omega), bl_alloc (Below.refl _ _)⟩
    · have HE : Hd (rightW a b = false) := ⟨by rw [rightW, decide_eq_false h1, Bool.and_false, Bool.false_and]⟩
      have h3 : b ≤ a := by omega
      clear ht
      go_enter Try.func25, Try.ntmps25
      go_wp2_with fail
      refine (time_any _ _).mono ?_
      rintro e w1 ⟨rfl, rfl⟩
      rw [HT.out]
      go_wp2_with fail
      go_ret
      exact ⟨by rw [HE.out]; first | rfl | (simp; done) | (simp; omega), bl_alloc (Below.refl _ _)⟩

set_option maxRecDepth 100000 in
set_option maxHeartbeats 1000000 in
theorem rright_any (a b : Int) (w : World) : Calls Try.prog 38 #[.agg #[.int .i64 a, .int .i64 b]] w fun e w' => e = .returned (.bool (rightW a b)) ∧ Below w.heap.size w w' := by
  rcases ht : timeB a with _ | _
  · have HE : Hd (rightW a b = false) := ⟨by rw [rightW, ht]; rfl⟩
    have HT := Hd.mk ht
    clear ht
    go_enter Try.func38, Try.ntmps38
    go_wp2_with fail
    refine (rtime_any _ _).mono ?_
    rintro e w1 ⟨rfl, rfl⟩
    rw [HT.out]
    go_wp2_with fail
    go_ret
    exact ⟨by rw [HE.out]; first | rfl | (simp; done) | (simp; omega), bl_alloc (Below.refl _ _)⟩
  · have HT := Hd.mk ht
    by_cases h1 : a < b
    · have HE : Hd (rightW a b = horB b) := ⟨by
        have : 0 ≤ b := by have := ht; rw [timeB, Bool.and_eq_true] at this; have := of_decide_eq_true this.1; omega
        rw [rightW, ht, decide_eq_true h1, horB, decide_eq_true this]; simp⟩
      clear ht
      go_enter Try.func38, Try.ntmps38
      go_wp2_with fail
      refine (rtime_any _ _).mono ?_
      rintro e w1 ⟨rfl, rfl⟩
      rw [HT.out]
      go_wp2_with fail
      refine (rhor_any _ _).mono ?_
      rintro e w1 ⟨rfl, rfl⟩
      obtain ⟨hb, hhb⟩ : ∃ x, horB b = x := ⟨_, rfl⟩
      rw [hhb] at HE ⊢
      clear hhb
      go_wp2_with fail
      go_ret
      exact ⟨by rw [HE.out]; first | rfl | (simp; done) | (simp; omega), bl_alloc (Below.refl _ _)⟩
    · have HE : Hd (rightW a b = false) := ⟨by rw [rightW, decide_eq_false h1, Bool.and_false, Bool.false_and]⟩
      have h3 : b ≤ a := by omega
      clear ht
      go_enter Try.func38, Try.ntmps38
      go_wp2_with fail
      refine (rtime_any _ _).mono ?_
      rintro e w1 ⟨rfl, rfl⟩
      rw [HT.out]
      go_wp2_with fail
      go_ret
      exact ⟨by rw [HE.out]; first | rfl | (simp; done) | (simp; omega), bl_alloc (Below.refl _ _)⟩

set_option maxRecDepth 100000 in
set_option maxHeartbeats 2000000 in
theorem in_any (a b t : Int) (w : World) : Calls Try.prog 16 #[.agg #[.int .i64 a, .int .i64 b], .int .i64 t] w fun e w' => e = .returned (.bool (inW a b t)) ∧ Below w.heap.size w w' := by
  obtain ⟨rw0, hrw⟩ : ∃ x, rightW a b = x := ⟨_, rfl⟩
  obtain ⟨tb0, htb⟩ : ∃ x, timeB t = x := ⟨_, rfl⟩
  have HR := Hd.mk hrw
  have HT := Hd.mk htb
  have HE : Hd (inW a b t = (rw0 && tb0 && decide (a ≤ t) && decide (t < b))) := ⟨by rw [inW, hrw, htb]⟩
  clear hrw htb
  cases rw0
  · go_enter Try.func16, Try.ntmps16
    go_wp2_with fail
    refine (right_any _ _ _).mono ?_
    rintro e w1 ⟨rfl, hB⟩
    rw [HR.out]
    obtain ⟨hx, hy⟩ := box_cells hB
    have HB := Hd.mk (ch4 (bl_alloc (Below.refl _ _)) hB)
    clear hB
    go_wp2_with fail
    go_ret
    exact ⟨by rw [HE.out]; first | (simp; done) | (simp; omega), HB.out⟩
  cases tb0
  · go_enter Try.func16, Try.ntmps16
    go_wp2_with fail
    refine (right_any _ _ _).mono ?_
    rintro e w1 ⟨rfl, hB⟩
    rw [HR.out]
    obtain ⟨hx, hy⟩ := box_cells hB
    have HB := Hd.mk (ch4 (bl_alloc (Below.refl _ _)) hB)
    clear hB
    go_wp2_with fail
    refine (time_any _ _).mono ?_
    rintro e w2 ⟨rfl, rfl⟩
    rw [HT.out]
    go_wp2_with fail
    go_ret
    exact ⟨by rw [HE.out]; first | (simp; done) | (simp; omega), HB.out⟩
  by_cases h1 : a ≤ t
  · by_cases h2 : t < b
    · go_enter Try.func16, Try.ntmps16
      go_wp2_with fail
      refine (right_any _ _ _).mono ?_
      rintro e w1 ⟨rfl, hB⟩
      rw [HR.out]
      obtain ⟨hx, hy⟩ := box_cells hB
      have HB := Hd.mk (ch4 (bl_alloc (Below.refl _ _)) hB)
      clear hB
      go_wp2_with fail
      refine (time_any _ _).mono ?_
      rintro e w2 ⟨rfl, rfl⟩
      rw [HT.out]
      go_wp2_with fail
      go_ret
      exact ⟨by rw [HE.out]; first | (simp; done) | (simp; omega), HB.out⟩
    have h3 : b ≤ t := by omega
    go_enter Try.func16, Try.ntmps16
    go_wp2_with fail
    refine (right_any _ _ _).mono ?_
    rintro e w1 ⟨rfl, hB⟩
    rw [HR.out]
    obtain ⟨hx, hy⟩ := box_cells hB
    have HB := Hd.mk (ch4 (bl_alloc (Below.refl _ _)) hB)
    clear hB
    go_wp2_with fail
    refine (time_any _ _).mono ?_
    rintro e w2 ⟨rfl, rfl⟩
    rw [HT.out]
    go_wp2_with fail
    go_ret
    exact ⟨by rw [HE.out]; first | (simp; done) | (simp; omega), HB.out⟩
  have h2 : t < a := by omega
  go_enter Try.func16, Try.ntmps16
  go_wp2_with fail
  refine (right_any _ _ _).mono ?_
  rintro e w1 ⟨rfl, hB⟩
  rw [HR.out]
  obtain ⟨hx, hy⟩ := box_cells hB
  have HB := Hd.mk (ch4 (bl_alloc (Below.refl _ _)) hB)
  clear hB
  go_wp2_with fail
  refine (time_any _ _).mono ?_
  rintro e w2 ⟨rfl, rfl⟩
  rw [HT.out]
  go_wp2_with fail
  go_ret
  exact ⟨by rw [HE.out]; first | (simp; done) | (simp; omega), HB.out⟩

set_option maxRecDepth 100000 in
set_option maxHeartbeats 2000000 in
theorem after_any (a b t : Int) (w : World) : Calls Try.prog 26 #[.agg #[.int .i64 a, .int .i64 b], .int .i64 t] w fun e w' => e = .returned (.bool (afterW a b t)) ∧ Below w.heap.size w w' := by
  obtain ⟨rw0, hrw⟩ : ∃ x, rightW a b = x := ⟨_, rfl⟩
  obtain ⟨tb0, htb⟩ : ∃ x, timeB t = x := ⟨_, rfl⟩
  have HR := Hd.mk hrw
  have HT := Hd.mk htb
  have HE : Hd (afterW a b t = (rw0 && tb0 && decide (b ≤ t))) := ⟨by rw [afterW, hrw, htb]⟩
  clear hrw htb
  cases rw0
  · go_enter Try.func26, Try.ntmps26
    go_wp2_with fail
    refine (right_any _ _ _).mono ?_
    rintro e w1 ⟨rfl, hB⟩
    rw [HR.out]
    obtain ⟨hx, hy⟩ := box_cells hB
    have HB := Hd.mk (ch4 (bl_alloc (Below.refl _ _)) hB)
    clear hB
    go_wp2_with fail
    go_ret
    exact ⟨by rw [HE.out]; first | (simp; done) | (simp; omega), HB.out⟩
  cases tb0
  · go_enter Try.func26, Try.ntmps26
    go_wp2_with fail
    refine (right_any _ _ _).mono ?_
    rintro e w1 ⟨rfl, hB⟩
    rw [HR.out]
    obtain ⟨hx, hy⟩ := box_cells hB
    have HB := Hd.mk (ch4 (bl_alloc (Below.refl _ _)) hB)
    clear hB
    go_wp2_with fail
    refine (time_any _ _).mono ?_
    rintro e w2 ⟨rfl, rfl⟩
    rw [HT.out]
    go_wp2_with fail
    go_ret
    exact ⟨by rw [HE.out]; first | (simp; done) | (simp; omega), HB.out⟩
  by_cases h1 : b ≤ t
  · go_enter Try.func26, Try.ntmps26
    go_wp2_with fail
    refine (right_any _ _ _).mono ?_
    rintro e w1 ⟨rfl, hB⟩
    rw [HR.out]
    obtain ⟨hx, hy⟩ := box_cells hB
    have HB := Hd.mk (ch4 (bl_alloc (Below.refl _ _)) hB)
    clear hB
    go_wp2_with fail
    refine (time_any _ _).mono ?_
    rintro e w2 ⟨rfl, rfl⟩
    rw [HT.out]
    go_wp2_with fail
    go_ret
    exact ⟨by rw [HE.out]; first | (simp; done) | (simp; omega), HB.out⟩
  have h2 : t < b := by omega
  go_enter Try.func26, Try.ntmps26
  go_wp2_with fail
  refine (right_any _ _ _).mono ?_
  rintro e w1 ⟨rfl, hB⟩
  rw [HR.out]
  obtain ⟨hx, hy⟩ := box_cells hB
  have HB := Hd.mk (ch4 (bl_alloc (Below.refl _ _)) hB)
  clear hB
  go_wp2_with fail
  refine (time_any _ _).mono ?_
  rintro e w2 ⟨rfl, rfl⟩
  rw [HT.out]
  go_wp2_with fail
  go_ret
  exact ⟨by rw [HE.out]; first | (simp; done) | (simp; omega), HB.out⟩

set_option maxRecDepth 100000 in
set_option maxHeartbeats 2000000 in
theorem rin_any (a b t : Int) (w : World) : Calls Try.prog 39 #[.agg #[.int .i64 a, .int .i64 b], .int .i64 t] w fun e w' => e = .returned (.bool (inW a b t)) ∧ Below w.heap.size w w' := by
  obtain ⟨rw0, hrw⟩ : ∃ x, rightW a b = x := ⟨_, rfl⟩
  obtain ⟨tb0, htb⟩ : ∃ x, timeB t = x := ⟨_, rfl⟩
  have HR := Hd.mk hrw
  have HT := Hd.mk htb
  have HE : Hd (inW a b t = (rw0 && tb0 && decide (a ≤ t) && decide (t < b))) := ⟨by rw [inW, hrw, htb]⟩
  clear hrw htb
  cases rw0
  · go_enter Try.func39, Try.ntmps39
    go_wp2_with fail
    refine (rright_any _ _ _).mono ?_
    rintro e w1 ⟨rfl, hB⟩
    rw [HR.out]
    obtain ⟨hx, hy⟩ := box_cells hB
    have HB := Hd.mk (ch4 (bl_alloc (Below.refl _ _)) hB)
    clear hB
    go_wp2_with fail
    go_ret
    exact ⟨by rw [HE.out]; first | (simp; done) | (simp; omega), HB.out⟩
  cases tb0
  · go_enter Try.func39, Try.ntmps39
    go_wp2_with fail
    refine (rright_any _ _ _).mono ?_
    rintro e w1 ⟨rfl, hB⟩
    rw [HR.out]
    obtain ⟨hx, hy⟩ := box_cells hB
    have HB := Hd.mk (ch4 (bl_alloc (Below.refl _ _)) hB)
    clear hB
    go_wp2_with fail
    refine (rtime_any _ _).mono ?_
    rintro e w2 ⟨rfl, rfl⟩
    rw [HT.out]
    go_wp2_with fail
    go_ret
    exact ⟨by rw [HE.out]; first | (simp; done) | (simp; omega), HB.out⟩
  by_cases h1 : a ≤ t
  · by_cases h2 : t < b
    · go_enter Try.func39, Try.ntmps39
      go_wp2_with fail
      refine (rright_any _ _ _).mono ?_
      rintro e w1 ⟨rfl, hB⟩
      rw [HR.out]
      obtain ⟨hx, hy⟩ := box_cells hB
      have HB := Hd.mk (ch4 (bl_alloc (Below.refl _ _)) hB)
      clear hB
      go_wp2_with fail
      refine (rtime_any _ _).mono ?_
      rintro e w2 ⟨rfl, rfl⟩
      rw [HT.out]
      go_wp2_with fail
      go_ret
      exact ⟨by rw [HE.out]; first | (simp; done) | (simp; omega), HB.out⟩
    have h3 : b ≤ t := by omega
    go_enter Try.func39, Try.ntmps39
    go_wp2_with fail
    refine (rright_any _ _ _).mono ?_
    rintro e w1 ⟨rfl, hB⟩
    rw [HR.out]
    obtain ⟨hx, hy⟩ := box_cells hB
    have HB := Hd.mk (ch4 (bl_alloc (Below.refl _ _)) hB)
    clear hB
    go_wp2_with fail
    refine (rtime_any _ _).mono ?_
    rintro e w2 ⟨rfl, rfl⟩
    rw [HT.out]
    go_wp2_with fail
    go_ret
    exact ⟨by rw [HE.out]; first | (simp; done) | (simp; omega), HB.out⟩
  have h2 : t < a := by omega
  go_enter Try.func39, Try.ntmps39
  go_wp2_with fail
  refine (rright_any _ _ _).mono ?_
  rintro e w1 ⟨rfl, hB⟩
  rw [HR.out]
  obtain ⟨hx, hy⟩ := box_cells hB
  have HB := Hd.mk (ch4 (bl_alloc (Below.refl _ _)) hB)
  clear hB
  go_wp2_with fail
  refine (rtime_any _ _).mono ?_
  rintro e w2 ⟨rfl, rfl⟩
  rw [HT.out]
  go_wp2_with fail
  go_ret
  exact ⟨by rw [HE.out]; first | (simp; done) | (simp; omega), HB.out⟩

set_option maxRecDepth 100000 in
set_option maxHeartbeats 2000000 in
theorem rafter_any (a b t : Int) (w : World) : Calls Try.prog 40 #[.agg #[.int .i64 a, .int .i64 b], .int .i64 t] w fun e w' => e = .returned (.bool (afterW a b t)) ∧ Below w.heap.size w w' := by
  obtain ⟨rw0, hrw⟩ : ∃ x, rightW a b = x := ⟨_, rfl⟩
  obtain ⟨tb0, htb⟩ : ∃ x, timeB t = x := ⟨_, rfl⟩
  have HR := Hd.mk hrw
  have HT := Hd.mk htb
  have HE : Hd (afterW a b t = (rw0 && tb0 && decide (b ≤ t))) := ⟨by rw [afterW, hrw, htb]⟩
  clear hrw htb
  cases rw0
  · go_enter Try.func40, Try.ntmps40
    go_wp2_with fail
    refine (rright_any _ _ _).mono ?_
    rintro e w1 ⟨rfl, hB⟩
    rw [HR.out]
    obtain ⟨hx, hy⟩ := box_cells hB
    have HB := Hd.mk (ch4 (bl_alloc (Below.refl _ _)) hB)
    clear hB
    go_wp2_with fail
    go_ret
    exact ⟨by rw [HE.out]; first | (simp; done) | (simp; omega), HB.out⟩
  cases tb0
  · go_enter Try.func40, Try.ntmps40
    go_wp2_with fail
    refine (rright_any _ _ _).mono ?_
    rintro e w1 ⟨rfl, hB⟩
    rw [HR.out]
    obtain ⟨hx, hy⟩ := box_cells hB
    have HB := Hd.mk (ch4 (bl_alloc (Below.refl _ _)) hB)
    clear hB
    go_wp2_with fail
    refine (rtime_any _ _).mono ?_
    rintro e w2 ⟨rfl, rfl⟩
    rw [HT.out]
    go_wp2_with fail
    go_ret
    exact ⟨by rw [HE.out]; first | (simp; done) | (simp; omega), HB.out⟩
  by_cases h1 : b ≤ t
  · go_enter Try.func40, Try.ntmps40
    go_wp2_with fail
    refine (rright_any _ _ _).mono ?_
    rintro e w1 ⟨rfl, hB⟩
    rw [HR.out]
    obtain ⟨hx, hy⟩ := box_cells hB
    have HB := Hd.mk (ch4 (bl_alloc (Below.refl _ _)) hB)
    clear hB
    go_wp2_with fail
    refine (rtime_any _ _).mono ?_
    rintro e w2 ⟨rfl, rfl⟩
    rw [HT.out]
    go_wp2_with fail
    go_ret
    exact ⟨by rw [HE.out]; first | (simp; done) | (simp; omega), HB.out⟩
  have h2 : t < b := by omega
  go_enter Try.func40, Try.ntmps40
  go_wp2_with fail
  refine (rright_any _ _ _).mono ?_
  rintro e w1 ⟨rfl, hB⟩
  rw [HR.out]
  obtain ⟨hx, hy⟩ := box_cells hB
  have HB := Hd.mk (ch4 (bl_alloc (Below.refl _ _)) hB)
  clear hB
  go_wp2_with fail
  refine (rtime_any _ _).mono ?_
  rintro e w2 ⟨rfl, rfl⟩
  rw [HT.out]
  go_wp2_with fail
  go_ret
  exact ⟨by rw [HE.out]; first | (simp; done) | (simp; omega), HB.out⟩

end Go.Proofs.Ytlblpmadehikgaa
