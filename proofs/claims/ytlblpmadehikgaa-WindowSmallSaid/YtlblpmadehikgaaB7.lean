/- Plan and Count. -/
import Derived.Test.YtlblpmadehikgaaB6
namespace Go.Proofs.Ytlblpmadehikgaa
open Go.RowKit Go.Shelf
set_option linter.unusedVariables false

theorem two_new (w : World) (x y : Obj) : ((w.alloc x).alloc y).heap[w.heap.size + 1]? = some y := by
  have := World.alloc_heap_new (w.alloc x) y
  simpa using this
theorem push4 (w : World) (a b c d : Obj) :
    (∀ x, x < w.heap.size → ((((w.alloc a).alloc b).alloc c).alloc d).heap[x]? = w.heap[x]?) ∧ ((((w.alloc a).alloc b).alloc c).alloc d).heap[w.heap.size]? = some a ∧
    ((((w.alloc a).alloc b).alloc c).alloc d).heap[w.heap.size + 1]? = some b ∧ ((((w.alloc a).alloc b).alloc c).alloc d).heap[w.heap.size + 2]? = some c ∧ ((((w.alloc a).alloc b).alloc c).alloc d).heap[w.heap.size + 3]? = some d := by
  have e1 : ∀ (w : World) (o : Obj), (w.alloc o).heap = w.heap.push o := fun _ _ => rfl
  refine ⟨fun x hx => ?_, ?_, ?_, ?_, ?_⟩ <;> simp only [e1, Array.getElem?_push, Array.size_push]
  · rw [if_neg (by omega), if_neg (by omega), if_neg (by omega), if_neg (by omega)]
  · rw [if_neg (by omega), if_neg (by omega), if_neg (by omega), if_pos trivial]
  · rw [if_neg (by omega), if_neg (by omega), if_pos trivial]
  · rw [if_neg (by omega), if_pos trivial]
  · rw [if_pos trivial]

/-- Times in order. -/
def sortV (l : List Int) : List Int := l.mergeSort (fun a b => decide (a ≤ b))
theorem sort_pw (l : List Int) : (sortV l).Pairwise (· ≤ ·) := by
  have := List.pairwise_mergeSort (le := fun a b : Int => decide (a ≤ b)) (by intro a b c; simp; omega) (by intro a b; simp; omega) l
  exact this.imp (by simp)
theorem sort_perm (l : List Int) : l.Perm (sortV l) := (List.mergeSort_perm l _).symm
theorem sort_eq {l S : List Int} (h : S.Pairwise (· ≤ ·)) (hp : l.Perm S) : sortV l = S :=
  ((sort_perm l).symm.trans hp).eq_of_pairwise (fun a b _ _ h1 h2 => by omega) (sort_pw l) h
/-- The windows of some times. -/
def winsV (ah h : Int) (l : List Int) : List (Int × Int) := winsL ah h none (sortV l)
theorem wr_zero {l : List Int} {ah h : Int} (hz : wrE l ah h = 0) : l.length ≤ 4096 ∧ aheadB ah = true ∧ horB h = true ∧ ∀ t ∈ l, timeB t = true := by
  rw [wrE] at hz
  split at hz
  · cases hz
  · split at hz
    · rename_i h1 h2
      rw [Bool.and_eq_true, Bool.and_eq_true, List.all_eq_true] at h2
      exact ⟨by omega, h2.1.1, h2.1.2, h2.2⟩
    · cases hz
def plV (ah h : Int) (l : List Int) : List (Int × Int) := if wrE l ah h = 0 then winsV ah h l else []
theorem wr_cases (l : List Int) (ah h : Int) : wrE l ah h = 0 ∨ wrE l ah h = 2 ∨ wrE l ah h = 5 := by
  rw [wrE]; split
  · exact .inr (.inr rfl)
  · split
    · exact .inl rfl
    · exact .inr (.inl rfl)

set_option maxRecDepth 100000 in
set_option maxHeartbeats 1000000 in
theorem plan_any (v : Value) (l : List Int) (ah h : Int) (w : World) (hs : SrcI w v l) : Calls Try.prog 17 #[v, .int .i64 ah, .int .i64 h] w fun e w' =>
    ∃ v', e = .returned (.tuple #[v', .int .i64 (wrE l ah h)]) ∧ OwnC w' w.heap.size 28 v' (plV ah h l) ∧ Below w.heap.size w w' := by
  have HW := Hd.mk (wrong_any v l ah h w hs)
  have HS := Hd.mk hs
  obtain ⟨a, c, rfl⟩ := hs.shape
  clear hs
  rcases hz : decide (wrE l ah h = 0) with _ | _
  · have hz' : ¬ wrE l ah h = 0 := of_decide_eq_false hz
    have HP : Hd (plV ah h l = []) := ⟨by rw [plV, if_neg hz']⟩
    have hc := wr_cases l ah h
    obtain ⟨E, hE⟩ : ∃ E, wrE l ah h = E := ⟨_, rfl⟩
    rw [hE] at HW hz' hc ⊢
    have hzb : (E == 0) = false := beq_false_of_ne hz'
    clear hz hE hz'
    go_enter Try.func17, Try.ntmps17
    go_wp2_with fail
    refine HW.out.mono ?_
    rintro e w1 ⟨rfl, hB⟩
    have HB := Hd.mk hB
    clear hB
    rcases hc with h0 | h0 | h0
    · subst h0; cases hzb
    all_goals
      subst h0
      go_wp2_with fail
      go_ret2
      exact ⟨_, rfl, by rw [HP.out]; exact OwnC.nil _ _ _, HB.out⟩
  · have hz' : wrE l ah h = 0 := of_decide_eq_true hz
    have HP : Hd (plV ah h l = winsV ah h l) := ⟨by rw [plV, if_pos hz']⟩
    have HZ := Hd.mk (wr_zero hz')
    rw [hz'] at HW ⊢
    clear hz hz'
    go_enter Try.func17, Try.ntmps17
    go_wp2_with fail
    refine HW.out.mono ?_
    rintro e w1 ⟨rfl, hB⟩
    have HB := Hd.mk hB
    clear hB
    go_wp2_with fail
    refine (windows_any _ _ _ _ _ _).mono ?_
    rintro e w2 ⟨rfl, hw2⟩
    have HT : Hd (w2.heap[w1.heap.size]? = some (.cells #[.slice a l.length c] 24 (0, 0))) := ⟨by
      rw [hw2]; exact ((Below.heap_alloc _ _ _ (by simp; omega)).trans (Below.heap_alloc _ _ _ (by simp))).trans (World.alloc_heap_new _ _)⟩
    have HA : Hd (w2.heap[w1.heap.size + 1]? = some (.cells #[.int .i64 ah] 3 (0, 0))) := ⟨by
      rw [hw2]; exact (Below.heap_alloc _ _ _ (by simp)).trans (two_new w1 _ _)⟩
    have HH : Hd (w2.heap[w1.heap.size + 2]? = some (.cells #[.int .i64 h] 3 (0, 0))) := ⟨by
      rw [hw2]; have := World.alloc_heap_new ((w1.alloc (.cells #[.slice a l.length c] 24)).alloc (.cells #[.int .i64 ah] 3)) (.cells #[.int .i64 h] 3); simpa using this⟩
    have HB2 : Hd (Below w1.heap.size w1 w2) := ⟨by rw [hw2]; exact bl_alloc (bl_alloc (bl_alloc (Below.refl _ _)))⟩
    clear hw2
    go_wp2_with fail
    refine (collect_wins w1.heap.size (w1.heap.size + 2) (w1.heap.size + 1) a c l (sortV l) ah h w2 HT.out HH.out HA.out ((HS.out.below HB.out).below HB2.out) (by have := HZ.out.1; omega) (sort_pw l) (sort_perm l) HZ.out.2.1 HZ.out.2.2.1
      (fun t ht => HZ.out.2.2.2 t ((sort_perm l).mem_iff.2 ht))).mono ?_
    rintro e w3 ⟨v', rfl, hO, hB3⟩
    have HO := Hd.mk (hO.lower (Nat.le_trans HB.out.size HB2.out.size))
    have HB3 := Hd.mk (ch4 (ch4 HB.out HB2.out) hB3)
    clear hO hB3
    go_wp2_with fail
    go_ret2
    exact ⟨_, rfl, by rw [HP.out]; exact HO.out, HB3.out⟩
theorem count_any (v : Value) (l : List Int) (ah h : Int) (w : World) (hs : SrcI w v l) : Calls Try.prog 18 #[v, .int .i64 ah, .int .i64 h] w fun e w' =>
    e = .returned (.tuple #[.int .i64 ((plV ah h l).length : Int), .int .i64 (wrE l ah h)]) ∧ Below w.heap.size w w' := by
  have HX := Hd.mk (plan_any v l ah h w hs)
  obtain ⟨E, hE⟩ : ∃ E, wrE l ah h = E := ⟨_, rfl⟩
  rw [hE] at HX ⊢
  clear hs hE
  go_enter Try.func18, Try.ntmps18
  go_wp2_with fail
  refine HX.out.mono ?_
  rintro e w1 ⟨v', rfl, hO, hB⟩
  obtain ⟨a, c, rfl⟩ := hO.shape
  have HB := Hd.mk hB
  clear hB hO HX
  go_wp2_with fail
  go_ret2
  exact ⟨rfl, HB.out⟩
end Go.Proofs.Ytlblpmadehikgaa
