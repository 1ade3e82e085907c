/- Walks of quota.Room, New, Name. -/
import Derived.Test.YtppfhcocmpmadaaB2
namespace Go.Proofs.Ytppfhcocmpmadaa
open Go.RowKit
set_option linter.unusedVariables false

def roomV (L U : Nat → Int) (k : Int) : Int × Int := if rightB L U = true then (if isB k = true then (L k.toNat - U k.toNat, 0) else (0, 2)) else (0, 250)

set_option maxRecDepth 100000 in
set_option maxHeartbeats 1000000 in
theorem room_any (L U : Nat → Int) (k : Int) (w : World) : Calls Try.prog 16 #[.agg (bk L U), .int .i64 k] w fun e w' => e = .returned (.tuple #[.int .i64 (roomV L U k).1, .int .i64 (roomV L U k).2]) ∧ Below w.heap.size w w' := by
  have HB0 : Hd (Below w.heap.size w (w.alloc (.cells (bk L U) 27))) := ⟨(Below.refl _ _).alloc (Nat.le_refl _) _⟩
  go_enter Try.func16, Try.ntmps16
  go_wp2_with (refine wpList_load_row rfl 27 _ rfl _ rfl 27 (bk L U) (0, 0) _ (World.alloc_heap_new w _) Try.underlying27 rfl (by kernel_rfl) ?_)
  refine (right_any L U _).mono ?_
  rintro e w1 ⟨rfl, hB⟩
  have HB := Hd.mk (ch4 HB0.out hB)
  have hb := (hB.block w.heap.size (by simp)).trans (World.alloc_heap_new w (.cells (bk L U) 27))
  have HBK := Hd.mk hb
  clear hB HB0 hb
  cases hr : rightB L U
  · have HE : Hd (roomV L U k = (0, 250)) := ⟨by rw [roomV, hr]; rfl⟩
    clear hr
    go_wp2_with fail
    go_ret2
    exact ⟨by rw [HE.out]; rfl, HB.out⟩
  · have HRT := Hd.mk (right_iff.1 hr)
    cases hk : isB k
    · have HE : Hd (roomV L U k = (0, 2)) := ⟨by rw [roomV, hr, hk]; rfl⟩
      have HKK := Hd.mk hk
      clear hr hk
      go_wp2_with fail
      refine (is_any k _).mono ?_
      rintro e w2 ⟨rfl, rfl⟩
      rw [HKK.out]
      go_wp2_with fail
      go_ret2
      exact ⟨by rw [HE.out]; rfl, HB.out⟩
    · have HE : Hd (roomV L U k = (L k.toNat - U k.toNat, 0)) := ⟨by rw [roomV, hr, hk]; rfl⟩
      have HKK := Hd.mk hk
      have hk4 := (isB_iff k).1 hk
      obtain ⟨j, rfl⟩ : ∃ j : Nat, k = j := ⟨k.toNat, by omega⟩
      rw [Int.toNat_natCast] at HE
      have hj : j < 4 := by omega
      have i0 : (0 : Int) ≤ (j : Int) := by omega
      have i1 : (j : Int) < 4 := by omega
      have hl := (cells_cell HBK.out j).trans (bk_lim L U j hj)
      have hu := (cells_cell HBK.out (4 + j)).trans (bk_use L U j hj)
      obtain ⟨b1, b2, b3, b4⟩ := HRT.out j hj
      obtain ⟨l, hl'⟩ : ∃ l, L j = l := ⟨_, rfl⟩
      obtain ⟨v, hv'⟩ : ∃ v, U j = v := ⟨_, rfl⟩
      rw [hl'] at hl b1 b2 b4 HE
      rw [hv'] at hu b3 b4 HE
      have hw : IntKind.i64.wrap (l - v) = l - v := IntWalk.i64_in _ ⟨by omega, by omega⟩
      clear hr hk hl' hv' hk4
      go_wp2_with fail
      refine (is_any _ _).mono ?_
      rintro e w2 ⟨rfl, rfl⟩
      rw [HKK.out]
      go_wp2_with fail
      go_quiet (fail)
      go_wp2_with fail
      go_ret2
      exact ⟨by rw [HE.out]; rfl, below_drewN HB.out _⟩

theorem push3 (w : World) (o1 o2 o3 : Obj) :
    (∀ x, x < w.heap.size → (((w.alloc o1).alloc o2).alloc o3).heap[x]? = w.heap[x]?) ∧ (((w.alloc o1).alloc o2).alloc o3).heap[w.heap.size]? = some o1 ∧
    (((w.alloc o1).alloc o2).alloc o3).heap[w.heap.size + 1]? = some o2 ∧ (((w.alloc o1).alloc o2).alloc o3).heap[w.heap.size + 2]? = some o3 := by
  have e : (((w.alloc o1).alloc o2).alloc o3).heap = ((w.heap.push o1).push o2).push o3 := rfl
  rw [e]
  refine ⟨fun x hx => ?_, ?_, ?_, ?_⟩
  · simp only [Array.getElem?_push, Array.size_push]
    rw [if_neg (by omega), if_neg (by omega), if_neg (by omega)]
  · simp only [Array.getElem?_push, Array.size_push]
    rw [if_neg (by omega), if_neg (by omega), if_pos trivial]
  · simp only [Array.getElem?_push, Array.size_push]
    rw [if_neg (by omega), if_pos trivial]
  · simp only [Array.getElem?_push, Array.size_push]
    rw [if_pos trivial]

def kindNames (k : Int) : ByteArray := if k = 0 then ⟨#[101, 118, 101, 110, 116, 115]⟩ else if k = 1 then ⟨#[99, 101, 108, 108, 115]⟩ else if k = 2 then ⟨#[112, 111, 114, 116, 115]⟩ else if k = 3 then ⟨#[104, 97, 110, 100, 108, 101, 115]⟩ else ⟨#[]⟩
set_option maxRecDepth 100000 in
set_option maxHeartbeats 1000000 in
theorem name_any (k : Int) (w : World) : Calls Try.prog 22 #[.int .i64 k] w fun e w' => e = .returned (.string (kindNames k)) ∧ Below w.heap.size w w' := by
  cases hk : isB k
  · have hk4 := (isB_no k).1 hk
    have HE : Hd (kindNames k = ⟨#[]⟩) := ⟨by unfold kindNames; rw [if_neg (by omega), if_neg (by omega), if_neg (by omega), if_neg (by omega)]⟩
    have HKK := Hd.mk hk
    clear hk hk4
    go_enter Try.func22, Try.ntmps22
    go_wp2_with fail
    refine (is_any k _).mono ?_
    rintro e w2 ⟨rfl, rfl⟩
    rw [HKK.out]
    go_wp2_with fail
    go_ret
    exact ⟨by rw [HE.out]; rfl, (Below.refl _ _).alloc (Nat.le_refl _) _⟩
  · have hk4 := (isB_iff k).1 hk
    have HKK := Hd.mk hk
    clear hk
    have h4 : k = 0 ∨ k = 1 ∨ k = 2 ∨ k = 3 := by omega
    clear hk4
    rcases h4 with rfl | rfl | rfl | rfl
    all_goals
      go_enter Try.func22, Try.ntmps22
      go_wp2_with fail
      refine (is_any _ _).mono ?_
      rintro e w2 ⟨rfl, rfl⟩
      rw [HKK.out]
      go_wp2_with fail
      go_ret
      exact ⟨rfl, (Below.refl _ _).alloc (Nat.le_refl _) _⟩

def newR (L : Nat → Int) : Ending := if rightB L zf = true then .returned (.tuple #[.agg (bk L zf), .int .i64 0]) else .returned (.tuple #[.agg (bk zf zf), .int .i64 250])
set_option maxRecDepth 100000 in
set_option maxHeartbeats 400000 in
theorem new_any (L : Nat → Int) (w : World) : Calls Try.prog 25 #[.agg (ar L)] w fun e w' => e = newR L ∧ Below w.heap.size w w' := by
  simp only [ar]
  go_enter Try.func25, Try.ntmps25
  go_wp2_with fail
  refine (right_any L zf _).mono ?_
  rintro e w1 ⟨rfl, hB⟩
  obtain ⟨p0, p1, p2, p3⟩ := push3 w (.cells (ar L) 25) (.cells (bk zf zf) 27) (.cells (bk L zf) 27)
  have hz : w.heap.size + 3 ≤ w1.heap.size := by have := hB.size; simp at this; omega
  have hr1 : w1.heap[w.heap.size + 1]? = some (.cells (bk zf zf) 27 (0, 0)) := (hB.block _ (by simp)).trans p2
  have hr2 : w1.heap[w.heap.size + 2]? = some (.cells (bk L zf) 27 (0, 0)) := (hB.block _ (by simp)).trans p3
  have HB : Hd (Below w.heap.size w w1) := ⟨((((Below.refl _ _).alloc (Nat.le_refl _) _).alloc (by simp) _).alloc (by simp; omega) _).trans (hB.mono (by simp; omega))⟩
  have HR1 := Hd.mk hr1
  obtain ⟨⟨c0, c1, c2, c3, c4, c5, c6, c7⟩, -⟩ := bk_cells hr2
  obtain ⟨⟨e0, e1, e2, e3, e4, e5, e6, e7⟩, ⟨f0, f1, f2, f3, f4, f5, f6, f7⟩⟩ := bk_cells hr1
  clear hB p0 p1 p2 p3 hr1 hr2
  cases hr : rightB L zf
  · have HE : Hd (newR L = .returned (.tuple #[.agg (bk zf zf), .int .i64 250])) := ⟨by rw [newR, hr]; rfl⟩
    clear hr
    go_wp2_with fail
    refine bodyPost_ret (results_cell_row2 Try.results25 _ _ _ 27 (bk zf zf) (0, 0) _ rfl (bk_setall zf zf HR1.out) Try.underlying27 rfl (by kernel_rfl)) rfl ⟨HE.out.symm, set8_below HB.out zf zf (by omega)⟩
  · have HE : Hd (newR L = .returned (.tuple #[.agg (bk L zf), .int .i64 0])) := ⟨by rw [newR, hr]; rfl⟩
    clear hr
    go_wp2_with fail
    refine bodyPost_ret (results_cell_row2 Try.results25 _ _ _ 27 (bk L zf) (0, 0) _ rfl (bk_setall L zf HR1.out) Try.underlying27 rfl (by kernel_rfl)) rfl ⟨HE.out.symm, set8_below HB.out L zf (by omega)⟩
end Go.Proofs.Ytppfhcocmpmadaa
