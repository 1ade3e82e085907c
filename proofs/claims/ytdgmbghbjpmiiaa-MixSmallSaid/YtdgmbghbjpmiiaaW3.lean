/- Walk of mix.Text. -/
import Derived.Test.YtdgmbghbjpmiiaaW2
import Derived.Test.YtdgmbghbjpmiiaaRange
namespace Go.Proofs.Ytdgmbghbjpmiiaa
open Go.RowKit Go.Shelf
attribute [local go_sem] Oper.semAt_some

set_option maxHeartbeats 400000 in
theorem digits_any (x : BitVec 64) (w : World) :
    Calls Try.prog 33 #[u x] w fun e w' => e = .returned (.func (.func 37) #[] #[.pointer (some ⟨w.heap.size, 0, none⟩)]) ∧ w' = w.alloc (.cells #[u x] 22) := by
  go_enter Try.func33, Try.ntmps33
  go_wp2_with fail
  go_ret
  exact ⟨rfl, rfl⟩

/-- A digit's byte. -/
def dch (y : BitVec 64) : Nat := if y.toNat % 32 < 10 then 48 + y.toNat % 32 else 87 + y.toNat % 32
def tcell (x : BitVec 64) (k j : Nat) : Value := .int .u8 (if 13 ≤ j + k then (dch (x >>> (5 * (12 - j))) : Int) else 0)
def tarr (x : BitVec 64) (k : Nat) : Array Value := #[tcell x k 0, tcell x k 1, tcell x k 2, tcell x k 3, tcell x k 4, tcell x k 5, tcell x k 6, tcell x k 7, tcell x k 8, tcell x k 9, tcell x k 10, tcell x k 11, tcell x k 12]

theorem tarr_zero (x : BitVec 64) : tarr x 0 = #[.int .u8 0, .int .u8 0, .int .u8 0, .int .u8 0, .int .u8 0, .int .u8 0, .int .u8 0, .int .u8 0, .int .u8 0, .int .u8 0, .int .u8 0, .int .u8 0, .int .u8 0] := by
  simp [tarr, tcell]
theorem tarr_step (x : BitVec 64) (k : Nat) (h : k < 13) : (tarr x k).setIfInBounds (12 - k) (.int .u8 (dch (x >>> (5 * k)))) = tarr x (k + 1) := by
  have : k = 0 ∨ k = 1 ∨ k = 2 ∨ k = 3 ∨ k = 4 ∨ k = 5 ∨ k = 6 ∨ k = 7 ∨ k = 8 ∨ k = 9 ∨ k = 10 ∨ k = 11 ∨ k = 12 := by omega
  rcases this with rfl | rfl | rfl | rfl | rfl | rfl | rfl | rfl | rfl | rfl | rfl | rfl | rfl <;> simp [tarr, tcell]

/-- What stands in Text's loop: k digits are written, and the number is shifted m times. -/
structure TS (w : World) (x : BitVec 64) (R : Loop) (k m : Nat) (W : World) : Prop where
  out : W.heap[w.heap.size]? = some (.cells (tarr x k) 46 (0, 0))
  box : W.heap[w.heap.size + 1]? = some (.cells #[u (x >>> (5 * m))] 22 (0, 0))
  dfr : W.heap[w.heap.size + 2]? = some (.deferred (some []))
  lp : W.heap[w.heap.size + 3]? = some (.loop R)
  bel : Below w.heap.size w W

theorem TS.box_set {w : World} {x : BitVec 64} {R : Loop} {k m : Nat} {W : World} (h : TS w x R k m W) :
    TS w x R k (m + 1) (W.setCell ⟨w.heap.size + 1, 0, none⟩ (u (x >>> (5 * m) >>> 5))) := by
  refine ⟨?_, ?_, ?_, ?_, h.bel.setCell (by simp) _⟩
  · rw [Below.heap_setCell _ _ _ _ (by simp)]; exact h.out
  · rw [cells_set h.box]
    simp [← BitVec.shiftRight_add, Nat.mul_add]
  · rw [Below.heap_setCell _ _ _ _ (by simp)]; exact h.dfr
  · rw [Below.heap_setCell _ _ _ _ (by simp)]; exact h.lp

theorem TS.out_set {w : World} {x : BitVec 64} {R : Loop} {k : Nat} {W : World} (h : TS w x R k k W) (hk : k < 13) :
    TS w x R (k + 1) k (readyW ((busyW W (w.heap.size + 3) R).setCell ⟨w.heap.size, 12 - k, none⟩ (.int .u8 (dch (x >>> (5 * k))))) (w.heap.size + 3) R) := by
  have hlt : w.heap.size + 3 < W.heap.size := (Array.getElem?_eq_some_iff.1 h.lp).1
  unfold readyW busyW
  have h1 : (W.putObj (w.heap.size + 3) (.loop { R with state := .busy })).heap[w.heap.size]? = some (.cells (tarr x k) 46 (0, 0)) := (World.putObj_heap_other (by omega)).trans h.out
  refine ⟨?_, ?_, ?_, ?_, ?_⟩
  · rw [World.putObj_heap_other (by omega), cells_set h1, tarr_step x k hk]
  · rw [World.putObj_heap_other (by omega), Below.heap_setCell _ _ _ _ (by simp), World.putObj_heap_other (by omega)]; exact h.box
  · rw [World.putObj_heap_other (by omega), Below.heap_setCell _ _ _ _ (by simp), World.putObj_heap_other (by omega)]; exact h.dfr
  · refine World.putObj_heap_same ?_
    simp [World.setCell, World.putObj]; omega
  · exact putObj_below ((putObj_below h.bel (by omega)).setCell (by simp) _) (by omega)

theorem TS_zero (w : World) (x : BitVec 64) (R : Loop) : TS w x R 0 0 ((((w.alloc (Obj.cells #[Value.int IntKind.u8 0, Value.int IntKind.u8 0, Value.int IntKind.u8 0, Value.int IntKind.u8 0, Value.int IntKind.u8 0, Value.int IntKind.u8 0, Value.int IntKind.u8 0, Value.int IntKind.u8 0, Value.int IntKind.u8 0, Value.int IntKind.u8 0, Value.int IntKind.u8 0, Value.int IntKind.u8 0, Value.int IntKind.u8 0] 46)).alloc (Obj.cells #[u x] 22)).alloc (Obj.deferred (some []))).alloc (Obj.loop R)) := by
  have e1 : ∀ (w : World) (o : Obj), (w.alloc o).heap = w.heap.push o := fun _ _ => rfl
  refine ⟨?_, ?_, ?_, ?_, ?_⟩
  · rw [tarr_zero]; simp only [e1, Array.getElem?_push, Array.size_push]
    rw [if_neg (by omega), if_neg (by omega), if_neg (by omega), if_pos trivial]
  · simp only [e1, Array.getElem?_push, Array.size_push]
    rw [if_neg (by omega), if_neg (by omega), if_pos trivial]; rfl
  · simp only [e1, Array.getElem?_push, Array.size_push]
    rw [if_neg (by omega), if_pos trivial]
  · simp only [e1, Array.getElem?_push, Array.size_push]
    rw [if_pos trivial]
  · exact ((((Below.refl _ _).alloc (Nat.le_refl _) _).alloc (by simp) _).alloc (by simp; omega) _).alloc (by simp; omega) _

theorem run_digit (y : BitVec 64) (w : World) : (Instr.index 9 (.string { data := #[48, 49, 50, 51, 52, 53, 54, 55, 56, 57, 97, 98, 99, 100, 101, 102, 103, 104, 105, 106, 107, 108, 109, 110, 111, 112, 113, 114, 115, 116, 117, 118] }) (u (y &&& 31#64))).run Try.prog w = .ok (.int .u8 (dch y)) w := by
  have hm : (y &&& 31#64).toNat = y.toNat % 32 := by
    rw [BitVec.toNat_and]; exact Nat.and_two_pow_sub_one_eq_mod _ 5
  have hlt : y.toNat % 32 < 32 := Nat.mod_lt _ (by decide)
  rw [u, run_index_string _ _ _ _ _ Try.underlying9, dif_pos ⟨by omega, by rw [hm]; show (_ : Int) < 32; omega⟩]
  have key : ∀ n (h : n < 32), ((⟨#[48, 49, 50, 51, 52, 53, 54, 55, 56, 57, 97, 98, 99, 100, 101, 102, 103, 104, 105, 106, 107, 108, 109, 110, 111, 112, 113, 114, 115, 116, 117, 118]⟩ : ByteArray)[n]'h).toNat = if n < 10 then 48 + n else 87 + n := by decide
  have k2 := key _ hlt
  congr 3
  rw [dch, ← k2]
  congr 2

set_option maxHeartbeats 400000 in
theorem digits1 (x : BitVec 64) (w W0 : World) (R : Loop) (hTS : TS w x R 0 0 W0)
    (hY : ∀ k W, k < 13 → TS w x R k k W → YieldAt Fence.wide 0 Try.prog (w.heap.size + 1 + 1 + 1) #[.int .i64 (12 - (k : Int)), .int .u8 (dch (x >>> (5 * k)))] W fun e W' => e = .returned (.bool true) ∧ TS w x R (k + 1) k W') :
    Calls Try.prog 37 #[.func (.yield (w.heap.size + 1 + 1 + 1)) #[] #[], .pointer (some ⟨w.heap.size + 1, 0, none⟩)] W0 fun e W' => (∃ v, e = .returned v) ∧ TS w x R 13 13 W' := by
  refine (callsIn_wide (n := 0)).1 ?_
  refine callsIn_of_wp Try.func37 rfl trivial ?_
  simp only [Try.ntmps37, List.size_toArray, List.length_cons, List.length_nil, Nat.reduceAdd, Nat.reduceSub, Array.replicate_succ, Array.replicate_zero, List.push_toArray, List.append_toArray, List.nil_append, List.cons_append]
  gi_wp2_with fail
  gi_loopw [3] (fun i W => ∃ k : Nat, k ≤ 13 ∧ i = .int .i64 (12 - (k : Int)) ∧ TS w x R k k W) (fun i _ => (intOf i + 1).toNat)
  case atStart => exact ⟨0, by omega, rfl, hTS⟩
  case round =>
    obtain ⟨k, hk, rfl, hW⟩ := hrel
    by_cases hlt : k < 13
    · have hd := run_digit (x >>> (5 * k))
      have hbx := cells_cell hW.box 0
      obtain ⟨fn, tmps, asg, body, hy, hR⟩ := hY k wr hlt hW
      gi_wp2_with fail
      refine hR.mono ?_
      rintro e W' ⟨rfl, hW'⟩
      have hbx := cells_cell hW'.box 0
      have hbf := cells_free hW'.box 0
      gi_wp2_with fail
      go_roundw
      case rel => exact ⟨k + 1, by omega, by go_num, hW'.box_set⟩
      case measure => simp [intOf]; omega
    · obtain rfl : k = 13 := by omega
      gi_wp2_with fail
      go_end0
      exact ⟨⟨_, rfl⟩, hW⟩

theorem tarr_get (x : BitVec 64) (k j : Nat) (h : j < 13) : (tarr x k)[j]? = some (tcell x k j) := by
  have : j = 0 ∨ j = 1 ∨ j = 2 ∨ j = 3 ∨ j = 4 ∨ j = 5 ∨ j = 6 ∨ j = 7 ∨ j = 8 ∨ j = 9 ∨ j = 10 ∨ j = 11 ∨ j = 12 := by omega
  rcases this with rfl | rfl | rfl | rfl | rfl | rfl | rfl | rfl | rfl | rfl | rfl | rfl | rfl <;> rfl

/-- The digits of a number, the highest first. -/
def digs (x : BitVec 64) : List Nat := [dch (x >>> 60), dch (x >>> 55), dch (x >>> 50), dch (x >>> 45), dch (x >>> 40), dch (x >>> 35), dch (x >>> 30), dch (x >>> 25), dch (x >>> 20), dch (x >>> 15), dch (x >>> 10), dch (x >>> 5), dch x]
/-- The text of a number. -/
def textV (x : BitVec 64) : ByteArray := ⟨((digs x).map UInt8.ofNat).toArray⟩

theorem push_list (l : List Nat) : ∀ (s : ByteArray), (l.map Int.ofNat).foldl (fun r n => r.push (UInt8.ofNat n.toNat)) s = ⟨s.data ++ (l.map UInt8.ofNat).toArray⟩ := by
  induction l with
  | nil => intro s; simp
  | cons n l ih =>
    intro s
    simp only [List.map_cons, List.foldl_cons]
    rw [ih]
    congr 1
    show (s.data.push _) ++ _ = _
    apply Array.ext'
    simp

/-- Thirteen bytes of one block, made a string. -/
theorem conv_bytes (w : World) (b cap : Nat) (l : List Nat) (h : ∀ j (hj : j < l.length), w.cell? ⟨b, j, none⟩ = some (.int .u8 (l[j] : Int))) :
    (convert 50 9 (.slice (some ⟨b, 0, none⟩) l.length cap)).run Try.prog w = .ok (.string ⟨(l.map UInt8.ofNat).toArray⟩) w := by
  rw [run_convert_bytes_string w 50 9 5 _ _ _ Try.underlying50 Try.underlying5 Try.underlying9]
  rw [run_bytesToString w ⟨b, 0, none⟩ l.length cap (l.map Int.ofNat) ?_]
  · rw [push_list]
    simp [ByteArray.empty, ByteArray.emptyWithCapacity]
    rfl
  · have := run_loadCells_list (P := Try.prog) (w := w) ⟨b, 0, none⟩ ((l.map Int.ofNat).map (Value.int .u8)) (by
      intro j v hj
      have hjl : j < l.length := by
        rcases Nat.lt_or_ge j l.length with h | h
        · exact h
        · rw [List.getElem?_eq_none (by simpa using h)] at hj; cases hj
      rw [List.getElem?_eq_getElem (by simpa using hjl)] at hj
      have hplain : (⟨b, 0, none⟩ : Addr).add j = ⟨b, j, none⟩ := by unfold Addr.add; split <;> simp_all
      rw [hplain, h j hjl]
      simpa using hj)
    simpa using this

set_option maxHeartbeats 400000 in
theorem text_any (x : BitVec 64) (w : World) :
    Calls Try.prog 22 #[u x] w fun e w' => e = .returned (.string (textV x)) ∧ Below w.heap.size w w' := by
  refine (callsIn_wide (n := 0)).1 ?_
  refine callsIn_of_wp_marks Try.func22 rfl trivial ?_
  simp only [Try.ntmps22, List.size_toArray, List.length_cons, List.length_nil, Nat.reduceAdd, Nat.reduceSub, Array.replicate_succ, Array.replicate_zero, List.push_toArray, List.append_toArray, List.nil_append, List.cons_append]
  gi_wp2_with fail
  refine (callsIn_wide.2 (digits_any _ _)).mono ?_
  rintro e w' ⟨rfl, rfl⟩
  gi_wp2_with fail
  refine range_enter 37 #[.pointer (some ⟨w.heap.size + 1, 0, none⟩)] rfl (enters_of Try.func37 (by kernel_rfl) rfl) ?_
  intro r hr
  simp only [World.size_alloc]
  refine (digits1 x w _ r (TS_zero w x r) ?_).mono ?_
  · intro k W hk hW
    refine yield_at hr hW.lp rfl ?_
    have hl : BlockIs W (w.heap.size + 1 + 1 + 1) (.loop r) := hW.lp
    have hb : BlockIs (busyW W (w.heap.size + 1 + 1 + 1) r) w.heap.size (.cells (tarr x k) 46 (0, 0)) := (World.putObj_heap_other (by omega)).trans hW.out
    have hc : (busyW W (w.heap.size + 1 + 1 + 1) r).cell? ⟨w.heap.size, 12 - k, none⟩ = some (tcell x k (12 - k)) := (cells_cell hb _).trans (tarr_get x k _ (by omega))
    have hf : (busyW W (w.heap.size + 1 + 1 + 1) r).frozen? ⟨w.heap.size, 12 - k, none⟩ = false := cells_free hb _
    gi_wp2_with fail
    refine ⟨?_, rfl, hW.out_set hk⟩
    rw [Below.heap_setCell _ _ _ _ (by simp; omega)]
    exact World.putObj_heap_same (Array.getElem?_eq_some_iff.1 hW.lp).1
  · rintro e W ⟨hv, hW⟩
    refine ⟨hv, .ready, none, by simp, ?_, ?_⟩
    · rw [hW.lp, hr.same]
    · have hb : BlockIs (W.putObj (w.heap.size + 1 + 1 + 1) (.loop { r with state := .exhausted, pending := none })) w.heap.size (.cells (tarr x 13) 46 (0, 0)) := (World.putObj_heap_other (by omega)).trans hW.out
      have hD : BlockIs (W.putObj (w.heap.size + 1 + 1 + 1) (.loop { r with state := .exhausted, pending := none })) (w.heap.size + 2) (.deferred (some [])) := (World.putObj_heap_other (by omega)).trans hW.dfr
      have hB : Below w.heap.size w (W.putObj (w.heap.size + 1 + 1 + 1) (.loop { r with state := .exhausted, pending := none })) := putObj_below hW.bel (by omega)
      generalize W.putObj (w.heap.size + 1 + 1 + 1) (.loop { r with state := .exhausted, pending := none }) = W2 at hb hD hB ⊢
      have hcv : (convert 50 9 (.slice (some ⟨w.heap.size, 0, none⟩) 13 13)).run Try.prog W2 = .ok (.string (textV x)) W2 := by
        refine conv_bytes W2 w.heap.size 13 (digs x) ?_
        intro j hj
        have hj : j < 13 := hj
        rw [cells_cell hb, tarr_get x 13 j hj]
        have : j = 0 ∨ j = 1 ∨ j = 2 ∨ j = 3 ∨ j = 4 ∨ j = 5 ∨ j = 6 ∨ j = 7 ∨ j = 8 ∨ j = 9 ∨ j = 10 ∨ j = 11 ∨ j = 12 := by omega
        rcases this with rfl | rfl | rfl | rfl | rfl | rfl | rfl | rfl | rfl | rfl | rfl | rfl | rfl <;> simp [tcell, digs]
      simp only [Act.marked]
      gi_wp2_with fail
      refine ⟨by simp, .inl ⟨_, _, rfl, run_takeDeferred hD, ?_⟩⟩
      exact ⟨_, results_tmp rfl _ _ _, rfl, putObj_below hB (by omega)⟩
end Go.Proofs.Ytdgmbghbjpmiiaa
