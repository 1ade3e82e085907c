/- Emit, the same of the reference, and tells. -/
import Derived.Test.YtlblpmadehikgaaA2
import Derived.Deep.RegionHeld3
namespace Go.Proofs.Ytlblpmadehikgaa
open Go.RowKit
set_option linter.unusedVariables false

def emE (a b ah t d : Int) : Int := if (inW a b t && aheadB ah) = true then (if d < ah then 270 else if 281474976710656 - t < d then 271 else 0) else 2
def emV (a b ah t d : Int) : Int := if emE a b ah t d = 0 then t + d else 0
theorem in_time {a b t : Int} (h : inW a b t = true) : 0 ≤ t ∧ t ≤ 281474976710656 := by
  simp only [inW, timeB, Bool.and_eq_true, decide_eq_true_eq] at h; omega
theorem ahead_le {n : Int} (h : aheadB n = true) : 1 ≤ n ∧ n ≤ 1099511627776 := by
  simp only [aheadB, Bool.and_eq_true, decide_eq_true_eq] at h; omega

set_option maxRecDepth 100000 in
set_option maxHeartbeats 2000000 in
theorem emit_any (a b ah t d : Int) (w : World) : Calls Try.prog 15 #[.agg #[.int .i64 a, .int .i64 b], .int .i64 ah, .int .i64 t, .int .i64 d] w fun e w' => e = .returned (.tuple #[.int .i64 (emV a b ah t d), .int .i64 (emE a b ah t d)]) ∧ Below w.heap.size w w' := by
  obtain ⟨i0, hi⟩ : ∃ x, inW a b t = x := ⟨_, rfl⟩
  obtain ⟨h0, hh⟩ : ∃ x, aheadB ah = x := ⟨_, rfl⟩
  obtain ⟨ee, hee⟩ : ∃ x, emE a b ah t d = x := ⟨_, rfl⟩
  obtain ⟨vv, hvv⟩ : ∃ x, emV a b ah t d = x := ⟨_, rfl⟩
  rw [hee, hvv]
  rw [emV, hee] at hvv
  rw [emE, hi, hh] at hee
  have HI := Hd.mk hi
  have HH := Hd.mk hh
  have HVV := Hd.mk hvv
  have HEE := Hd.mk hee
  clear hvv hee
  cases i0
  · obtain rfl : ee = 2 := by rw [← HEE.out]; rfl
    obtain rfl : vv = 0 := by rw [← HVV.out]; rfl
    clear hi hh
    go_enter Try.func15, Try.ntmps15
    go_wp2_with fail
    refine (in_any _ _ _ _).mono ?_
    rintro e w1 ⟨rfl, hB⟩
    rw [HI.out]
    have HB := Hd.mk (ch4 (bl_alloc (Below.refl _ _)) hB)
    clear hB
    go_wp2_with fail
    refine bodyPost_ret (results_tmp2 Try.results15 _ _ _) rfl ?_
    exact ⟨rfl, HB.out⟩
  cases h0
  · obtain rfl : ee = 2 := by rw [← HEE.out]; rfl
    obtain rfl : vv = 0 := by rw [← HVV.out]; rfl
    clear hi hh
    go_enter Try.func15, Try.ntmps15
    go_wp2_with fail
    refine (in_any _ _ _ _).mono ?_
    rintro e w1 ⟨rfl, hB⟩
    rw [HI.out]
    have HB := Hd.mk (ch4 (bl_alloc (Below.refl _ _)) hB)
    clear hB
    go_wp2_with fail
    refine (aheads_any _ _).mono ?_
    rintro e w2 ⟨rfl, rfl⟩
    rw [HH.out]
    go_wp2_with fail
    refine bodyPost_ret (results_tmp2 Try.results15 _ _ _) rfl ?_
    exact ⟨rfl, HB.out⟩
  obtain ⟨t0, t1⟩ := in_time hi
  obtain ⟨a0, a1⟩ := ahead_le hh
  by_cases h1 : d < ah
  · obtain rfl : ee = 270 := by rw [← HEE.out]; simp [h1]
    obtain rfl : vv = 0 := by rw [← HVV.out]; rfl
    clear hi hh
    go_enter Try.func15, Try.ntmps15
    go_wp2_with fail
    refine (in_any _ _ _ _).mono ?_
    rintro e w1 ⟨rfl, hB⟩
    rw [HI.out]
    have HB := Hd.mk (ch4 (bl_alloc (Below.refl _ _)) hB)
    clear hB
    go_wp2_with fail
    refine (aheads_any _ _).mono ?_
    rintro e w2 ⟨rfl, rfl⟩
    rw [HH.out]
    go_wp2_with fail
    refine bodyPost_ret (results_tmp2 Try.results15 _ _ _) rfl ?_
    exact ⟨rfl, HB.out⟩
  have h2 : ah ≤ d := by omega
  by_cases h3 : 281474976710656 - t < d
  · obtain rfl : ee = 271 := by rw [← HEE.out]; simp [h1, h3]
    obtain rfl : vv = 0 := by rw [← HVV.out]; rfl
    clear hi hh
    go_enter Try.func15, Try.ntmps15
    go_wp2_with fail
    refine (in_any _ _ _ _).mono ?_
    rintro e w1 ⟨rfl, hB⟩
    rw [HI.out]
    have HB := Hd.mk (ch4 (bl_alloc (Below.refl _ _)) hB)
    clear hB
    go_wp2_with fail
    refine (aheads_any _ _).mono ?_
    rintro e w2 ⟨rfl, rfl⟩
    rw [HH.out]
    go_wp2_with fail
    refine bodyPost_ret (results_tmp2 Try.results15 _ _ _) rfl ?_
    exact ⟨rfl, HB.out⟩
  have h4 : d ≤ 281474976710656 - t := by omega
  obtain rfl : ee = 0 := by rw [← HEE.out]; simp [h1, h3]
  obtain rfl : vv = t + d := by rw [← HVV.out]; rfl
  clear hi hh
  go_enter Try.func15, Try.ntmps15
  go_wp2_with fail
  refine (in_any _ _ _ _).mono ?_
  rintro e w1 ⟨rfl, hB⟩
  rw [HI.out]
  have HB := Hd.mk (ch4 (bl_alloc (Below.refl _ _)) hB)
  clear hB
  go_wp2_with fail
  refine (aheads_any _ _).mono ?_
  rintro e w2 ⟨rfl, rfl⟩
  rw [HH.out]
  go_wp2_with fail
  refine bodyPost_ret (results_tmp2 Try.results15 _ _ _) rfl ?_
  exact ⟨rfl, HB.out⟩

set_option maxRecDepth 100000 in
set_option maxHeartbeats 2000000 in
theorem remit_any (a b ah t d : Int) (w : World) : Calls Try.prog 37 #[.agg #[.int .i64 a, .int .i64 b], .int .i64 ah, .int .i64 t, .int .i64 d] w fun e w' => e = .returned (.tuple #[.int .i64 (emV a b ah t d), .int .i64 (emE a b ah t d)]) ∧ Below w.heap.size w w' := by
  obtain ⟨i0, hi⟩ : ∃ x, inW a b t = x := ⟨_, rfl⟩
  obtain ⟨h0, hh⟩ : ∃ x, aheadB ah = x := ⟨_, rfl⟩
  obtain ⟨ee, hee⟩ : ∃ x, emE a b ah t d = x := ⟨_, rfl⟩
  obtain ⟨vv, hvv⟩ : ∃ x, emV a b ah t d = x := ⟨_, rfl⟩
  rw [hee, hvv]
  rw [emV, hee] at hvv
  rw [emE, hi, hh] at hee
  have HI := Hd.mk hi
  have HH := Hd.mk hh
  have HVV := Hd.mk hvv
  have HEE := Hd.mk hee
  clear hvv hee
  cases i0
  · obtain rfl : ee = 2 := by rw [← HEE.out]; rfl
    obtain rfl : vv = 0 := by rw [← HVV.out]; rfl
    clear hi hh
    go_enter Try.func37, Try.ntmps37
    go_wp2_with fail
    refine (rin_any _ _ _ _).mono ?_
    rintro e w1 ⟨rfl, hB⟩
    rw [HI.out]
    have HB := Hd.mk (ch4 (bl_alloc (Below.refl _ _)) hB)
    clear hB
    go_wp2_with fail
    refine bodyPost_ret (results_tmp2 Try.results37 _ _ _) rfl ?_
    exact ⟨rfl, HB.out⟩
  cases h0
  · obtain rfl : ee = 2 := by rw [← HEE.out]; rfl
    obtain rfl : vv = 0 := by rw [← HVV.out]; rfl
    clear hi hh
    go_enter Try.func37, Try.ntmps37
    go_wp2_with fail
    refine (rin_any _ _ _ _).mono ?_
    rintro e w1 ⟨rfl, hB⟩
    rw [HI.out]
    have HB := Hd.mk (ch4 (bl_alloc (Below.refl _ _)) hB)
    clear hB
    go_wp2_with fail
    refine (rahead_any _ _).mono ?_
    rintro e w2 ⟨rfl, rfl⟩
    rw [HH.out]
    go_wp2_with fail
    refine bodyPost_ret (results_tmp2 Try.results37 _ _ _) rfl ?_
    exact ⟨rfl, HB.out⟩
  obtain ⟨t0, t1⟩ := in_time hi
  obtain ⟨a0, a1⟩ := ahead_le hh
  by_cases h1 : d < ah
  · obtain rfl : ee = 270 := by rw [← HEE.out]; simp [h1]
    obtain rfl : vv = 0 := by rw [← HVV.out]; rfl
    clear hi hh
    go_enter Try.func37, Try.ntmps37
    go_wp2_with fail
    refine (rin_any _ _ _ _).mono ?_
    rintro e w1 ⟨rfl, hB⟩
    rw [HI.out]
    have HB := Hd.mk (ch4 (bl_alloc (Below.refl _ _)) hB)
    clear hB
    go_wp2_with fail
    refine (rahead_any _ _).mono ?_
    rintro e w2 ⟨rfl, rfl⟩
    rw [HH.out]
    go_wp2_with fail
    refine bodyPost_ret (results_tmp2 Try.results37 _ _ _) rfl ?_
    exact ⟨rfl, HB.out⟩
  have h2 : ah ≤ d := by omega
  by_cases h5 : 281474976710656 < d
  · have h3 : 281474976710656 - t < d := by omega
    obtain rfl : ee = 271 := by rw [← HEE.out]; simp [h1, h3]
    obtain rfl : vv = 0 := by rw [← HVV.out]; rfl
    clear hi hh
    go_enter Try.func37, Try.ntmps37
    go_wp2_with fail
    refine (rin_any _ _ _ _).mono ?_
    rintro e w1 ⟨rfl, hB⟩
    rw [HI.out]
    have HB := Hd.mk (ch4 (bl_alloc (Below.refl _ _)) hB)
    clear hB
    go_wp2_with fail
    refine (rahead_any _ _).mono ?_
    rintro e w2 ⟨rfl, rfl⟩
    rw [HH.out]
    go_wp2_with fail
    refine bodyPost_ret (results_tmp2 Try.results37 _ _ _) rfl ?_
    exact ⟨rfl, HB.out⟩
  have h6 : d ≤ 281474976710656 := by omega
  by_cases h3 : 281474976710656 - t < d
  · have h7 : 281474976710656 < t + d := by omega
    obtain rfl : ee = 271 := by rw [← HEE.out]; simp [h1, h3]
    obtain rfl : vv = 0 := by rw [← HVV.out]; rfl
    clear hi hh
    go_enter Try.func37, Try.ntmps37
    go_wp2_with fail
    refine (rin_any _ _ _ _).mono ?_
    rintro e w1 ⟨rfl, hB⟩
    rw [HI.out]
    have HB := Hd.mk (ch4 (bl_alloc (Below.refl _ _)) hB)
    clear hB
    go_wp2_with fail
    refine (rahead_any _ _).mono ?_
    rintro e w2 ⟨rfl, rfl⟩
    rw [HH.out]
    go_wp2_with fail
    refine bodyPost_ret (results_tmp2 Try.results37 _ _ _) rfl ?_
    exact ⟨rfl, HB.out⟩
  have h7 : t + d ≤ 281474976710656 := by omega
  obtain rfl : ee = 0 := by rw [← HEE.out]; simp [h1, h3]
  obtain rfl : vv = t + d := by rw [← HVV.out]; rfl
  clear hi hh
  go_enter Try.func37, Try.ntmps37
  go_wp2_with fail
  refine (rin_any _ _ _ _).mono ?_
  rintro e w1 ⟨rfl, hB⟩
  rw [HI.out]
  have HB := Hd.mk (ch4 (bl_alloc (Below.refl _ _)) hB)
  clear hB
  go_wp2_with fail
  refine (rahead_any _ _).mono ?_
  rintro e w2 ⟨rfl, rfl⟩
  rw [HH.out]
  go_wp2_with fail
  refine bodyPost_ret (results_tmp2 Try.results37 _ _ _) rfl ?_
  exact ⟨rfl, HB.out⟩

theorem bl_call {B W W' : World} (hB : Below W.heap.size W W') (h : Below B.heap.size B W) : Below B.heap.size B W' := ch4 h hB
theorem tk_keep {w W W' : World} {a b : Int} (h : W.cell? ⟨w.heap.size, 0, none⟩ = some (.int .i64 a) ∧ W.cell? ⟨w.heap.size, 1, none⟩ = some (.int .i64 b) ∧ W.cell? ⟨w.heap.size + 1, 0, none⟩ = some (.int .i64 a) ∧ W.cell? ⟨w.heap.size + 1, 1, none⟩ = some (.int .i64 b) ∧ Below w.heap.size w W) (hB : Below W.heap.size W W') : W'.cell? ⟨w.heap.size, 0, none⟩ = some (.int .i64 a) ∧ W'.cell? ⟨w.heap.size, 1, none⟩ = some (.int .i64 b) ∧ W'.cell? ⟨w.heap.size + 1, 0, none⟩ = some (.int .i64 a) ∧ W'.cell? ⟨w.heap.size + 1, 1, none⟩ = some (.int .i64 b) ∧ Below w.heap.size w W' := by
  obtain ⟨h0, h1, h2, h3, h4⟩ := h
  exact ⟨(hB.cell (World.block_lt_of_cell? _ _ h0)).trans h0, (hB.cell (World.block_lt_of_cell? _ _ h1)).trans h1, (hB.cell (World.block_lt_of_cell? _ _ h2)).trans h2, (hB.cell (World.block_lt_of_cell? _ _ h3)).trans h3, ch4 h4 hB⟩

set_option maxRecDepth 100000 in
set_option maxHeartbeats 4000000 in
theorem tells_any (a b ah t d : Int) (w : World) : Calls Try.prog 20 #[.agg #[.int .i64 a, .int .i64 b], .int .i64 ah, .int .i64 t, .int .i64 d] w fun e w' => e = .returned (.bool true) ∧ Below w.heap.size w w' := by
  obtain ⟨ee, hee⟩ : ∃ x, emE a b ah t d = x := ⟨_, rfl⟩
  obtain ⟨vv, hvv⟩ : ∃ x, emV a b ah t d = x := ⟨_, rfl⟩
  obtain ⟨r0, hr⟩ : ∃ x, rightW a b = x := ⟨_, rfl⟩
  obtain ⟨i0, hi⟩ : ∃ x, inW a b t = x := ⟨_, rfl⟩
  obtain ⟨f0, hf⟩ : ∃ x, afterW a b t = x := ⟨_, rfl⟩
  have HE := Hd.mk hee
  have HV := Hd.mk hvv
  have HR := Hd.mk hr
  have HI := Hd.mk hi
  have HF := Hd.mk hf
  clear hee hvv hr hi hf
  go_enter Try.func20, Try.ntmps20
  go_wp2_with fail
  obtain ⟨wd, hW⟩ : ∃ x, ((w.alloc (.cells #[.int .i64 a, .int .i64 b] 28)).alloc (.cells #[.int .i64 a, .int .i64 b] 61)) = x := ⟨_, rfl⟩
  have HS : Hd (wd.cell? ⟨w.heap.size, 0, none⟩ = some (.int .i64 a) ∧ wd.cell? ⟨w.heap.size, 1, none⟩ = some (.int .i64 b) ∧ wd.cell? ⟨w.heap.size + 1, 0, none⟩ = some (.int .i64 a) ∧ wd.cell? ⟨w.heap.size + 1, 1, none⟩ = some (.int .i64 b) ∧ Below w.heap.size w wd) := ⟨by
    rw [← hW]
    have g1 := World.alloc_heap_new (w.alloc (.cells #[.int .i64 a, .int .i64 b] 28)) (.cells #[.int .i64 a, .int .i64 b] 61)
    have g0 := World.alloc_heap_new w (.cells #[.int .i64 a, .int .i64 b] 28)
    simp only [World.size_alloc] at g1
    have hb : Below (w.alloc (.cells #[.int .i64 a, .int .i64 b] 28)).heap.size (w.alloc (.cells #[.int .i64 a, .int .i64 b] 28)) ((w.alloc (.cells #[.int .i64 a, .int .i64 b] 28)).alloc (.cells #[.int .i64 a, .int .i64 b] 61)) := bl_alloc (Below.refl _ _)
    exact ⟨(hb.cell (p := ⟨w.heap.size, 0, none⟩) (by simp)).trans (cells_cell g0 0), (hb.cell (p := ⟨w.heap.size, 1, none⟩) (by simp)).trans (cells_cell g0 1), cells_cell g1 0, cells_cell g1 1, bl_alloc (bl_alloc (Below.refl _ _))⟩⟩
  rw [hW]
  clear hW
  refine (emit_any _ _ _ _ _ _).mono ?_
  rintro e w1 ⟨rfl, hB⟩
  rw [HE.out, HV.out]
  have HS1 := Hd.mk (tk_keep HS.out hB)
  clear HS hB
  obtain ⟨x0, x1, x2, x3, x4⟩ := HS1.out
  go_wp2_with fail
  refine (remit_any _ _ _ _ _ _).mono ?_
  rintro e w2 ⟨rfl, hB⟩
  rw [HE.out, HV.out]
  have HS2 := Hd.mk (tk_keep HS1.out hB)
  clear HS1 hB x0 x1 x2 x3 x4
  obtain ⟨x0, x1, x2, x3, x4⟩ := HS2.out
  have H25 : Hd (∀ W, Calls Try.prog 25 #[.agg #[.int .i64 a, .int .i64 b]] W fun e w' => e = .returned (.bool r0) ∧ Below W.heap.size W w') := ⟨fun W => HR.out ▸ right_any a b W⟩
  have H38 : Hd (∀ W, Calls Try.prog 38 #[.agg #[.int .i64 a, .int .i64 b]] W fun e w' => e = .returned (.bool r0) ∧ Below W.heap.size W w') := ⟨fun W => HR.out ▸ rright_any a b W⟩
  have H16 : Hd (∀ W, Calls Try.prog 16 #[.agg #[.int .i64 a, .int .i64 b], .int .i64 t] W fun e w' => e = .returned (.bool i0) ∧ Below W.heap.size W w') := ⟨fun W => HI.out ▸ in_any a b t W⟩
  have H39 : Hd (∀ W, Calls Try.prog 39 #[.agg #[.int .i64 a, .int .i64 b], .int .i64 t] W fun e w' => e = .returned (.bool i0) ∧ Below W.heap.size W w') := ⟨fun W => HI.out ▸ rin_any a b t W⟩
  have H26 : Hd (∀ W, Calls Try.prog 26 #[.agg #[.int .i64 a, .int .i64 b], .int .i64 t] W fun e w' => e = .returned (.bool f0) ∧ Below W.heap.size W w') := ⟨fun W => HF.out ▸ after_any a b t W⟩
  have H40 : Hd (∀ W, Calls Try.prog 40 #[.agg #[.int .i64 a, .int .i64 b], .int .i64 t] W fun e w' => e = .returned (.bool f0) ∧ Below W.heap.size W w') := ⟨fun W => HF.out ▸ rafter_any a b t W⟩
  go_wp2_with fail
  clear HR HI HF HE HV
  go_region_held3 (fun W => W.cell? ⟨w.heap.size, 0, none⟩ = some (.int .i64 a) ∧ W.cell? ⟨w.heap.size, 1, none⟩ = some (.int .i64 b) ∧ W.cell? ⟨w.heap.size + 1, 0, none⟩ = some (.int .i64 a) ∧ W.cell? ⟨w.heap.size + 1, 1, none⟩ = some (.int .i64 b) ∧ Below w.heap.size w W)
    (first | with_reducible assumption | (refine tk_keep (W := w2) HS2.out ?_; repeat (with_reducible first | exact Below.refl _ _ | apply bl_drew | (apply bl_call; assumption))))
    (first
    | (go_at_call 25; with_reducible refine (H25.out _).mono ?_; rintro e v1 ⟨rfl, hB1⟩)
    | (go_at_call 38; with_reducible refine (H38.out _).mono ?_; rintro e v2 ⟨rfl, hB2⟩)
    | (go_at_call 16; with_reducible refine (H16.out _).mono ?_; rintro e v3 ⟨rfl, hB3⟩)
    | (go_at_call 39; with_reducible refine (H39.out _).mono ?_; rintro e v4 ⟨rfl, hB4⟩)
    | (go_at_call 26; with_reducible refine (H26.out _).mono ?_; rintro e v5 ⟨rfl, hB5⟩)
    | (go_at_call 40; with_reducible refine (H40.out _).mono ?_; rintro e v6 ⟨rfl, hB6⟩))
  have hS9 : v6.cell? ⟨w.heap.size, 0, none⟩ = some (.int .i64 a) ∧ v6.cell? ⟨w.heap.size, 1, none⟩ = some (.int .i64 b) ∧ v6.cell? ⟨w.heap.size + 1, 0, none⟩ = some (.int .i64 a) ∧ v6.cell? ⟨w.heap.size + 1, 1, none⟩ = some (.int .i64 b) ∧ Below w.heap.size w v6 := by assumption
  obtain ⟨-, -, -, -, hz⟩ := hS9
  have HZ := Hd.mk hz
  clear hz x0 x1 x2 x3 x4
  go_wp2_with fail
  go_ret
  exact ⟨rfl, HZ.out⟩
end Go.Proofs.Ytlblpmadehikgaa
