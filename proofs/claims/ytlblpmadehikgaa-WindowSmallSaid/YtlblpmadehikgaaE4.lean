/- The reference: Wrong and Next. -/
import Derived.Test.YtlblpmadehikgaaE3
namespace Go.Proofs.Ytlblpmadehikgaa
open Go.RowKit Go.Shelf
set_option linter.unusedVariables false


set_option maxRecDepth 100000 in
set_option maxHeartbeats 2000000 in
theorem rwrong_any (v : Value) (l : List Int) (ah h : Int) (w : World) (hs : SrcI w v l) : Calls Try.prog 42 #[v, .int .i64 ah, .int .i64 h] w fun e w' => e = .returned (.int .i64 (wrE l ah h)) ∧ Below w.heap.size w w' := by
  have hsm := hs.small
  obtain ⟨ee, hee⟩ : ∃ x, wrE l ah h = x := ⟨_, rfl⟩
  rw [hee]
  rw [wrE] at hee
  have HS := Hd.mk hs
  obtain ⟨a, c, rfl⟩ := hs.shape
  clear hs
  by_cases h1 : 4096 < l.length
  · rw [if_pos h1] at hee
    subst hee
    have i1 : (4096 : Int) < (l.length : Int) := by omega
    go_enter Try.func42, Try.ntmps42
    go_wp2_with fail
    go_ret
    exact ⟨rfl, Below.refl _ _⟩
  rw [if_neg h1] at hee
  have i1 : (l.length : Int) ≤ 4096 := by omega
  clear h1
  rcases ha : aheadB ah with _ | _
  · obtain rfl : ee = 2 := by rw [← hee, ha]; rfl
    have HA := Hd.mk ha
    clear hee ha
    go_enter Try.func42, Try.ntmps42
    go_wp2_with fail
    refine (rahead_any _ _).mono ?_
    rintro e w1 ⟨rfl, rfl⟩
    rw [HA.out]
    go_wp2_with fail
    go_ret
    exact ⟨rfl, Below.refl _ _⟩
  rcases hh : horB h with _ | _
  · obtain rfl : ee = 2 := by rw [← hee, ha, hh]; rfl
    have HA := Hd.mk ha
    have HH := Hd.mk hh
    clear hee ha hh
    go_enter Try.func42, Try.ntmps42
    go_wp2_with fail
    refine (rahead_any _ _).mono ?_
    rintro e w1 ⟨rfl, rfl⟩
    rw [HA.out]
    go_wp2_with fail
    refine (rhor_any _ _).mono ?_
    rintro e w1 ⟨rfl, rfl⟩
    rw [HH.out]
    go_wp2_with fail
    go_ret
    exact ⟨rfl, Below.refl _ _⟩
  · have HA := Hd.mk ha
    have HH := Hd.mk hh
    have HQ : Hd ((if l.all timeB = true then (0 : Int) else 2) = ee) := ⟨by rw [← hee, ha, hh]; rfl⟩
    clear hee ha hh
    go_enter Try.func42, Try.ntmps42
    go_wp2_with fail
    refine (rahead_any _ _).mono ?_
    rintro e w1 ⟨rfl, rfl⟩
    rw [HA.out]
    go_wp2_with fail
    refine (rhor_any _ _).mono ?_
    rintro e w1 ⟨rfl, rfl⟩
    rw [HH.out]
    go_wp2_with fail
    go_loopw [7] (fun i W => ∃ k : Nat, k ≤ l.length ∧ i = .int .i64 k ∧ Hd ((l.take k).all timeB = true) ∧ Below w.heap.size w W) (fun i _ => l.length - (intOf i).toNat)
    case atStart => exact ⟨0, by omega, rfl, ⟨by simp⟩, Below.refl _ _⟩
    case round =>
      obtain ⟨k, hk, rfl, HT, hB⟩ := hrel
      by_cases hlt : k < l.length
      · obtain ⟨b, off, rfl, hb, hx⟩ := (HS.out.below hB).at k hlt
        obtain ⟨x, hX⟩ : ∃ x, l[k] = x := ⟨_, rfl⟩
        rw [hX] at hx
        have HX := Hd.mk hX
        have k0 : (0 : Int) ≤ (k : Int) := by omega
        have k1 : (k : Int) < (l.length : Int) := by omega
        have HK := Hd.mk hlt
        clear hX hb
        rcases ht : timeB x with _ | _
        · have HTX := Hd.mk ht
          clear ht
          go_wp2_with fail
          refine (rtime_any _ _).mono ?_
          rintro e w2 ⟨rfl, rfl⟩
          rw [HTX.out]
          obtain rfl : ee = 2 := by rw [← HQ.out, all_part HK.out (by rw [HX.out]; exact HTX.out)]; rfl
          go_wp2_with fail
          go_ret
          exact ⟨rfl, hB⟩
        · have HTX := Hd.mk ht
          clear ht
          go_wp2_with fail
          refine (rtime_any _ _).mono ?_
          rintro e w2 ⟨rfl, rfl⟩
          rw [HTX.out]
          go_wp2_with fail
          go_roundw
          case rel => exact ⟨k + 1, HK.out, by go_num, ⟨take_all HK.out HT.out (by rw [HX.out]; exact HTX.out)⟩, hB⟩
          case measure => have := HK.out; simp [intOf] <;> omega
      · obtain rfl : k = l.length := by omega
        obtain rfl : ee = 0 := by have h2 := HT.out; rw [List.take_length] at h2; rw [← HQ.out, h2]; rfl
        go_wp2_with fail
        go_ret
        exact ⟨rfl, hB⟩

/-- The least of some times, -1 of none. -/
def lstV (l : List Int) : Int := l.foldl (fun a t => if a < 0 ∨ t < a then t else a) (-1)
theorem lstV_succ {l : List Int} {k : Nat} (hk : k < l.length) : lstV (l.take (k + 1)) = if lstV (l.take k) < 0 ∨ l[k] < lstV (l.take k) then l[k] else lstV (l.take k) := by
  rw [lstV, List.take_succ_eq_append_getElem hk, List.foldl_append]; rfl
theorem lst_fold : ∀ (l : List Int) (a : Int), (∀ t ∈ l, 0 ≤ t) → 0 ≤ a → (l.foldl (fun a t => if a < 0 ∨ t < a then t else a) a = a ∨ l.foldl (fun a t => if a < 0 ∨ t < a then t else a) a ∈ l) ∧ l.foldl (fun a t => if a < 0 ∨ t < a then t else a) a ≤ a ∧ ∀ t ∈ l, l.foldl (fun a t => if a < 0 ∨ t < a then t else a) a ≤ t
  | [], a, _, _ => ⟨.inl rfl, Int.le_refl _, fun t ht => by simp at ht⟩
  | x :: l, a, hl, ha => by
    have hx := hl x List.mem_cons_self
    rw [List.foldl_cons]
    by_cases h : a < 0 ∨ x < a
    · rw [if_pos h]
      obtain ⟨h1, h2, h3⟩ := lst_fold l x (fun t ht => hl t (List.mem_cons_of_mem _ ht)) hx
      refine ⟨.inr (h1.elim (fun e => by rw [e]; exact List.mem_cons_self) (List.mem_cons_of_mem _)), by omega, fun t ht => ?_⟩
      rcases List.mem_cons.1 ht with rfl | ht
      · exact h2
      · exact h3 t ht
    · rw [if_neg h]
      obtain ⟨h1, h2, h3⟩ := lst_fold l a (fun t ht => hl t (List.mem_cons_of_mem _ ht)) ha
      refine ⟨h1.imp id (List.mem_cons_of_mem _), h2, fun t ht => ?_⟩
      rcases List.mem_cons.1 ht with rfl | ht
      · omega
      · exact h3 t ht
theorem lst_spec {l : List Int} (hl : ∀ t ∈ l, 0 ≤ t) : (l = [] ∧ lstV l = -1) ∨ (lstV l ∈ l ∧ ∀ t ∈ l, lstV l ≤ t) := by
  cases l with
  | nil => exact .inl ⟨rfl, rfl⟩
  | cons x l =>
    right
    have hx := hl x List.mem_cons_self
    have e : lstV (x :: l) = l.foldl (fun a t => if a < 0 ∨ t < a then t else a) x := by rw [lstV, List.foldl_cons, if_pos (Or.inl (by omega))]
    obtain ⟨h1, h2, h3⟩ := lst_fold l x (fun t ht => hl t (List.mem_cons_of_mem _ ht)) hx
    rw [e]
    refine ⟨h1.elim (fun e => by rw [e]; exact List.mem_cons_self) (List.mem_cons_of_mem _), fun t ht => ?_⟩
    rcases List.mem_cons.1 ht with rfl | ht
    · exact h2
    · exact h3 t ht
/-- The first window begins with the least time. -/
theorem lst_next {A H : Int} {T : List Int} (hz : wrE T A H = 0) : (nxE A H T = 6 ∧ nxW A H T = (0, 0) ∧ nxI A H T = [] ∧ (lstV T < 0 ∨ H ≤ lstV T)) ∨ (nxE A H T = 0 ∧ nxW A H T = (lstV T, min (lstV T + A) H) ∧ nxI A H T = inL T (min (lstV T + A) H) T.length ∧ 0 ≤ lstV T ∧ lstV T < H ∧ lstV T ∈ T ∧ ∀ t ∈ T, lstV T ≤ t) := by
  have h0 := wr_zero hz
  have hA := (ahead_le h0.2.1).1
  have hT : ∀ t ∈ T, 0 ≤ t := fun t ht => (time_iff.1 (h0.2.2.2 t ht)).1
  have hsp := lst_spec hT
  obtain ⟨X, hX⟩ : ∃ X, winsV A H T = X := ⟨_, rfl⟩
  cases X with
  | nil =>
    left
    have h1 : nxE A H T = 6 := by rw [nxE, if_pos hz, if_pos hX]
    refine ⟨h1, by rw [nxW, if_pos hz, hX]; rfl, by rw [nxI, h1, if_neg (by decide)], ?_⟩
    rcases hsp with ⟨-, h⟩ | ⟨h, -⟩
    · left; omega
    · right; exact winsV_none hX _ h
  | cons p X =>
    right
    have h1 : nxE A H T = 0 := by rw [nxE, if_pos hz, hX, if_neg (by simp)]
    obtain ⟨m1, m2, m3, m4⟩ := winsV_mem hA (w := p) (l := T) (by rw [hX]; exact List.mem_cons_self)
    have hl := winsV_least hX
    rcases hsp with ⟨h, -⟩ | ⟨h, h'⟩
    · rw [h] at m1; simp at m1
    · have e : lstV T = p.1 := by have := hl _ h; have := h' _ m1; omega
      have h2 : nxW A H T = (lstV T, min (lstV T + A) H) := by rw [nxW, if_pos hz, hX, e, ← m3]; rfl
      exact ⟨h1, h2, by rw [nxI, if_pos h1, h2], hT _ h, by omega, h, h'⟩
end Go.Proofs.Ytlblpmadehikgaa
