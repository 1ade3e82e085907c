/- Plain laws of windows. -/
import Derived.Test.YtlblpmadehikgaaPL1
namespace Go.Proofs.Ytlblpmadehikgaa
set_option linter.unusedVariables false

/-- The windows of times in order, that begin at b at the earliest. -/
def winB (ah h : Int) : Int → List Int → List (Int × Int)
  | _, [] => []
  | b, t :: ts => if h ≤ t then [] else if t < b then winB ah h b ts else (t, min (t + ah) h) :: winB ah h (min (t + ah) h) ts
theorem winB_cons (ah h b t : Int) (ts : List Int) : winB ah h b (t :: ts) = if h ≤ t then [] else if t < b then winB ah h b ts else (t, min (t + ah) h) :: winB ah h (min (t + ah) h) ts := by rw [winB]
theorem winB_of (ah h : Int) : ∀ (S : List Int) (o : Option (Int × Int)) (b : Int), (∀ t ∈ S, stillIn o t = decide (t < b)) → winsL ah h o S = winB ah h b S
  | [], _, _, _ => rfl
  | t :: ts, o, b, hb => by
    rw [winsL, winB, hb t List.mem_cons_self]
    by_cases h1 : h ≤ t
    · rw [if_pos h1, if_pos h1]
    · rw [if_neg h1, if_neg h1]
      by_cases h2 : t < b
      · rw [if_pos (decide_eq_true h2), if_pos h2]
        exact winB_of ah h ts o b (fun s hs => hb s (List.mem_cons_of_mem _ hs))
      · rw [if_neg (by simpa using h2), if_neg h2, winB_of ah h ts _ (min (t + ah) h) (fun s _ => rfl)]
theorem wins_winB {ah h : Int} {S : List Int} (hS : ∀ t ∈ S, 0 ≤ t) : winsL ah h none S = winB ah h 0 S :=
  winB_of ah h S none 0 (fun t ht => by show false = _; rw [decide_eq_false]; have := hS t ht; omega)
theorem winB_past {ah h b : Int} (hb : h ≤ b) : ∀ S : List Int, winB ah h b S = []
  | [] => rfl
  | t :: ts => by
    rw [winB]
    by_cases h1 : h ≤ t
    · rw [if_pos h1]
    · rw [if_neg h1, if_pos (by omega)]; exact winB_past hb ts
theorem winB_mem {ah h : Int} (ha : 1 ≤ ah) : ∀ (S : List Int) (b : Int) (w : Int × Int), w ∈ winB ah h b S → w.1 ∈ S ∧ w.1 < h ∧ w.2 = min (w.1 + ah) h ∧ w.1 < w.2 ∧ b ≤ w.1
  | [], _, w, hw => by simp [winB] at hw
  | t :: ts, b, w, hw => by
    rw [winB] at hw
    split at hw
    · simp at hw
    · rename_i h1
      split at hw
      · obtain ⟨x1, x2, x3, x4, x5⟩ := winB_mem ha ts b w hw
        exact ⟨List.mem_cons_of_mem _ x1, x2, x3, x4, x5⟩
      · rename_i h2
        rcases List.mem_cons.1 hw with rfl | hw
        · exact ⟨List.mem_cons_self, by show t < h; omega, rfl, by show t < min (t + ah) h; omega, by show b ≤ t; omega⟩
        · obtain ⟨x1, x2, x3, x4, x5⟩ := winB_mem ha ts _ w hw
          exact ⟨List.mem_cons_of_mem _ x1, x2, x3, x4, by omega⟩
/-- The next window is that of the least time from b on. -/
theorem winB_next {ah h : Int} (ha : 1 ≤ ah) : ∀ (S : List Int) (b : Int), S.Pairwise (· ≤ ·) → winB ah h b S = match S.find? (fun t => decide (b ≤ t)) with
    | none => []
    | some t => if h ≤ t then [] else (t, min (t + ah) h) :: winB ah h (min (t + ah) h) S
  | [], b, _ => rfl
  | t :: ts, b, hp => by
    have hp' := List.pairwise_cons.1 hp
    rw [winB]
    by_cases h1 : h ≤ t
    · rw [if_pos h1]
      rcases hf : (t :: ts).find? (fun t => decide (b ≤ t)) with _ | s
      · rfl
      · have hs := List.mem_of_find?_eq_some hf
        have : t ≤ s := by
          rcases List.mem_cons.1 hs with rfl | hs
          · omega
          · exact hp'.1 s hs
        simp only
        rw [if_pos (by omega)]
    · rw [if_neg h1]
      by_cases h2 : t < b
      · rw [if_pos h2, List.find?_cons_of_neg (by simp; omega), winB_next ha ts b hp'.2]
        rcases hf : ts.find? (fun t => decide (b ≤ t)) with _ | s
        · rfl
        · have hs : b ≤ s := by simpa using List.find?_some hf
          simp only
          by_cases h3 : h ≤ s
          · rw [if_pos h3, if_pos h3]
          · rw [if_neg h3, if_neg h3]
            congr 1
            rw [winB, if_neg h1, if_pos (by omega)]
      · rw [if_neg h2, List.find?_cons_of_pos (by simp; omega)]
        simp only
        rw [if_neg h1]
        congr 1
        rw [winB, if_neg h1, if_pos (by omega)]
theorem find_iff {S : List Int} (hp : S.Pairwise (· ≤ ·)) {b t : Int} : S.find? (fun t => decide (b ≤ t)) = some t ↔ t ∈ S ∧ b ≤ t ∧ ∀ s ∈ S, b ≤ s → t ≤ s := by
  induction S with
  | nil => simp
  | cons x S ih =>
    have hp' := List.pairwise_cons.1 hp
    by_cases hx : b ≤ x
    · rw [List.find?_cons_of_pos (by simpa using hx)]
      constructor
      · rintro h
        obtain rfl : x = t := by simpa using h
        refine ⟨List.mem_cons_self, hx, fun s hs _ => ?_⟩
        rcases List.mem_cons.1 hs with rfl | hs
        · omega
        · exact hp'.1 s hs
      · rintro ⟨h1, h2, h3⟩
        have := h3 x List.mem_cons_self hx
        rcases List.mem_cons.1 h1 with rfl | h1
        · rfl
        · have := hp'.1 t h1
          obtain rfl : x = t := by omega
          rfl
    · rw [List.find?_cons_of_neg (by simpa using hx), ih hp'.2]
      constructor
      · rintro ⟨h1, h2, h3⟩
        refine ⟨List.mem_cons_of_mem _ h1, h2, fun s hs hb => ?_⟩
        rcases List.mem_cons.1 hs with rfl | hs
        · omega
        · exact h3 s hs hb
      · rintro ⟨h1, h2, h3⟩
        rcases List.mem_cons.1 h1 with rfl | h1
        · omega
        · exact ⟨h1, h2, fun s hs hb => h3 s (List.mem_cons_of_mem _ hs) hb⟩
/-- Only which times there are matters. -/
theorem winB_set {ah h : Int} (ha : 1 ≤ ah) {S S' : List Int} (hp : S.Pairwise (· ≤ ·)) (hp' : S'.Pairwise (· ≤ ·)) (hm : ∀ t, t ∈ S ↔ t ∈ S') : ∀ (n : Nat) (b : Int), (h - b).toNat ≤ n → winB ah h b S = winB ah h b S' := by
  have hf : ∀ b, S.find? (fun t => decide (b ≤ t)) = S'.find? (fun t => decide (b ≤ t)) := fun b => by
    apply Option.ext
    intro t
    rw [find_iff hp, find_iff hp', hm]
    simp only [hm]
  intro n
  induction n with
  | zero => intro b hb; rw [winB_past (by omega), winB_past (by omega)]
  | succ n ih =>
    intro b hb
    rw [winB_next ha S b hp, winB_next ha S' b hp', hf]
    rcases hx : S'.find? (fun t => decide (b ≤ t)) with _ | t
    · rfl
    · have ht : b ≤ t := by simpa using List.find?_some hx
      simp only
      by_cases h3 : h ≤ t
      · rw [if_pos h3, if_pos h3]
      · rw [if_neg h3, if_neg h3, ih _ (by omega)]
/-- How many of some windows a time is in. -/
def cntW (t : Int) (ws : List (Int × Int)) : Nat := ws.countP (fun w => decide (w.1 ≤ t) && decide (t < w.2))
theorem cnt_late {t : Int} {ws : List (Int × Int)} (h : ∀ w ∈ ws, t < w.1) : cntW t ws = 0 := by
  rw [cntW, List.countP_eq_zero]
  intro w hw
  have := h w hw
  simp; omega
theorem winB_one {ah h : Int} (ha : 1 ≤ ah) : ∀ (S : List Int) (b t : Int), S.Pairwise (· ≤ ·) → t ∈ S → b ≤ t → cntW t (winB ah h b S) = if t < h then 1 else 0
  | [], _, _, _, ht, _ => by simp at ht
  | x :: S, b, t, hp, ht, hb => by
    have hp' := List.pairwise_cons.1 hp
    have hxt : x ≤ t := by
      rcases List.mem_cons.1 ht with rfl | ht
      · omega
      · exact hp'.1 t ht
    rw [winB]
    by_cases h1 : h ≤ x
    · rw [if_pos h1, if_neg (by omega)]; rfl
    · rw [if_neg h1]
      by_cases h2 : x < b
      · rw [if_pos h2]
        rcases List.mem_cons.1 ht with rfl | ht
        · omega
        · exact winB_one ha S b t hp'.2 ht hb
      · rw [if_neg h2, cntW, List.countP_cons]
        by_cases h3 : t < min (x + ah) h
        · have := cnt_late (t := t) (ws := winB ah h (min (x + ah) h) S) (fun w hw => by have := (winB_mem ha S _ w hw).2.2.2.2; omega)
          rw [cntW] at this
          rw [this, if_pos (by simp; omega), if_pos (by omega)]
        · rw [if_neg (by simp; omega)]
          rcases List.mem_cons.1 ht with rfl | ht
          · by_cases h4 : t < h
            · omega
            · rw [if_neg h4]
              refine (Nat.add_zero _).trans (List.countP_eq_zero.2 fun w hw => ?_)
              have := winB_mem ha S _ w hw
              simp; omega
          · have := winB_one (h := h) ha S (min (x + ah) h) t hp'.2 ht (by omega)
            rw [cntW] at this
            rw [this, Nat.add_zero]
theorem winB_none {ah h : Int} (ha : 1 ≤ ah) {S : List Int} {b t : Int} (ht : h ≤ t) : cntW t (winB ah h b S) = 0 := by
  rw [cntW, List.countP_eq_zero]
  intro w hw
  have := winB_mem ha S b w hw
  simp; omega
/-- Windows follow one another, and all but the last are as long as ahead. -/
theorem winB_chain {ah h : Int} (ha : 1 ≤ ah) : ∀ (S : List Int) (b : Int), (winB ah h b S).Pairwise (fun w v => w.2 ≤ v.1 ∧ w.2 = w.1 + ah)
  | [], _ => List.Pairwise.nil
  | x :: S, b => by
    rw [winB]
    split
    · exact List.Pairwise.nil
    · split
      · exact winB_chain ha S b
      · refine List.pairwise_cons.2 ⟨fun v hv => ?_, winB_chain ha S _⟩
        have := winB_mem ha S _ v hv
        simp only
        omega
theorem winB_len (ah h : Int) : ∀ (S : List Int) (b : Int), (winB ah h b S).length ≤ S.length
  | [], _ => by simp [winB]
  | t :: ts, b => by
    rw [winB]
    split
    · simp
    · split
      · exact Nat.le_trans (winB_len ah h ts b) (by simp)
      · simpa using winB_len ah h ts _
/-- A later horizon changes no window but the last one. -/
theorem winB_later {ah h g : Int} (ha : 1 ≤ ah) (hg : h ≤ g) : ∀ (S : List Int) (b : Int), S.Pairwise (· ≤ ·) →
    (winB ah h b S).length ≤ (winB ah g b S).length ∧ ∀ i (h1 : i < (winB ah h b S).length) (h2 : i < (winB ah g b S).length),
      (winB ah h b S)[i].1 = (winB ah g b S)[i].1 ∧ (winB ah h b S)[i].2 ≤ (winB ah g b S)[i].2 ∧ (i + 1 < (winB ah h b S).length → (winB ah h b S)[i] = (winB ah g b S)[i])
  | [], _, _ => by simp [winB]
  | x :: S, b, hp => by
    have hp' := List.pairwise_cons.1 hp
    rw [winB_cons ah h b x S, winB_cons ah g b x S]
    by_cases h1 : h ≤ x
    · rw [if_pos h1]; simp
    · rw [if_neg h1, if_neg (by omega : ¬ g ≤ x)]
      by_cases h2 : x < b
      · rw [if_pos h2, if_pos h2]; exact winB_later ha hg S b hp'.2
      · rw [if_neg h2, if_neg h2]
        by_cases h3 : x + ah ≤ h
        · rw [Int.min_eq_left h3, Int.min_eq_left (by omega : x + ah ≤ g)]
          obtain ⟨i1, i2⟩ := winB_later ha hg S (x + ah) hp'.2
          refine ⟨by simpa using i1, fun i a1 a2 => ?_⟩
          cases i with
          | zero => exact ⟨rfl, Int.le_refl _, fun _ => rfl⟩
          | succ i =>
            obtain ⟨j1, j2, j3⟩ := i2 i (by simpa using a1) (by simpa using a2)
            exact ⟨by simpa using j1, by simpa using j2, fun hh => by simpa using j3 (by simpa using hh)⟩
        · rw [Int.min_eq_right (by omega : h ≤ x + ah), winB_past (Int.le_refl h)]
          refine ⟨by simp, fun i a1 a2 => ?_⟩
          obtain rfl : i = 0 := by simpa using a1
          exact ⟨rfl, by show h ≤ min (x + ah) g; omega, fun hh => by simp at hh⟩
/-- A later start has as many windows, or one fewer. -/
theorem winB_shift {ah g : Int} (ha : 1 ≤ ah) {S : List Int} (hp : S.Pairwise (· ≤ ·)) : ∀ (n : Nat) (b1 b2 : Int), (g - b1).toNat ≤ n → b1 ≤ b2 → b2 ≤ b1 + ah →
    (winB ah g b2 S).length ≤ (winB ah g b1 S).length ∧ (winB ah g b1 S).length ≤ (winB ah g b2 S).length + 1 := by
  intro n
  induction n with
  | zero => intro b1 b2 h0 h1 h2; rw [winB_past (by omega : g ≤ b1), winB_past (by omega : g ≤ b2)]; simp
  | succ n ih =>
    intro b1 b2 h0 h1 h2
    by_cases hg : g ≤ b1
    · rw [winB_past hg, winB_past (by omega : g ≤ b2)]; simp
    rw [winB_next ha S b1 hp]
    rcases hx : S.find? (fun t => decide (b1 ≤ t)) with _ | t
    · have : winB ah g b2 S = [] := by
        rw [winB_next ha S b2 hp]
        rcases hy : S.find? (fun t => decide (b2 ≤ t)) with _ | s
        · rfl
        · obtain ⟨m1, m2, _⟩ := (find_iff hp).1 hy
          rw [List.find?_eq_none] at hx
          have := hx s m1
          simp at this; omega
      rw [this]; simp
    · obtain ⟨m1, m2, m3⟩ := (find_iff hp).1 hx
      simp only
      by_cases h3 : g ≤ t
      · have : winB ah g b2 S = [] := by
          rw [winB_next ha S b2 hp]
          rcases hy : S.find? (fun t => decide (b2 ≤ t)) with _ | s
          · rfl
          · obtain ⟨k1, k2, _⟩ := (find_iff hp).1 hy
            have := m3 s k1 (by omega)
            simp only
            rw [if_pos (by omega)]
        rw [this, if_pos h3]; simp
      · rw [if_neg h3]
        by_cases h4 : b2 ≤ t
        · have hy : S.find? (fun t => decide (b2 ≤ t)) = some t := (find_iff hp).2 ⟨m1, h4, fun s hs hb => m3 s hs (by omega)⟩
          rw [winB_next ha S b2 hp, hy]
          simp only
          rw [if_neg h3]; simp
        · by_cases h5 : b2 ≤ min (t + ah) g
          · have := ih b2 (min (t + ah) g) (by omega) h5 (by omega)
            simp only [List.length_cons]
            omega
          · rw [winB_past (by omega : g ≤ b2), winB_past (by omega : g ≤ min (t + ah) g)]; simp
/-- Time that is cut at a horizon. -/
theorem winB_cut {ah h g : Int} (ha : 1 ≤ ah) (hg : h ≤ g) : ∀ (S : List Int) (b : Int), S.Pairwise (· ≤ ·) → b ≤ h →
    (winB ah g b S).length ≤ (winB ah h b S).length + (winB ah g h S).length ∧ (winB ah h b S).length + (winB ah g h S).length ≤ (winB ah g b S).length + 1
  | [], _, _, _ => by simp [winB]
  | x :: S, b, hp, hb => by
    have hp' := List.pairwise_cons.1 hp
    by_cases h1 : h ≤ x
    · have e1 : winB ah h b (x :: S) = [] := by rw [winB, if_pos h1]
      have e2 : winB ah g h (x :: S) = winB ah g b (x :: S) := by
        rw [winB_cons ah g h x S, winB_cons ah g b x S]
        by_cases h2 : g ≤ x
        · rw [if_pos h2, if_pos h2]
        · rw [if_neg h2, if_neg h2, if_neg (by omega), if_neg (by omega)]
      rw [e1, e2]; simp
    · have e2 : winB ah g h (x :: S) = winB ah g h S := by rw [winB, if_neg (by omega), if_pos (by omega)]
      rw [e2, winB_cons ah g b x S, winB_cons ah h b x S, if_neg (by omega : ¬ g ≤ x), if_neg h1]
      by_cases h2 : x < b
      · rw [if_pos h2, if_pos h2]; exact winB_cut ha hg S b hp'.2 hb
      · rw [if_neg h2, if_neg h2]
        by_cases h3 : x + ah ≤ h
        · rw [Int.min_eq_left h3, Int.min_eq_left (by omega : x + ah ≤ g)]
          have := winB_cut ha hg S (x + ah) hp'.2 h3
          simp only [List.length_cons]; omega
        · rw [Int.min_eq_right (by omega : h ≤ x + ah), winB_past (Int.le_refl h)]
          have := winB_shift (g := g) ha hp'.2 _ h (min (x + ah) g) (Nat.le_refl _) (by omega) (by omega)
          simp only [List.length_cons, List.length_nil]; omega
end Go.Proofs.Ytlblpmadehikgaa
