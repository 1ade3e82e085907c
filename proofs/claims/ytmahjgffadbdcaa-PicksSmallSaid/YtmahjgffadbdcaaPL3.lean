/- Plain laws of orders: exchanges of neighbours. -/
import Derived.Test.YtmahjgffadbdcaaPL1
namespace Go.Proofs.Ytmahjgffadbdcaa

/-- Pairs in the wrong order. -/
def inv : List Nat → Nat
  | [] => 0
  | x :: t => t.countP (fun y => decide (y < x)) + inv t
def swapsV (a b : List Int) : Nat := inv (a.map b.idxOf)
/-- The reference's way: each process to the front, one after the other. -/
def swapsR : List Int → List Int → Nat
  | _, [] => 0
  | a, q :: b => a.idxOf q + swapsR (a.erase q) b

theorem inv_succ (l : List Nat) : inv (l.map (· + 1)) = inv l := by
  induction l with
  | nil => rfl
  | cons x t ih =>
    simp only [List.map_cons, inv, ih, List.countP_map]
    congr 1
    refine List.countP_congr fun y _ => ?_
    simp
theorem inv_zero : ∀ (l m : List Nat), (∀ x ∈ l, 0 < x) → inv (l ++ 0 :: m) = l.length + inv (l ++ m)
  | [], m, _ => by
    simp [inv]
  | x :: l, m, h => by
    have ih := inv_zero l m (fun y hy => h y (by simp [hy]))
    have hx := h x (by simp)
    simp only [List.cons_append, inv, ih, List.countP_append, List.countP_cons, List.length_cons]
    simp only [hx, decide_true, if_true]
    omega

theorem idx_cons_ne {q p : Int} (b : List Int) (h : p ≠ q) : (q :: b).idxOf p = b.idxOf p + 1 := by
  rw [List.idxOf_cons, show (q == p) = false from by simpa using fun e => h e.symm]; rfl
theorem idx_cons_self (q : Int) (b : List Int) : (q :: b).idxOf q = 0 := by simp

theorem swaps_ref : ∀ (b a : List Int), b.Nodup → a.Perm b → swapsR a b = swapsV a b
  | [], a, _, h => by obtain rfl := h.eq_nil; rfl
  | q :: b, a, hn, h => by
    obtain ⟨hq, hn'⟩ := List.nodup_cons.1 hn
    have hqa : q ∈ a := h.symm.subset (by simp)
    have hna : a.Nodup := h.nodup_iff.2 hn
    obtain ⟨l, m, rfl⟩ := List.append_of_mem hqa
    have hql : q ∉ l := by
      intro hh
      have := (List.nodup_append.1 hna).2.2 q hh q (by simp)
      exact this rfl
    have hqm : q ∉ m := (List.nodup_cons.1 (List.nodup_append.1 hna).2.1).1
    have hlm : (l ++ m).Perm b := (List.perm_middle.symm.trans h).cons_inv
    have ih := swaps_ref b (l ++ m) hn' hlm
    have he : (l ++ q :: m).erase q = l ++ m := by rw [List.erase_append_right _ hql]; simp
    have hi : (l ++ q :: m).idxOf q = l.length := by rw [List.idxOf_append, if_neg hql, idx_cons_self]; omega
    rw [swapsR, he, hi, ih]
    show _ + inv ((l ++ m).map b.idxOf) = inv ((l ++ q :: m).map (q :: b).idxOf)
    rw [List.map_append, List.map_append, List.map_cons, idx_cons_self]
    have e1 : l.map (q :: b).idxOf = (l.map b.idxOf).map (· + 1) := by
      rw [List.map_map]
      refine List.map_congr_left fun x hx => ?_
      exact idx_cons_ne b (fun e => hql (e ▸ hx))
    have e2 : m.map (q :: b).idxOf = (m.map b.idxOf).map (· + 1) := by
      rw [List.map_map]
      refine List.map_congr_left fun x hx => ?_
      exact idx_cons_ne b (fun e => hqm (e ▸ hx))
    rw [e1, e2, inv_zero _ _ (by simp), ← List.map_append (f := fun x : Nat => x + 1), inv_succ]
    simp

theorem swapsR_zero : ∀ (b a : List Int), a.Perm b → swapsR a b = 0 → a = b
  | [], a, h, _ => h.eq_nil
  | q :: b, a, h, h0 => by
    rw [swapsR] at h0
    have hqa : q ∈ a := h.symm.subset (by simp)
    cases a with
    | nil => simp at hqa
    | cons p t =>
      by_cases e : p = q
      · subst e
        rw [List.erase_cons_head] at h0
        rw [swapsR_zero b t h.cons_inv (by omega)]
      · rw [idx_cons_ne t (fun h => e h.symm)] at h0; omega
theorem swapsR_self : ∀ (a : List Int), swapsR a a = 0
  | [] => rfl
  | p :: t => by rw [swapsR, idx_cons_self, List.erase_cons_head, swapsR_self t]
theorem swaps_zero {a b : List Int} (hn : b.Nodup) (h : a.Perm b) : swapsV a b = 0 ↔ a = b := by
  rw [← swaps_ref b a hn h]
  exact ⟨swapsR_zero b a h, fun e => by rw [e]; exact swapsR_self b⟩

/-- The sum over a list. -/
def tot (S : List Int) (f : Int → Nat) : Nat := (S.map f).sum
theorem tot_nil (f : Int → Nat) : tot [] f = 0 := rfl
theorem tot_cons (x : Int) (S : List Int) (f : Int → Nat) : tot (x :: S) f = f x + tot S f := by simp [tot]
theorem tot_perm {S T : List Int} (h : S.Perm T) (f : Int → Nat) : tot S f = tot T f := (h.map f).sum_nat
theorem tot_le {S : List Int} {f g : Int → Nat} (h : ∀ x ∈ S, f x ≤ g x) : tot S f ≤ tot S g := by
  induction S with
  | nil => exact Nat.le_refl _
  | cons x t ih =>
    rw [tot_cons, tot_cons]
    have := h x (by simp)
    have := ih fun y hy => h y (by simp [hy])
    omega
theorem tot_congr {S : List Int} {f g : Int → Nat} (h : ∀ x ∈ S, f x = g x) : tot S f = tot S g :=
  Nat.le_antisymm (tot_le fun x hx => Nat.le_of_eq (h x hx)) (tot_le fun x hx => Nat.le_of_eq (h x hx).symm)
theorem tot_add (S : List Int) (f g : Int → Nat) : tot S (fun x => f x + g x) = tot S f + tot S g := by
  induction S with
  | nil => rfl
  | cons x t ih => rw [tot_cons, tot_cons, tot_cons, ih]; omega
theorem tot_zero (S : List Int) : tot S (fun _ => 0) = 0 := by
  induction S with
  | nil => rfl
  | cons x t ih => rw [tot_cons, ih]
theorem tot_one (S : List Int) : tot S (fun _ => 1) = S.length := by
  induction S with
  | nil => rfl
  | cons x t ih => rw [tot_cons, ih, List.length_cons]; omega
theorem tot_swap (S T : List Int) (f : Int → Int → Nat) : tot S (fun p => tot T (f p)) = tot T (fun q => tot S (fun p => f p q)) := by
  induction S with
  | nil => rw [tot_nil]; exact (tot_zero T).symm
  | cons x t ih =>
    rw [tot_cons, ih, ← tot_add]
    exact tot_congr fun q _ => by rw [tot_cons]

/-- Pairs that stand in one order in a and in the other one in b. -/
def pr (a b : List Int) (p q : Int) : Nat := if a.idxOf p < a.idxOf q ∧ b.idxOf q < b.idxOf p then 1 else 0
def disc (S a b : List Int) : Nat := tot S fun p => tot S fun q => pr a b p q
theorem disc_perm {S T : List Int} (h : S.Perm T) (a b : List Int) : disc S a b = disc T a b := by
  unfold disc
  rw [tot_perm h]
  exact tot_congr fun p _ => tot_perm h _
theorem disc_comm (S a b : List Int) : disc S a b = disc S b a := by
  unfold disc
  rw [tot_swap]
  refine tot_congr fun q _ => tot_congr fun p _ => ?_
  unfold pr
  congr 1
  exact propext ⟨fun h => ⟨h.2, h.1⟩, fun h => ⟨h.2, h.1⟩⟩

theorem inv_disc : ∀ (a : List Int) (f : Int → Nat), a.Nodup → inv (a.map f) = tot a fun p => tot a fun q => if a.idxOf p < a.idxOf q ∧ f q < f p then 1 else 0
  | [], _, _ => rfl
  | x :: t, f, hn => by
    obtain ⟨hx, hn'⟩ := List.nodup_cons.1 hn
    have ih := inv_disc t f hn'
    rw [List.map_cons, inv, ih, tot_cons, tot_cons]
    have z : (if (x :: t).idxOf x < (x :: t).idxOf x ∧ f x < f x then 1 else 0) = 0 := if_neg (by omega)
    rw [z, Nat.zero_add]
    congr 1
    · have : ∀ (m : List Int), x ∉ m → (m.map f).countP (fun y => decide (y < f x)) = tot m fun q => if (x :: t).idxOf x < (x :: t).idxOf q ∧ f q < f x then 1 else 0 := by
        intro m
        induction m with
        | nil => intro _; rfl
        | cons y m ihm =>
          intro hm
          simp only [List.mem_cons, not_or] at hm
          rw [List.map_cons, List.countP_cons, tot_cons, ihm hm.2, idx_cons_self, idx_cons_ne t (fun e => hm.1 e.symm)]
          by_cases h : f y < f x
          · rw [if_pos (by simpa using h), if_pos ⟨by omega, h⟩]; omega
          · rw [if_neg (by simpa using h), if_neg (fun hh => h hh.2)]; omega
      exact this t hx
    · refine tot_congr fun p hp => ?_
      have hpx : p ≠ x := fun e => hx (e ▸ hp)
      rw [tot_cons, idx_cons_self, idx_cons_ne t hpx, if_neg (by omega), Nat.zero_add]
      refine tot_congr fun q hq => ?_
      have hqx : q ≠ x := fun e => hx (e ▸ hq)
      rw [idx_cons_ne t hqx]
      congr 1
      exact propext ⟨fun h => ⟨by omega, h.2⟩, fun h => ⟨by omega, h.2⟩⟩

theorem swaps_disc {a S : List Int} (b : List Int) (hn : a.Nodup) (h : a.Perm S) : swapsV a b = disc S a b := by
  rw [← disc_perm h]; exact inv_disc a _ hn

theorem swaps_comm {a b : List Int} (hn : b.Nodup) (h : a.Perm b) : swapsV a b = swapsV b a := by
  rw [swaps_disc b (h.nodup_iff.2 hn) h, swaps_disc a hn (List.Perm.refl b), disc_comm]

theorem idx_inj {a : List Int} {p q : Int} (hp : p ∈ a) (h : a.idxOf p = a.idxOf q) : p = q := by
  have h1 : a.idxOf p < a.length := List.idxOf_lt_length_of_mem hp
  have h2 : a.idxOf q < a.length := by omega
  have e1 : a[a.idxOf p]'h1 = p := List.getElem_idxOf h1
  have e2 : a[a.idxOf q]'h2 = q := List.getElem_idxOf h2
  rw [← e1, ← e2]; congr 1

theorem disc_triangle {S b : List Int} (a c : List Int) (hb : ∀ p ∈ S, p ∈ b) : disc S a c ≤ disc S a b + disc S b c := by
  unfold disc
  rw [← tot_add]
  refine tot_le fun p hp => ?_
  rw [← tot_add]
  refine tot_le fun q hq => ?_
  unfold pr
  split
  · rename_i h
    rcases Nat.lt_trichotomy (b.idxOf q) (b.idxOf p) with hh | hh | hh
    · rw [if_pos ⟨h.1, hh⟩]; omega
    · have := idx_inj (hb q hq) hh; subst this; omega
    · rw [if_neg (by omega), if_pos ⟨hh, h.2⟩]; omega
  · omega

theorem half_step (k c i : Nat) (h1 : 2 * i ≤ k * (k - 1)) (h2 : c ≤ k) : 2 * (c + i) ≤ (k + 1) * (k + 1 - 1) := by
  rw [Nat.add_sub_cancel]
  cases k with
  | zero => simp at h1; omega
  | succ k =>
    rw [Nat.add_sub_cancel] at h1
    have e : (k + 1 + 1) * (k + 1) = (k + 1) * k + 2 * (k + 1) := by simp only [Nat.add_mul, Nat.mul_add]; omega
    omega
theorem inv_le : ∀ (l : List Nat), 2 * inv l ≤ l.length * (l.length - 1)
  | [] => by decide
  | x :: t => half_step t.length _ _ (inv_le t) List.countP_le_length
theorem swaps_le (a b : List Int) : 2 * swapsV a b ≤ a.length * (a.length - 1) := by simpa [swapsV] using inv_le (a.map b.idxOf)

theorem idx_reverse {a : List Int} (hn : a.Nodup) {p : Int} (hp : p ∈ a) : a.reverse.idxOf p + a.idxOf p + 1 = a.length := by
  induction a with
  | nil => simp at hp
  | cons x t ih =>
    obtain ⟨hx, hn'⟩ := List.nodup_cons.1 hn
    rw [List.reverse_cons, List.idxOf_append]
    by_cases e : p = x
    · subst e
      rw [if_neg (by simpa using hx), idx_cons_self, idx_cons_self]
      simp
    · have hpt : p ∈ t := by simpa [e] using hp
      rw [if_pos (by simpa using hpt), idx_cons_ne t e]
      have := ih hn' hpt
      simp only [List.length_cons]; omega

/-- Pairs in any order. -/
def ordered (S a : List Int) : Nat := tot S fun p => tot S fun q => if a.idxOf q < a.idxOf p then 1 else 0
theorem turned_rest {S a : List Int} (hn : a.Nodup) (h : a.Perm S) (b : List Int) : disc S a.reverse b + disc S a b = ordered S b := by
  unfold disc ordered
  rw [← tot_add]
  refine tot_congr fun p hp => ?_
  rw [← tot_add]
  refine tot_congr fun q hq => ?_
  have h1 := idx_reverse hn (h.symm.subset hp)
  have h2 := idx_reverse hn (h.symm.subset hq)
  have h3 : a.idxOf p = a.idxOf q → p = q := idx_inj (h.symm.subset hp)
  unfold pr
  by_cases hb : b.idxOf q < b.idxOf p
  · have hne : a.idxOf p ≠ a.idxOf q := fun e => by have := h3 e; subst this; omega
    rw [if_pos hb]
    by_cases hl : a.idxOf p < a.idxOf q
    · rw [if_neg (by omega), if_pos ⟨hl, hb⟩]
    · rw [if_pos ⟨by omega, hb⟩, if_neg (by omega)]
  · rw [if_neg (by omega), if_neg (by omega), if_neg hb]
theorem ordered_eq {S b : List Int} (hn : b.Nodup) (h : b.Perm S) : 2 * ordered S b = S.length * (S.length - 1) := by
  have e : ordered S b = ordered b b := by
    unfold ordered
    rw [← tot_perm h]
    exact tot_congr fun p _ => (tot_perm h _).symm
  rw [e, ← h.length_eq]
  clear e h
  unfold ordered
  have : ∀ (b : List Int), b.Nodup → 2 * (tot b fun p => tot b fun q => if b.idxOf q < b.idxOf p then 1 else 0) = b.length * (b.length - 1) := by
    intro b
    induction b with
    | nil => intro _; rfl
    | cons x t ih =>
      intro hn
      obtain ⟨hx, hn'⟩ := List.nodup_cons.1 hn
      have ih := ih hn'
      have e1 : (tot (x :: t) fun q => if (x :: t).idxOf q < (x :: t).idxOf x then 1 else 0) = 0 := by
        rw [idx_cons_self]
        exact (tot_congr fun q _ => if_neg (by omega)).trans (tot_zero _)
      have e2 : (tot t fun p => tot (x :: t) fun q => if (x :: t).idxOf q < (x :: t).idxOf p then 1 else 0) = t.length + tot t fun p => tot t fun q => if t.idxOf q < t.idxOf p then 1 else 0 := by
        have : (tot t fun p => tot (x :: t) fun q => if (x :: t).idxOf q < (x :: t).idxOf p then 1 else 0) = tot t fun p => 1 + tot t fun q => if t.idxOf q < t.idxOf p then 1 else 0 := by
          refine tot_congr fun p hp => ?_
          have hpx : p ≠ x := fun e => hx (e ▸ hp)
          rw [tot_cons, idx_cons_self, idx_cons_ne t hpx, if_pos (by omega)]
          congr 1
          refine tot_congr fun q hq => ?_
          have hqx : q ≠ x := fun e => hx (e ▸ hq)
          rw [idx_cons_ne t hqx]
          congr 1
          exact propext ⟨fun h => by omega, fun h => by omega⟩
        rw [this, tot_add, tot_one]
      rw [tot_cons, e1, e2, Nat.zero_add, Nat.mul_add, ih, List.length_cons, Nat.add_sub_cancel]
      cases t with
      | nil => rfl
      | cons y u =>
        simp only [List.length_cons, Nat.add_sub_cancel]
        have e3 : (u.length + 1 + 1) * (u.length + 1) = (u.length + 1) * (u.length + 1) + (u.length + 1) := Nat.succ_mul _ _
        have e4 : (u.length + 1) * (u.length + 1) = (u.length + 1) * u.length + (u.length + 1) := Nat.mul_succ _ _
        omega
  exact this b hn
theorem turned_far {S a : List Int} (hn : a.Nodup) (h : a.Perm S) : disc S a a.reverse = ordered S a.reverse := by
  have := turned_rest hn h a.reverse
  have z : disc S a.reverse a.reverse = 0 := by
    unfold disc
    refine (tot_congr fun p _ => (tot_congr fun q _ => ?_).trans (tot_zero S)).trans (tot_zero S)
    unfold pr
    exact if_neg (by omega)
  omega

/-- An exchange of two neighbours. -/
theorem inv_near : ∀ (l : List Nat) (x y : Nat) (m : List Nat), x ≠ y → inv (l ++ y :: x :: m) = inv (l ++ x :: y :: m) + 1 ∨ inv (l ++ x :: y :: m) = inv (l ++ y :: x :: m) + 1
  | [], x, y, m, h => by
    simp only [List.nil_append, inv, List.countP_cons]
    rcases Nat.lt_or_gt_of_ne h with hh | hh
    · have a : decide (x < y) = true := by simpa using hh
      have b : decide (y < x) = false := by simp; omega
      left; rw [a, b]; simp; omega
    · have a : decide (x < y) = false := by simp; omega
      have b : decide (y < x) = true := by simpa using hh
      right; rw [a, b]; simp; omega
  | z :: l, x, y, m, h => by
    simp only [List.cons_append, inv, List.countP_append, List.countP_cons]
    rcases inv_near l x y m h with hh | hh
    · left; omega
    · right; omega
end Go.Proofs.Ytmahjgffadbdcaa
