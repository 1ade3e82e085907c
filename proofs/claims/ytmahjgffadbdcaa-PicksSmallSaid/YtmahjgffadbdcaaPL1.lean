/- Plain laws of orders: ranks, and the order with a rank. -/
import Derived.Test.YtmahjgffadbdcaaProg
namespace Go.Proofs.Ytmahjgffadbdcaa

def fac : Nat → Nat
  | 0 => 1
  | n + 1 => (n + 1) * fac n
theorem fac_pos : ∀ n, 0 < fac n
  | 0 => by decide
  | n + 1 => Nat.mul_pos (Nat.succ_pos n) (fac_pos n)

/-- How many are less than a number. -/
def cntL (l : List Int) (p : Int) : Nat := l.countP (fun q => decide (q < p))
theorem cntL_perm {a b : List Int} (h : a.Perm b) (p : Int) : cntL a p = cntL b p := h.countP_eq _
theorem cntL_nil (p : Int) : cntL [] p = 0 := rfl
theorem cntL_cons (q : Int) (l : List Int) (p : Int) : cntL (q :: l) p = cntL l p + if q < p then 1 else 0 := by
  simp [cntL, List.countP_cons]
theorem cntL_self (l : List Int) (p : Int) : cntL (p :: l) p = cntL l p := by simp [cntL_cons]
theorem cntL_append (a b : List Int) (p : Int) : cntL (a ++ b) p = cntL a p + cntL b p := by simp [cntL]
theorem cntL_le (l : List Int) (p : Int) : cntL l p ≤ l.length := List.countP_le_length
theorem cntL_mono (l : List Int) {p q : Int} (h : p ≤ q) : cntL l p ≤ cntL l q := by
  induction l with
  | nil => simp [cntL]
  | cons a t ih => rw [cntL_cons, cntL_cons]; split <;> split <;> omega
theorem cntL_lt {l : List Int} {p q : Int} (hp : p ∈ l) (h : p < q) : cntL l p < cntL l q := by
  induction l with
  | nil => simp at hp
  | cons a t ih =>
    rw [cntL_cons, cntL_cons]
    rcases List.mem_cons.1 hp with rfl | hp
    · rw [if_neg (by omega), if_pos h]; have := cntL_mono t (Int.le_of_lt h); omega
    · have := ih hp; split <;> split <;> omega

/-- In increasing order. -/
def asc (l : List Int) : Prop := l.Pairwise (· < ·)
theorem asc.nodup {l : List Int} (h : asc l) : l.Nodup := List.Pairwise.imp (fun h => by omega) h
theorem asc.tail {p : Int} {l : List Int} (h : asc (p :: l)) : asc l := (List.pairwise_cons.1 h).2
theorem asc.head {p : Int} {l : List Int} (h : asc (p :: l)) : ∀ q ∈ l, p < q := (List.pairwise_cons.1 h).1

/-- In a list in order as many are less than the one at a place as the place says. -/
theorem cnt_at : ∀ {S : List Int} (_ : asc S) (i : Nat) (hi : i < S.length), cntL S S[i] = i
  | p :: t, h, 0, _ => by
    rw [List.getElem_cons_zero, cntL_self]
    refine List.countP_eq_zero.2 fun q hq => ?_
    have := h.head q hq
    simp; omega
  | p :: t, h, i + 1, hi => by
    rw [List.getElem_cons_succ, cntL_cons, cnt_at h.tail i (by simpa using hi), if_pos (h.head _ (List.getElem_mem _))]

theorem at_cnt {S : List Int} (h : asc S) {p : Int} (hp : p ∈ S) : S[cntL S p]? = some p := by
  obtain ⟨i, hi, rfl⟩ := List.mem_iff_getElem.1 hp
  rw [cnt_at h i hi, List.getElem?_eq_getElem hi]

theorem asc.erase {S : List Int} (h : asc S) (i : Nat) : asc (S.eraseIdx i) := List.Pairwise.sublist (List.eraseIdx_sublist _ _) h
theorem perm_eraseIdx : ∀ {S : List Int} (i : Nat) (hi : i < S.length), (S[i] :: S.eraseIdx i).Perm S
  | p :: t, 0, _ => by simp
  | p :: t, i + 1, hi => by
    simp only [List.getElem_cons_succ, List.eraseIdx_cons_succ]
    exact (List.Perm.swap _ _ _).trans ((perm_eraseIdx i (by simpa using hi)).cons p)

/-- The rank of an order. -/
def rankV : List Int → Nat
  | [] => 0
  | p :: t => cntL t p * fac t.length + rankV t
theorem rank_lt : ∀ (l : List Int), rankV l < fac l.length
  | [] => by decide
  | p :: t => by
    have h1 := rank_lt t
    have h2 := cntL_le t p
    have h3 : cntL t p * fac t.length ≤ t.length * fac t.length := Nat.mul_le_mul_right _ h2
    show cntL t p * fac t.length + rankV t < (t.length + 1) * fac t.length
    rw [Nat.succ_mul]; omega

/-- The order of n processes with a rank. -/
def nthV : Nat → List Int → Nat → List Int
  | 0, _, _ => []
  | n + 1, S, r => S.getD (r / fac n) 0 :: nthV n (S.eraseIdx (r / fac n)) (r % fac n)

theorem nth_spec : ∀ (n : Nat) (S : List Int) (_ : asc S) (_ : S.length = n) (r : Nat) (_ : r < fac n), (nthV n S r).Perm S ∧ rankV (nthV n S r) = r
  | 0, S, _, hl, r, hr => by
    obtain rfl : S = [] := List.length_eq_zero_iff.1 hl
    have : r = 0 := by simp [fac] at hr; omega
    subst this; exact ⟨List.Perm.refl _, rfl⟩
  | n + 1, S, h, hl, r, hr => by
    have hi : r / fac n < S.length := by rw [hl]; exact (Nat.div_lt_iff_lt_mul (fac_pos n)).2 hr
    have hlen : (S.eraseIdx (r / fac n)).length = n := by rw [List.length_eraseIdx, if_pos hi]; omega
    obtain ⟨h1, h2⟩ := nth_spec n (S.eraseIdx (r / fac n)) (h.erase _) hlen (r % fac n) (Nat.mod_lt _ (fac_pos n))
    have hg : S.getD (r / fac n) 0 = S[r / fac n] := by simp [List.getD, List.getElem?_eq_getElem hi]
    rw [nthV, hg]
    refine ⟨(h1.cons _).trans (perm_eraseIdx _ hi), ?_⟩
    rw [rankV, h2, h1.length_eq, hlen, cntL_perm h1, ← cntL_self, cntL_perm (perm_eraseIdx _ hi), cnt_at h _ hi, Nat.mul_comm]
    exact Nat.div_add_mod _ _

theorem nth_rank : ∀ (n : Nat) (l S : List Int) (_ : asc S) (_ : l.Perm S) (_ : l.length = n), nthV n S (rankV l) = l
  | 0, l, S, _, _, hl => by obtain rfl : l = [] := List.length_eq_zero_iff.1 hl; rfl
  | n + 1, p :: t, S, h, hp, hl => by
    have hl' : t.length = n := by simpa using hl
    have hr := rank_lt t
    rw [hl'] at hr
    have hdiv : rankV (p :: t) / fac n = cntL t p := by
      rw [rankV, hl', Nat.mul_comm, Nat.mul_add_div (fac_pos n), Nat.div_eq_of_lt hr, Nat.add_zero]
    have hmod : rankV (p :: t) % fac n = rankV t := by
      rw [rankV, hl', Nat.mul_comm, Nat.mul_add_mod, Nat.mod_eq_of_lt hr]
    have hps : p ∈ S := hp.subset (by simp)
    have hat := at_cnt h hps
    have hc : cntL t p = cntL S p := by rw [← cntL_perm hp, cntL_self]
    rw [nthV, hdiv, hmod, hc]
    obtain ⟨hi, he⟩ := List.getElem?_eq_some_iff.1 hat
    have hd : S.getD (cntL S p) 0 = p := by simp [List.getD, hat]
    rw [hd]
    congr 1
    refine nth_rank n t _ (h.erase _) ?_ hl'
    have := perm_eraseIdx (S := S) (cntL S p) hi
    rw [he] at this
    exact (hp.trans this.symm).cons_inv

theorem rank_inj {a b S : List Int} (h : asc S) (ha : a.Perm S) (hb : b.Perm S) (e : rankV a = rankV b) : a = b := by
  rw [← nth_rank _ a S h ha rfl, ← nth_rank _ b S h hb rfl, e, ha.length_eq, hb.length_eq]

/-- Ranks are in the order of lists. -/
theorem rank_lex : ∀ (a b : List Int), a.Perm b → (rankV a < rankV b ↔ a < b)
  | [], b, h => by obtain rfl := h.symm.eq_nil; simp
  | p :: t, [], h => by cases h.eq_nil
  | p :: t, q :: u, h => by
    have hl : t.length = u.length := by simpa using h.length_eq
    have h1 := rank_lt t
    have h2 := rank_lt u
    have c1 : cntL t p = cntL (q :: u) p := by rw [← cntL_self]; exact cntL_perm h p
    have c2 : cntL u q = cntL (q :: u) q := (cntL_self _ _).symm
    rw [rankV, rankV, List.cons_lt_cons_iff, hl]
    rw [hl] at h1
    rcases Int.lt_trichotomy p q with hpq | hpq | hpq
    · have : cntL t p < cntL u q := by rw [c1, c2]; exact cntL_lt (h.subset (by simp)) hpq
      have := Nat.mul_le_mul_right (fac u.length) this
      rw [Nat.succ_mul] at this
      exact ⟨fun _ => .inl hpq, fun _ => by omega⟩
    · subst hpq
      have ht : t.Perm u := h.cons_inv
      have := rank_lex t u ht
      rw [cntL_perm ht]
      constructor
      · intro hh; exact .inr ⟨rfl, this.1 (by omega)⟩
      · rintro (hh | ⟨_, hh⟩)
        · omega
        · have := this.2 hh; omega
    · have : cntL u q < cntL t p := by rw [c1, c2]; exact cntL_lt (by simp) hpq
      have := Nat.mul_le_mul_right (fac u.length) this
      rw [Nat.succ_mul] at this
      constructor
      · intro _; omega
      · rintro (hh | ⟨hh, _⟩) <;> omega
end Go.Proofs.Ytmahjgffadbdcaa
