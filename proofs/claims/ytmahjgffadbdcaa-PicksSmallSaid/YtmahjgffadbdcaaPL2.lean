/- Plain laws of orders: the order behind one. -/
import Derived.Test.YtmahjgffadbdcaaPL1
namespace Go.Proofs.Ytmahjgffadbdcaa

def desc (l : List Int) : Prop := l.Pairwise (fun a b => b < a)
theorem desc.tail {p : Int} {l : List Int} (h : desc (p :: l)) : desc l := (List.pairwise_cons.1 h).2
theorem desc.head {p : Int} {l : List Int} (h : desc (p :: l)) : ∀ q ∈ l, q < p := (List.pairwise_cons.1 h).1

/-- How many are greater. -/
def gtc (l : List Int) (x : Int) : Nat := l.countP (fun q => decide (x < q))
theorem gtc_cons (q : Int) (l : List Int) (x : Int) : gtc (q :: l) x = gtc l x + if x < q then 1 else 0 := by simp [gtc, List.countP_cons]
theorem gtc_le (l : List Int) (x : Int) : gtc l x ≤ l.length := List.countP_le_length
theorem cnt_gtc : ∀ (l : List Int) (x : Int), x ∉ l → cntL l x + gtc l x = l.length
  | [], _, _ => rfl
  | q :: l, x, h => by
    simp only [List.mem_cons, not_or] at h
    have := cnt_gtc l x h.2
    rw [cntL_cons, gtc_cons, List.length_cons]
    have h1 := h.1
    split <;> split <;> omega

/-- In a list in decreasing order those that are greater come first. -/
theorem desc_at : ∀ {t : List Int} (_ : desc t) (x : Int) (j : Nat) (hj : j < t.length), (x < t[j] ↔ j < gtc t x)
  | q :: t, h, x, 0, _ => by
    rw [List.getElem_cons_zero, gtc_cons]
    constructor
    · intro hx; rw [if_pos hx]; omega
    · intro hx
      by_cases hq : x < q
      · exact hq
      · rw [if_neg hq] at hx
        have : gtc t x = 0 := List.countP_eq_zero.2 fun r hr => by have := h.head r hr; simp; omega
        omega
  | q :: t, h, x, j + 1, hj => by
    rw [List.getElem_cons_succ, gtc_cons, desc_at h.tail x j (by simpa using hj)]
    by_cases hq : x < q
    · rw [if_pos hq]; omega
    · rw [if_neg hq]
      have : gtc t x = 0 := List.countP_eq_zero.2 fun r hr => by have := h.head r hr; simp; omega
      omega

theorem desc_rank : ∀ {l : List Int}, desc l → rankV l + 1 = fac l.length
  | [], _ => rfl
  | p :: t, h => by
    have h1 := desc_rank h.tail
    have h2 : cntL t p = t.length := List.countP_eq_length.2 fun q hq => by simpa using h.head q hq
    show cntL t p * fac t.length + rankV t + 1 = (t.length + 1) * fac t.length
    rw [h2, Nat.succ_mul]; omega
theorem asc_rank : ∀ {l : List Int}, asc l → rankV l = 0
  | [], _ => rfl
  | p :: t, h => by
    have h1 := asc_rank h.tail
    have h2 : cntL t p = 0 := List.countP_eq_zero.2 fun q hq => by have := h.head q hq; simp; omega
    rw [rankV, h1, h2, Nat.zero_mul]

theorem set_perm : ∀ (t : List Int) (j : Nat) (hj : j < t.length) (x : Int), (t[j] :: t.set j x).Perm (x :: t)
  | q :: t, 0, _, x => by simpa using List.Perm.swap x q t
  | q :: t, j + 1, hj, x => by
    simp only [List.getElem_cons_succ, List.set_cons_succ]
    exact (List.Perm.swap _ _ _).trans (((set_perm t j (by simpa using hj) x).cons q).trans (List.Perm.swap _ _ _))

/-- The first one exchanged for the next greater one of the rest, which comes in decreasing order, and the rest turned round. -/
def upV (x : Int) (t : List Int) : Option (List Int) :=
  match gtc t x with
  | 0 => none
  | m + 1 => some (t.getD m 0 :: (t.set m x).reverse)

def nextV : List Int → Option (List Int)
  | [] => none
  | x :: t => match nextV t with
    | some u => some (x :: u)
    | none => upV x t

theorem up_desc {x : Int} {t : List Int} (h : desc t) (hx : x ∉ t) (m : Nat) (hm : gtc t x = m + 1) : desc (t.set m x) := by
  have hmt : m < t.length := by have := gtc_le t x; omega
  refine List.pairwise_iff_getElem.2 fun i j hi hj hij => ?_
  simp only [List.length_set] at hi hj
  rw [List.getElem_set, List.getElem_set]
  have hd := List.pairwise_iff_getElem.1 h i j hi hj hij
  have a := desc_at h x i hi
  have b := desc_at h x j hj
  have hxi : x ≠ t[i] := fun e => hx (e ▸ List.getElem_mem _)
  have hxj : x ≠ t[j] := fun e => hx (e ▸ List.getElem_mem _)
  split <;> split
  · omega
  · exact a.2 (by omega)
  · have : ¬ x < t[j] := fun hh => by have := b.1 hh; omega
    omega
  · exact hd

theorem desc_reverse {l : List Int} (h : desc l) : asc l.reverse := List.pairwise_reverse.2 h

theorem up_spec {x : Int} {t u : List Int} (h : desc t) (hx : x ∉ t) (hu : upV x t = some u) : u.Perm (x :: t) ∧ rankV u = rankV (x :: t) + 1 := by
  unfold upV at hu
  split at hu
  · cases hu
  · rename_i m hm
    have hmt : m < t.length := by have := gtc_le t x; omega
    have hg : t.getD m 0 = t[m] := by simp [List.getD, List.getElem?_eq_getElem hmt]
    rw [hg] at hu
    cases hu
    have hy : x < t[m] := (desc_at h x m hmt).2 (by omega)
    have hp : (t[m] :: (t.set m x).reverse).Perm (x :: t) := ((List.reverse_perm _).cons _).trans (set_perm t m hmt x)
    refine ⟨hp, ?_⟩
    have h1 := desc_rank h
    have e1 : cntL (t.set m x).reverse t[m] = cntL t x + 1 := by
      rw [← cntL_self, cntL_perm hp, cntL_cons, if_pos hy]
      have c1 := cnt_gtc t x hx
      have c2 : cntL t t[m] = t.length - (m + 1) := by
        have : cntL t t[m] + (m + 1) = t.length := by
          have hl : cntL (x :: t) t[m] = cntL (t.set m x) t[m] := by rw [← cntL_perm (set_perm t m hmt x), cntL_self]
          have hs := up_desc h hx m hm
          have hn : t[m] ∉ t.set m x := by
            intro hmem
            obtain ⟨i, hi, he⟩ := List.mem_iff_getElem.1 hmem
            rw [List.getElem_set] at he
            split at he
            · omega
            · rename_i hne
              simp only [List.length_set] at hi
              rcases Nat.lt_or_gt_of_ne hne with hlt | hlt
              · have := List.pairwise_iff_getElem.1 h m i hmt hi hlt; omega
              · have := List.pairwise_iff_getElem.1 h i m hi hmt hlt; omega
          have c3 := cnt_gtc (t.set m x) t[m] hn
          have c4 : gtc (t.set m x) t[m] = m := by
            rcases Nat.lt_trichotomy (gtc (t.set m x) t[m]) m with hh | hh | hh
            · have hh2 : gtc (t.set m x) t[m] < t.length := by omega
              have := (desc_at hs t[m] (gtc (t.set m x) t[m]) (by simpa using hh2))
              rw [List.getElem_set, if_neg (by omega)] at this
              have hd := List.pairwise_iff_getElem.1 h _ m hh2 hmt hh
              have := this.1 hd; omega
            · exact hh
            · have := (desc_at hs t[m] m (by simpa using hmt)).2 hh
              rw [List.getElem_set, if_pos rfl] at this; omega
          rw [cntL_cons, if_pos hy] at hl
          rw [List.length_set] at c3
          omega
        omega
      omega
    rw [rankV, rankV, e1, asc_rank (desc_reverse (up_desc h hx m hm)), List.length_reverse, List.length_set, Nat.succ_mul]
    omega

theorem next_spec : ∀ (l : List Int), l.Nodup → (nextV l = none → desc l) ∧ ∀ u, nextV l = some u → u.Perm l ∧ rankV u = rankV l + 1
  | [], _ => ⟨fun _ => List.Pairwise.nil, fun u h => (by cases h)⟩
  | x :: t, hn => by
    obtain ⟨hx, hn'⟩ := List.nodup_cons.1 hn
    obtain ⟨h1, h2⟩ := next_spec t hn'
    unfold nextV
    cases ht : nextV t with
    | some u =>
      obtain ⟨p, r⟩ := h2 u ht
      dsimp only
      refine ⟨fun h => (by cases h), fun v hv => ?_⟩
      cases hv
      exact ⟨p.cons x, by rw [rankV, rankV, cntL_perm p, p.length_eq, r]; omega⟩
    | none =>
      have hd := h1 ht
      dsimp only
      refine ⟨fun h => ?_, fun v hv => up_spec hd hx hv⟩
      show List.Pairwise _ (x :: t)
      refine List.pairwise_cons.2 ⟨fun q hq => ?_, hd⟩
      unfold upV at h
      split at h
      · rename_i hz
        have := List.countP_eq_zero.1 hz q hq
        have hne : q ≠ x := fun e => hx (e ▸ hq)
        simp at this; omega
      · cases h

theorem next_none_rank {l : List Int} (hn : l.Nodup) (h : nextV l = none) : rankV l + 1 = fac l.length := desc_rank ((next_spec l hn).1 h)
/-- What comes behind an order is the order with the next rank. -/
theorem next_nth {l S : List Int} (h : asc S) (hp : l.Perm S) :
    (nextV l = none ∧ rankV l + 1 = fac S.length) ∨ (rankV l + 1 < fac S.length ∧ nextV l = some (nthV S.length S (rankV l + 1))) := by
  have hn : l.Nodup := hp.nodup_iff.2 h.nodup
  cases e : nextV l with
  | none => exact .inl ⟨rfl, by rw [← hp.length_eq]; exact next_none_rank hn e⟩
  | some u =>
    obtain ⟨p, r⟩ := (next_spec l hn).2 u e
    refine .inr ⟨?_, ?_⟩
    · rw [← r, ← hp.length_eq, ← p.length_eq]; exact rank_lt u
    · rw [← r, nth_rank S.length u S h (p.trans hp) (by rw [(p.trans hp).length_eq])]
end Go.Proofs.Ytmahjgffadbdcaa
