/- Plain laws: the loops of For, Nth and Next. -/
import Derived.Test.YtmahjgffadbdcaaPL5
namespace Go.Proofs.Ytmahjgffadbdcaa

/-- For, one after the other. -/
theorem need_drop {l : List Int} (k : Nat) (h : k < l.length) : needV (l.drop k) = if needV (l.drop (k + 1)) = 0 then (if (l.drop (k + 1)).all (fun q => decide (l[k] < q)) then 0 else 1) else needV (l.drop (k + 1)) + 1 := by
  rw [List.drop_eq_getElem_cons h, needV]
theorem least_iff {l : List Int} (hl : OkO l) (k : Nat) (h : k < l.length) : (l.drop (k + 1)).all (fun q => decide (l[k] < q)) = decide (l[k] = (sortV (l.drop k)).headD 0) := by
  have hd := hl.drop k
  have hm := fun p => nodup_drop_mem hl.nd k h p
  have hkm : l[k] ∈ l.drop k := by rw [List.drop_eq_getElem_cons h]; exact List.mem_cons_self
  rw [Bool.eq_iff_iff, List.all_eq_true, decide_eq_true_eq]
  cases hs : sortV (l.drop k) with
  | nil =>
    have : l[k] ∈ sortV (l.drop k) := (sort_mem _).2 ⟨hd.rng _ hkm, hkm⟩
    rw [hs] at this; simp at this
  | cons q t =>
    have ha := sort_asc (l.drop k)
    have hperm := sort_perm hd
    rw [hs] at ha hperm
    have hq := ha.head
    show _ ↔ l[k] = q
    constructor
    · intro hall
      have hqm : q ∈ l.drop k := hperm.subset (by simp)
      refine Decidable.byContradiction fun hne => ?_
      have h1 := hall q ((hm q).2 ⟨hqm, fun e => hne e.symm⟩)
      have h2 : l[k] ∈ q :: t := hperm.symm.subset hkm
      rcases List.mem_cons.1 h2 with e | e
      · exact hne e
      · have := hq _ e; simp at h1; omega
    · rintro e x hx
      obtain ⟨hx1, hx2⟩ := (hm x).1 hx
      have : x ∈ q :: t := hperm.symm.subset hx1
      rcases List.mem_cons.1 this with e' | e'
      · exact absurd (e'.trans e.symm) hx2
      · have := hq _ e'; simp; omega
theorem need_step {l : List Int} (hl : OkO l) {k need : Nat} (h : k < l.length) (e : needV l = if needV (l.drop k) = 0 then need else k + needV (l.drop k)) :
    needV l = if needV (l.drop (k + 1)) = 0 then (if l[k] = (sortV (l.drop k)).headD 0 then need else k + 1) else (k + 1) + needV (l.drop (k + 1)) := by
  rw [e, need_drop k h, least_iff hl k h]
  by_cases h1 : needV (l.drop (k + 1)) = 0
  · rw [if_pos h1, if_pos h1]
    by_cases h2 : l[k] = (sortV (l.drop k)).headD 0
    · rw [if_pos h2, decide_eq_true h2]; rfl
    · rw [if_neg h2, decide_eq_false h2]; rfl
  · rw [if_neg h1, if_neg h1]; simp; omega

/-- Nth, digit by digit. -/
def digit (i r : Nat) : Nat := r / fac i % (i + 1)
def digV : Nat → List Int → Nat → List Int
  | 0, _, _ => []
  | n + 1, S, r => S.getD (digit n r) 0 :: digV n (S.eraseIdx (digit n r)) r
theorem fac_dvd : ∀ {a b : Nat}, a ≤ b → fac a ∣ fac b := by
  intro a b
  induction b with
  | zero => intro h; rw [show a = 0 from by omega]; exact Nat.dvd_refl _
  | succ b ih =>
    intro h
    rcases Nat.lt_or_ge b a with h' | h'
    · rw [show a = b + 1 from by omega]; exact Nat.dvd_refl _
    · exact Nat.dvd_trans (ih h') ⟨b + 1, by rw [Nat.mul_comm]; rfl⟩
theorem digit_mod {i m r : Nat} (h : i < m) : digit i (r % fac m) = digit i r := by
  have key : ∀ x, digit i x = x % fac (i + 1) / fac i := by
    intro x
    rw [digit, show fac (i + 1) = fac i * (i + 1) from by rw [Nat.mul_comm]; rfl, Nat.mod_mul_right_div_self]
  rw [key, key, Nat.mod_mod_of_dvd _ (fac_dvd h)]
theorem digit_top {n r : Nat} (h : r < fac (n + 1)) : digit n r = r / fac n :=
  Nat.mod_eq_of_lt (Nat.div_lt_of_lt_mul (by rw [Nat.mul_comm]; exact h))
theorem dig_mod : ∀ (n m : Nat) (S : List Int) (r : Nat), n ≤ m → digV n S (r % fac m) = digV n S r
  | 0, _, _, _, _ => rfl
  | n + 1, m, S, r, h => by
    show S.getD (digit n (r % fac m)) 0 :: digV n (S.eraseIdx (digit n (r % fac m))) (r % fac m) = S.getD (digit n r) 0 :: digV n (S.eraseIdx (digit n r)) r
    rw [digit_mod (by omega), dig_mod n m _ r (by omega)]
theorem nth_dig : ∀ (n : Nat) (S : List Int) (r : Nat), r < fac n → nthV n S r = digV n S r
  | 0, _, _, _ => rfl
  | n + 1, S, r, h => by
    show S.getD (r / fac n) 0 :: nthV n (S.eraseIdx (r / fac n)) (r % fac n) = S.getD (digit n r) 0 :: digV n (S.eraseIdx (digit n r)) r
    rw [digit_top h, nth_dig n _ _ (Nat.mod_lt _ (fac_pos n)), dig_mod n n _ _ (Nat.le_refl _)]
theorem digit_le (i r : Nat) : digit i r ≤ i := by
  have := Nat.mod_lt (r / fac i) (show 0 < i + 1 by omega)
  show r / fac i % (i + 1) ≤ i
  omega
theorem fac_div (i r : Nat) : r / fac i / (i + 1) = r / fac (i + 1) := by
  rw [Nat.div_div_eq_div_mul, show fac (i + 1) = fac i * (i + 1) from by rw [Nat.mul_comm]; rfl]
theorem dig_succ (n : Nat) (S : List Int) (r : Nat) : digV (n + 1) S r = S.getD (digit n r) 0 :: digV n (S.eraseIdx (digit n r)) r := rfl

/-- Next. -/
theorem desc.nodup {l : List Int} (h : desc l) : l.Nodup := List.Pairwise.imp (fun h => by omega) h
theorem next_desc {t : List Int} (h : desc t) : nextV t = none := by
  cases e : nextV t with
  | none => rfl
  | some u =>
    obtain ⟨hp, hr⟩ := (next_spec t h.nodup).2 u e
    have h1 := rank_lt u
    have h2 := desc_rank h
    rw [hp.length_eq] at h1
    omega
theorem next_front : ∀ (a b u : List Int), nextV b = some u → nextV (a ++ b) = some (a ++ u)
  | [], _, _, h => h
  | x :: a, b, u, h => by
    show nextV (x :: (a ++ b)) = _
    rw [nextV, next_front a b u h]; rfl
theorem desc_step {l : List Int} {i : Nat} (hi : i + 1 < l.length) (hd : desc (l.drop (i + 1))) (h : l[i + 1] < l[i]) : desc (l.drop i) := by
  rw [List.drop_eq_getElem_cons (show i < l.length by omega)]
  refine List.pairwise_cons.2 ⟨fun q hq => ?_, hd⟩
  rw [List.drop_eq_getElem_cons hi] at hq hd
  rcases List.mem_cons.1 hq with rfl | hq
  · exact h
  · have := hd.head q hq; omega
theorem desc_last {l : List Int} {i : Nat} (h : l.length ≤ i + 1) : desc (l.drop i) := by
  rcases Nat.lt_or_ge i l.length with h' | h'
  · rw [List.drop_eq_getElem_cons h', List.drop_eq_nil_of_le h]; exact List.pairwise_singleton _ _
  · rw [List.drop_eq_nil_of_le h']; exact List.Pairwise.nil
theorem gt_some {l : List Int} {i : Nat} (hi : i + 1 < l.length) (hd : desc (l.drop (i + 1))) (h : l[i] < l[i + 1]) : 0 < gtc (l.drop (i + 1)) l[i] := by
  refine (desc_at hd l[i] 0 (by simp; omega)).1 ?_
  simpa using h
theorem next_at {l : List Int} {i m : Nat} (hi : i + 1 < l.length) (hd : desc (l.drop (i + 1))) (hm : gtc (l.drop (i + 1)) l[i] = m + 1) :
    nextV l = some (l.take i ++ (l.drop (i + 1)).getD m 0 :: ((l.drop (i + 1)).set m l[i]).reverse) := by
  have e : nextV (l.drop i) = some ((l.drop (i + 1)).getD m 0 :: ((l.drop (i + 1)).set m l[i]).reverse) := by
    rw [List.drop_eq_getElem_cons (show i < l.length by omega), nextV, next_desc hd]
    show upV _ _ = _
    rw [upV, hm]
  have := next_front (l.take i) _ _ e
  rwa [List.take_append_drop] at this
theorem next_none {l : List Int} (h : desc l) : nextV l = none := next_desc h
end Go.Proofs.Ytmahjgffadbdcaa
