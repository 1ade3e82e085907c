/- Plain laws: orders of processes, and which of them are left. -/
import Derived.Test.YtmahjgffadbdcaaPL4
import Derived.Test.YtmahjgffadbdcaaPL2
import Derived.Test.YtmahjgffadbdcaaPL3
namespace Go.Proofs.Ytmahjgffadbdcaa

/-- A list of processes, each once. -/
structure OkO (l : List Int) : Prop where
  rng : ∀ p ∈ l, 1 ≤ p ∧ p ≤ 16
  nd : l.Nodup
theorem okO_iff (l : List Int) : OkO l ↔ (∀ p ∈ l, 1 ≤ p ∧ p ≤ 16) ∧ l.Nodup := ⟨fun h => ⟨h.rng, h.nd⟩, fun h => ⟨h.1, h.2⟩⟩
instance okO_dec (l : List Int) : Decidable (OkO l) := decidable_of_iff _ (okO_iff l).symm
instance asc_dec (l : List Int) : Decidable (asc l) := by unfold asc; infer_instance
def okO (l : List Int) : Bool := decide (OkO l)
theorem OkO.perm {a b : List Int} (h : OkO a) (hp : b.Perm a) : OkO b := ⟨fun p hm => h.rng p (hp.subset hm), hp.nodup_iff.2 h.nd⟩
theorem OkO.drop {l : List Int} (h : OkO l) (k : Nat) : OkO (l.drop k) := ⟨fun p hm => h.rng p (List.mem_of_mem_drop hm), h.nd.sublist (List.drop_sublist _ _)⟩
theorem OkO.nil : OkO [] := ⟨by simp, by simp⟩

def nums : List Int := [1, 2, 3, 4, 5, 6, 7, 8, 9, 10, 11, 12, 13, 14, 15, 16]
theorem nums_mem (p : Int) : p ∈ nums ↔ 1 ≤ p ∧ p ≤ 16 := by
  simp only [nums, List.mem_cons, List.not_mem_nil, or_false]
  omega
/-- The processes of a list, in order. -/
def sortV (l : List Int) : List Int := nums.filter fun p => decide (p ∈ l)
theorem sort_mem {l : List Int} (p : Int) : p ∈ sortV l ↔ (1 ≤ p ∧ p ≤ 16) ∧ p ∈ l := by
  rw [sortV, List.mem_filter, nums_mem]; simp
theorem sort_asc (l : List Int) : asc (sortV l) := List.Pairwise.sublist List.filter_sublist (by decide : asc nums)
theorem sort_perm {l : List Int} (h : OkO l) : (sortV l).Perm l :=
  (List.perm_ext_iff_of_nodup (sort_asc l).nodup h.nd).2 fun p => by
    rw [sort_mem]; exact ⟨fun h => h.2, fun hp => ⟨h.rng p hp, hp⟩⟩
theorem asc_unique {a b : List Int} (ha : asc a) (hb : asc b) (h : b.Perm a) : b = a :=
  rank_inj ha h (List.Perm.refl _) (by rw [asc_rank ha, asc_rank hb])
theorem sort_self {l : List Int} (h : OkO l) (ha : asc l) : sortV l = l := asc_unique ha (sort_asc l) (sort_perm h)
theorem sort_congr {a b : List Int} (h : ∀ p, p ∈ a ↔ p ∈ b) : sortV a = sortV b := by
  simp only [sortV]; congr 1; funext p; rw [decide_eq_decide]; exact h p
theorem sort_eq_iff {a b : List Int} (ha : OkO a) (hb : OkO b) : sortV a = sortV b ↔ a.Perm b := by
  constructor
  · intro h
    exact (sort_perm ha).symm.trans (h ▸ sort_perm hb)
  · intro h
    exact sort_congr fun p => h.mem_iff
theorem OkO.sort {l : List Int} (h : OkO l) : OkO (sortV l) := h.perm (sort_perm h)
theorem OkO.len {l : List Int} (h : OkO l) : l.length ≤ 16 := by
  rw [← (sort_perm h).length_eq]
  exact List.length_filter_le _ _

/-- The place k of which processes are left. -/
def hasB (S : List Int) (k : Nat) : Bool := decide ((k : Int) ∈ S)
theorem has_congr {a b : List Int} (h : ∀ p, p ∈ a ↔ p ∈ b) (k : Nat) : hasB a k = hasB b k := by
  rw [hasB, hasB, decide_eq_decide]; exact h k
theorem has_cons {S : List Int} {p k : Nat} : hasB ((p : Int) :: S) k = (decide (k = p) || hasB S k) := by
  rw [hasB, hasB, Bool.eq_iff_iff, Bool.or_eq_true, decide_eq_true_eq, decide_eq_true_eq, decide_eq_true_eq, List.mem_cons, Int.ofNat_inj]

/-- Erasing one of two permuted lists. -/
theorem nodup_drop_mem {l : List Int} (h : l.Nodup) (k : Nat) (hk : k < l.length) (p : Int) : p ∈ l.drop (k + 1) ↔ p ∈ l.drop k ∧ p ≠ l[k] := by
  rw [List.drop_eq_getElem_cons hk, List.mem_cons]
  have hn : l[k] ∉ l.drop (k + 1) := by
    have := h.sublist (List.drop_sublist k l)
    rw [List.drop_eq_getElem_cons hk, List.nodup_cons] at this
    exact this.1
  constructor
  · intro hp; exact ⟨.inr hp, fun e => hn (e ▸ hp)⟩
  · rintro ⟨rfl | hp, hne⟩
    · exact absurd rfl hne
    · exact hp
theorem erase_mem {S : List Int} (h : S.Nodup) (i : Nat) (hi : i < S.length) (p : Int) : p ∈ S.eraseIdx i ↔ p ∈ S ∧ p ≠ S[i] := by
  have hp := perm_eraseIdx i hi
  have hn : (S[i] :: S.eraseIdx i).Nodup := hp.nodup_iff.2 h
  rw [← hp.mem_iff, List.mem_cons]
  rw [List.nodup_cons] at hn
  constructor
  · intro h; exact ⟨.inr h, fun e => hn.1 (e ▸ h)⟩
  · rintro ⟨rfl | h, hne⟩
    · exact absurd rfl hne
    · exact h

/-- What is ahead of place k, and at it. -/
theorem asc_pos_lt {S : List Int} (h : asc S) {p : Int} (hp : p ∈ S) : cntL S p < S.length := by
  have := at_cnt h hp
  exact (List.getElem?_eq_some_iff.1 this).1
theorem cnt_succ_in {S : List Int} (h : S.Nodup) {p : Int} (hp : p ∈ S) : cntL S (p + 1) = cntL S p + 1 := by
  induction S with
  | nil => simp at hp
  | cons q S ih =>
    rw [cntL_cons, cntL_cons]
    rw [List.nodup_cons] at h
    rcases List.mem_cons.1 hp with rfl | hp
    · have e : cntL S (p + 1) = cntL S p := by
        refine List.countP_congr fun x hx => ?_
        have : x ≠ p := fun e => h.1 (e ▸ hx)
        simp; omega
      rw [e, if_pos (by omega), if_neg (by omega)]
    · have hne : q ≠ p := fun e => h.1 (e ▸ hp)
      rw [ih h.2 hp]
      by_cases hq : q < p
      · rw [if_pos (by omega), if_pos hq]
      · rw [if_neg (by omega), if_neg hq]
theorem cnt_succ_out {S : List Int} {p : Int} (hp : p ∉ S) : cntL S (p + 1) = cntL S p := by
  refine List.countP_congr fun x hx => ?_
  have : x ≠ p := fun e => hp (e ▸ hx)
  simp <;> omega
theorem cnt_zero {S : List Int} (h : ∀ p ∈ S, 1 ≤ p ∧ p ≤ 16) : cntL S 0 = 0 := by
  refine List.countP_eq_zero.2 fun p hp => ?_
  have := h p hp; simp <;> omega
theorem cnt_all {S : List Int} (h : ∀ p ∈ S, 1 ≤ p ∧ p ≤ 16) : cntL S 17 = S.length := by
  refine List.countP_eq_length.2 fun p hp => ?_
  have := h p hp; simp <;> omega

/-- Rank, one after the other. -/
theorem rank_drop {l : List Int} (k : Nat) (h : k < l.length) : rankV (l.drop k) = cntL (l.drop k) l[k] * fac (l.length - (k + 1)) + rankV (l.drop (k + 1)) := by
  rw [List.drop_eq_getElem_cons h, rankV, cntL_self, List.length_drop]
theorem fac_drop {n k : Nat} (h : k < n) : fac (n - k) = (n - k) * fac (n - (k + 1)) := by
  obtain ⟨m, hm⟩ : ∃ m, n - k = m + 1 := ⟨n - k - 1, by omega⟩
  rw [hm, show n - (k + 1) = m from by omega]; rfl
theorem fac_mono {a b : Nat} (h : a ≤ b) : fac a ≤ fac b := by
  induction b with
  | zero => rw [show a = 0 from by omega]; exact Nat.le_refl _
  | succ b ih =>
    rcases Nat.lt_or_ge b a with h' | h'
    · rw [show a = b + 1 from by omega]; exact Nat.le_refl _
    · have := ih h'
      show fac a ≤ (b + 1) * fac b
      rw [Nat.succ_mul]
      have : 0 ≤ b * fac b := Nat.zero_le _
      omega
theorem fac16 : fac 16 = 20922789888000 := by decide
theorem rank_step {l : List Int} {k r : Nat} (h : k < l.length) (e : r * fac (l.length - k) + rankV (l.drop k) = rankV l) :
    (r * (l.length - k) + cntL (l.drop k) l[k]) * fac (l.length - (k + 1)) + rankV (l.drop (k + 1)) = rankV l := by
  rw [← e, rank_drop k h, fac_drop h, Nat.add_mul, Nat.mul_assoc, Nat.add_assoc]
theorem rank_bound {l : List Int} {k r : Nat} (e : r * fac (l.length - k) + rankV (l.drop k) = rankV l) : r < fac l.length := by
  have h1 := rank_lt l
  have h2 := fac_pos (l.length - k)
  have h3 : r * 1 ≤ r * fac (l.length - k) := Nat.mul_le_mul_left _ h2
  omega

/-- Exchanges, one after the other. -/
theorem inv_drop {l : List Nat} (k : Nat) (h : k < l.length) : inv (l.drop k) = (l.drop (k + 1)).countP (fun y => decide (y < l[k])) + inv (l.drop (k + 1)) := by
  rw [List.drop_eq_getElem_cons h, inv]
theorem count_drop {l : List Nat} (f : Nat → Bool) (k : Nat) (h : k < l.length) : (l.drop k).countP f = (l.drop (k + 1)).countP f + if f l[k] then 1 else 0 := by
  rw [List.drop_eq_getElem_cons h, List.countP_cons]
end Go.Proofs.Ytmahjgffadbdcaa
