/- The plain law of the stage: each handle's parent is there. -/
import Derived.Test.YtinagiofolmhbaaPL2
import Derived.Test.YtinagiofolmhbaaA2
namespace Go.Proofs.Ytinagiofolmhbaa
open Go.RowKit
set_option linter.unusedVariables false
set_option linter.unusedSimpArgs false

structure Fam (st : St) : Prop where
  up : ∀ x ∈ liveS st, x.par ≠ 0 → ∃ u ∈ liveS st, u.ser = x.par ∧ u.port = x.port ∧ ¬ u.rts &&& 4#8 = 0#8 ∧ x.rts &&& ~~~u.rts = 0#8
  lo : ∀ x ∈ st.made, 100 ≤ x.1.ser
theorem add_made {st : St} {h : Hn} (he : addE st h.hol = 0) : (addS st h).made = st.made ++ [({ h with ser := st.next }, false)] := by
  unfold addS; rw [if_pos he]
theorem add_same {st : St} {h : Hn} (he : ¬ addE st h.hol = 0) : addS st h = st := by
  unfold addS; rw [if_neg he]
theorem Fam.add {st : St} (h : Fam st) (hn : 100 ≤ st.next) (x : Hn) (hx : x.par ≠ 0 → ∃ u ∈ liveS st, u.ser = x.par ∧ u.port = x.port ∧ ¬ u.rts &&& 4#8 = 0#8 ∧ x.rts &&& ~~~u.rts = 0#8) : Fam (addS st x) := by
  by_cases he : addE st x.hol = 0
  · refine ⟨?_, ?_⟩
    · rw [live_add he]
      intro z hz hp
      have key : ∃ u ∈ liveS st, u.ser = z.par ∧ u.port = z.port ∧ ¬ u.rts &&& 4#8 = 0#8 ∧ z.rts &&& ~~~u.rts = 0#8 := by
        rcases List.mem_append.1 hz with hz | hz
        · exact h.up z hz hp
        · obtain rfl := List.mem_singleton.1 hz
          exact hx hp
      obtain ⟨u, hu, h1⟩ := key
      exact ⟨u, List.mem_append_left _ hu, h1⟩
    · rw [add_made he]
      intro z hz
      rcases List.mem_append.1 hz with hz | hz
      · exact h.lo z hz
      · obtain rfl := List.mem_singleton.1 hz
        exact hn
  · rw [add_same he]; exact h
theorem Fam.take {st : St} (h : Fam st) (p : List Int) (hp : ∀ x ∈ liveS st, x.par ≠ 0 → ∀ u ∈ liveS st, u.ser = x.par → u.port = x.port → u.ser ∈ p → x.ser ∈ p) : Fam (takeS st p) := by
  refine ⟨?_, ?_⟩
  · rw [live_take]
    intro x hx hx0
    obtain ⟨h1, h2⟩ := List.mem_filter.1 hx
    obtain ⟨u, hu, h3, h4, h5⟩ := h.up x h1 hx0
    refine ⟨u, List.mem_filter.2 ⟨hu, ?_⟩, h3, h4, h5⟩
    simp at h2 ⊢
    exact fun hu2 => h2 (hp x h1 hx0 u hu h3 h4 hu2)
  · intro z hz
    obtain ⟨y, hy, rfl⟩ := List.mem_map.1 hz
    exact h.lo y hy
theorem Fam.root {st : St} (h : Fam st) (hn : 100 ≤ st.next) (p t : Int) (r : BitVec 8) : Fam (rootS st p t r) := by
  unfold rootS
  split
  · exact h.add hn _ (fun h => absurd rfl h)
  · exact h
theorem Fam.der {st : St} (h : Fam st) (hn : 100 ≤ st.next) (s t : Int) (r : BitVec 8) : Fam (derS st s t r) := by
  unfold derS
  split
  · rename_i hw
    refine h.add hn _ (fun _ => ?_)
    unfold derW at hw
    split at hw
    · rename_i he
      obtain ⟨_, h2, h3⟩ := getV_mem he
      split at hw
      · simp at hw
      · unfold handE at hw
        split at hw
        · simp at hw
        · split at hw
          · simp at hw
          · rename_i h4
            refine ⟨_, h2, h3, rfl, fun h5 => h4 (.inl h5), ?_⟩
            by_cases h5 : r &&& ~~~(getV st s).rts = 0#8
            · exact h5
            · exact absurd (.inr h5) h4
    · simp at hw
  · exact h
theorem Fam.revoke {st : St} (h : Fam st) (hok : Ok st) (s : Int) : Fam (revokeS st s) := by
  refine h.take _ fun x hx _ u hu h1 _ hm => ?_
  unfold belowS at hm ⊢
  split at hm
  · rename_i he
    rw [if_pos he]
    obtain ⟨v, hv, h2, h3⟩ := (below_mem hok.tr).1 hm
    have : v = u := inc_inj hok.tr.inc hv hu h2
    subst this
    exact (below_mem hok.tr).2 ⟨x, hx, rfl, .up (by rw [← h1]; exact getL_mem hok.tr.inc hu) h3⟩
  · cases hm
theorem close_mem {st : St} {p x : Int} : x ∈ closeL st p ↔ ∃ h ∈ liveS st, h.port = p ∧ h.ser = x := by
  unfold closeL
  simp only [List.mem_map, List.mem_filter, decide_eq_true_eq]
  constructor
  · rintro ⟨h, ⟨h1, h2⟩, h3⟩; exact ⟨h, h1, h2, h3⟩
  · rintro ⟨h, h1, h2, h3⟩; exact ⟨h, ⟨h1, h2⟩, h3⟩
theorem Fam.close {st : St} (h : Fam st) (hok : Ok st) (p : Int) : Fam (closeS st p) := by
  refine h.take _ fun x hx _ u hu h1 h2 hm => ?_
  obtain ⟨v, hv, h3, h4⟩ := close_mem.1 hm
  have : v = u := inc_inj hok.tr.inc hv hu h4
  subst this
  exact close_mem.2 ⟨x, hx, by rw [← h2]; exact h3, rfl⟩
theorem Sh.n100 {k : Nat} {st : St} (h : Sh k st) : 100 ≤ st.next := by have := h.nx; omega
theorem Fam.step {st : St} {k : Nat} (h : Fam st) (hs : Sh k st) (x : Sm) : Fam (stepS st x) := by
  unfold stepS
  split
  · exact h.root hs.n100 _ _ _
  · split
    · exact h.revoke hs.ok _
    · exact h.der hs.n100 _ _ _
theorem makeK_fam (ls : List Sm) : ∀ k, k ≤ ls.length → Fam (makeK ls k)
  | 0, _ => ⟨by simp [makeK, liveS], by simp [makeK]⟩
  | k + 1, h => by
    rw [makeK_succ ls k (by omega)]
    exact (makeK_fam ls k (by omega)).step (makeK_sh ls k (by omega)) _
theorem made_fam (ls : List Sm) : Fam (madeS ls) := by
  by_cases h : ls.length ≤ 60
  · rw [makeK_all ls h]; exact makeK_fam ls _ (Nat.le_refl _)
  · exact makeK_fam ls 60 (by omega)

/-- The first one with a serial. -/
theorem getL_first {l : List Hn} {s : Int} {k : Nat} (hk : k < l.length) (h : l[k].ser = s) (hb : ∀ j (hj : j < l.length), j < k → ¬ l[j].ser = s) : getL l s = some l[k] := by
  unfold getL
  rw [List.find?_eq_some_iff_getElem]
  exact ⟨by simpa using h, k, hk, rfl, fun j hj => by simpa using hb j (by omega) hj⟩
theorem getL_no {l : List Hn} {s : Int} (hb : ∀ j (hj : j < l.length), ¬ l[j].ser = s) : getL l s = none := by
  rw [getL_none]
  intro h hh
  obtain ⟨j, hj, rfl⟩ := List.mem_iff_getElem.1 hh
  exact hb j hj
end Go.Proofs.Ytinagiofolmhbaa
