/- The plain law of CapsPlaces: what is made later only adds places; each live handle is at one place. -/
import Derived.Test.YtinagiofolmhbaaPL3
namespace Go.Proofs.Ytinagiofolmhbaa
open Go.RowKit
set_option linter.unusedVariables false
set_option linter.unusedSimpArgs false

def ageS (g : Hn → Bool) (x : Hn × Bool) : Hn × Bool := (x.1, x.2 || g x.1)
/-- Later: what was made is still there, in its order, some of it gone since. -/
def Fw (a b : St) : Prop := ∃ g ext, b.made = a.made.map (ageS g) ++ ext
theorem Fw.refl (a : St) : Fw a a := ⟨fun _ => false, [], by
  have : ageS (fun _ => false) = id := by funext x; simp [ageS]
  rw [this]; simp⟩
theorem Fw.trans {a b c : St} (h : Fw a b) (k : Fw b c) : Fw a c := by
  obtain ⟨g, e, h⟩ := h
  obtain ⟨g2, e2, k⟩ := k
  refine ⟨fun x => g x || g2 x, e.map (ageS g2) ++ e2, ?_⟩
  rw [k, h, List.map_append, List.map_map, List.append_assoc]
  congr 1
  apply List.map_congr_left
  intro x _
  simp [ageS, Bool.or_assoc]
theorem Fw.take (a : St) (p : List Int) : Fw a (takeS a p) := ⟨fun h => p.contains h.ser, [], by unfold takeS ageS; simp⟩
theorem Fw.add (a : St) (h : Hn) : Fw a (addS a h) := by
  by_cases he : addE a h.hol = 0
  · obtain ⟨g, e, h1⟩ := Fw.refl a
    refine ⟨fun _ => false, [({ h with ser := a.next }, false)], ?_⟩
    have : ageS (fun _ => false) = id := by funext x; simp [ageS]
    rw [add_made he, this, List.map_id]
  · rw [add_same he]; exact Fw.refl a
theorem Fw.step (a : St) (x : Sm) : Fw a (stepS a x) := by
  unfold stepS
  split
  · unfold rootS; split
    · exact Fw.add _ _
    · exact Fw.refl _
  · split
    · exact Fw.take _ _
    · unfold derS; split
      · exact Fw.add _ _
      · exact Fw.refl _
theorem Fw.fold (xs : List Sm) (a : St) : Fw a (xs.foldl stepS a) := by
  induction xs generalizing a with
  | nil => exact Fw.refl a
  | cons x xs ih => exact (Fw.step a x).trans (ih _)
theorem made_fw {l m : List Sm} (hl : l.length ≤ 40) (hm : m.length ≤ 20) : Fw (madeS l) (madeS (l ++ m)) := by
  unfold madeS makeK
  rw [List.take_of_length_le (by omega), List.take_of_length_le (by rw [List.length_append]; omega), List.foldl_append]
  exact Fw.fold _ _
theorem Fw.own {a b : St} (h : Fw a b) (who : Int) : ∃ g e, ownH b who = (ownH a who).map (ageS g) ++ e := by
  obtain ⟨g, e, h⟩ := h
  refine ⟨g, e.filter (fun x => decide (x.1.hol = who)), ?_⟩
  unfold ownH
  rw [h, List.filter_append, List.filter_map]
  rfl
theorem Fw.places {a b : St} (h : Fw a b) (who : Int) : ∃ e, placesS b who = placesS a who ++ e := by
  obtain ⟨g, e, h⟩ := h.own who
  refine ⟨e.map (·.1.ser), ?_⟩
  unfold placesS
  rw [h, List.map_append, List.map_map]
  rfl
theorem Fw.len {a b : St} (h : Fw a b) (who : Int) : (placesS a who).length ≤ (placesS b who).length := by
  obtain ⟨e, h⟩ := h.places who
  rw [h, List.length_append]; omega
theorem Fw.pre {a b : St} (h : Fw a b) (who : Int) : (placesS b who).take (placesS a who).length = placesS a who := by
  obtain ⟨e, h⟩ := h.places who
  rw [h]; simp
/-- At a place that was there before is the same handle, if it is not gone. -/
theorem Fw.at {a b : St} (h : Fw a b) {who : Int} {i : Nat} (hi : i < (ownH a who).length) (hj : i < (ownH b who).length) (hg : (ownH b who)[i].2 = false) : (ownH a who)[i] = (ownH b who)[i] := by
  obtain ⟨g, e, h⟩ := h.own who
  have : (ownH b who)[i] = ageS g (ownH a who)[i] := by
    simp only [h]
    rw [List.getElem_append_left (by simpa using hi), List.getElem_map]
  rw [this] at hg ⊢
  unfold ageS at hg ⊢
  obtain ⟨x, hx⟩ : ∃ x, (ownH a who)[i] = x := ⟨_, rfl⟩
  rw [hx] at hg ⊢
  obtain ⟨h1, g1⟩ := x
  simp at hg ⊢
  simp [hg.1, hg.2]
theorem sers_inj : ∀ {l : List (Hn × Bool)}, l.Pairwise (fun a b => a.1.ser < b.1.ser) → ∀ {a b}, a ∈ l → b ∈ l → a.1.ser = b.1.ser → a = b
  | [], _, a, b, ha, _, _ => by cases ha
  | x :: l, hp, a, b, ha, hb, e => by
    obtain ⟨h1, h2⟩ := List.pairwise_cons.1 hp
    rcases List.mem_cons.1 ha with rfl | ha' <;> rcases List.mem_cons.1 hb with rfl | hb'
    · rfl
    · have := h1 _ hb'; omega
    · have := h1 _ ha'; omega
    · exact sers_inj h2 ha' hb' e
theorem get_made {st : St} (hok : Ok st) {x : Hn × Bool} (hx : x ∈ st.made) : getE st x.1.ser = (if x.2 then 6 else 0) ∧ getV st x.1.ser = (if x.2 then hn0 else x.1) := by
  obtain ⟨h, g⟩ := x
  cases g with
  | false => exact getE_live hok (live_mem.2 hx)
  | true =>
    have h1 : getL (liveS st) h.ser = none := by
      rw [getL_none]
      intro u hu e
      have := sers_inj hok.sers (live_mem.1 hu) hx e
      simp at this
    unfold getE getV
    rw [h1]
    exact ⟨rfl, rfl⟩
theorem own_mem {st : St} {who : Int} {x : Hn × Bool} (h : x ∈ ownH st who) : x ∈ st.made ∧ x.1.hol = who := by
  unfold ownH at h
  simpa using h
theorem plc_at {st : St} {who : Int} (hw : badH who = false) {i : Nat} (hi : i < (ownH st who).length) : plcE st who i = (if (ownH st who)[i].2 then 230 else 0) ∧ plcV st who i = (if (ownH st who)[i].2 then hn0 else (ownH st who)[i].1) := by
  have h1 : plcE st who i = (if (ownH st who)[i].2 then 230 else 0) := by
    unfold plcE
    rw [if_neg (by rw [hw]; simp), if_neg (by omega)]
    simp [List.getElem?_eq_getElem hi]
  refine ⟨h1, ?_⟩
  unfold plcV
  rw [h1]
  cases hg : (ownH st who)[i].2 <;> simp [List.getElem?_eq_getElem hi]
theorem places_at {st : St} {who : Int} {i : Nat} (hi : i < (ownH st who).length) (hj : i < (placesS st who).length) : (placesS st who)[i] = (ownH st who)[i].1.ser := by
  simp only [placesS, List.getElem_map]
theorem places_len (st : St) (who : Int) : (placesS st who).length = (ownH st who).length := by unfold placesS; rw [List.length_map]
/-! ### Each live handle once -/
def cntA (st : St) (W : Nat) : Nat := ((liveS st).filter (fun h => decide (h.hol < (W : Int)))).length
def cntI (st : St) (who : Int) (k : Nat) : Nat := (((ownH st who).take k).filter (fun x => !x.2)).length
theorem cntI_succ {st : St} {who : Int} {k : Nat} (hk : k < (ownH st who).length) : cntI st who (k + 1) = if (ownH st who)[k].2 then cntI st who k else cntI st who k + 1 := by
  unfold cntI
  rw [List.take_succ_eq_append_getElem hk, List.filter_append, List.length_append]
  cases hg : (ownH st who)[k].2 <;> simp [hg]
theorem cntI_all (st : St) (who : Int) : cntI st who (ownH st who).length = ((liveS st).filter (fun h => decide (h.hol = who))).length := by
  unfold cntI ownH liveS
  rw [List.take_length, List.filter_map, List.length_map, List.filter_filter, List.filter_filter]
  congr 1
  apply List.filter_congr
  intro x _
  simp [Bool.and_comm]
theorem cntA_succ (st : St) (W : Nat) : cntA st (W + 1) = cntA st W + ((liveS st).filter (fun h => decide (h.hol = (W : Int)))).length := by
  unfold cntA
  induction liveS st with
  | nil => rfl
  | cons h l ih =>
    simp only [List.filter_cons]
    by_cases h1 : h.hol < (W : Int)
    · have h2 : h.hol < ((W + 1 : Nat) : Int) := by omega
      have h3 : ¬ h.hol = (W : Int) := by omega
      simp only [h1, h2, h3, decide_true, decide_false, if_true, List.length_cons]; simp only [Bool.false_eq_true, if_false]; omega
    · by_cases h3 : h.hol = (W : Int)
      · have e0 : decide (h.hol < (W : Int)) = false := by simp; omega
        have e1 : decide (h.hol < ((W + 1 : Nat) : Int)) = true := by simp; omega
        have e2 : decide (h.hol = (W : Int)) = true := by simp; omega
        rw [e0, e1, e2]
        simp only [Bool.false_eq_true, if_false, if_true, List.length_cons]
        omega
      · have h2 : ¬ h.hol < ((W + 1 : Nat) : Int) := by omega
        simp only [h1, h2, h3, decide_false, Bool.false_eq_true, if_false]; exact ih
theorem cntA_zero {st : St} (hok : Ok st) : cntA st 0 = 0 := by
  unfold cntA
  rw [List.length_eq_zero_iff, List.filter_eq_nil_iff]
  intro x hx
  have := hok.hols _ (live_mem.1 hx)
  simp only at this
  simp; omega
theorem cntA_all {st : St} (hok : Ok st) : cntA st 17 = (liveS st).length := by
  unfold cntA
  rw [List.filter_eq_self.2]
  intro x hx
  have := hok.hols _ (live_mem.1 hx)
  simp only at this
  simp; omega
theorem cntA_le (st : St) (W : Nat) : cntA st W ≤ (liveS st).length := List.length_filter_le _ _
theorem cntI_le {st : St} (hok : Ok st) (who : Int) (k : Nat) : cntI st who k ≤ 256 := by
  have h1 := hok.places who
  rw [places_len] at h1
  exact Nat.le_trans (List.length_filter_le _ _) (Nat.le_trans (by rw [List.length_take]; omega) h1)

end Go.Proofs.Ytinagiofolmhbaa
