/- Maps as lists of pairs, in the order of their keys' first coming: look-up, update, delete, len, range. -/
import Derived.Test.YtinagiofolmhbaaOwn
import Derived.Maps.RangeWalk
import Derived.Maps.OwnSet
import Derived.Maps.OwnOps
namespace Go.Proofs.Ytinagiofolmhbaa
open Go.RowKit Go.MapKept
open Go.Maps (Keyed)
open Go.ChangeMaps (setBlock)
set_option linter.unusedSectionVars false
set_option linter.unusedSimpArgs false

section
variable {α β : Type} [DecidableEq α]

/-- The value at a key. -/
def lk (L : List (α × β)) (x : α) : Option β := (L.find? (fun p => decide (p.1 = x))).map (·.2)

/-- The list behind a store at a key. -/
def putL (L : List (α × β)) (x : α) (v : β) : List (α × β) :=
  if (L.map Prod.fst).contains x then L.map (fun p => if p.1 = x then (x, v) else p) else L ++ [(x, v)]
/-- .. behind delete. -/
def delL (L : List (α × β)) (x : α) : List (α × β) := L.filter (fun p => decide (p.1 ≠ x))

theorem lk_none {L : List (α × β)} {x : α} : lk L x = none ↔ ∀ p ∈ L, p.1 ≠ x := by
  unfold lk; simp
  
theorem lk_some {L : List (α × β)} (hn : (L.map Prod.fst).Nodup) {x : α} {v : β} : lk L x = some v ↔ (x, v) ∈ L := by
  induction L with
  | nil => simp [lk]
  | cons q L ih =>
    simp only [List.map_cons, List.nodup_cons] at hn
    have ih := ih hn.2
    unfold lk at ih ⊢
    rw [List.find?_cons]
    by_cases hq : q.1 = x
    · subst hq
      simp only [decide_true, Option.map_some, List.mem_cons]
      constructor
      · intro h; simp at h; subst h; exact .inl rfl
      · rintro (h | h)
        · rw [← h]
        · exact absurd (List.mem_map_of_mem (f := Prod.fst) h) hn.1
    · simp only [hq, decide_false, List.mem_cons]
      rw [ih]
      constructor
      · exact .inr
      · rintro (h | h)
        · exact absurd (by rw [← h]) hq
        · exact h

theorem lk_put {L : List (α × β)} {x y : α} {v : β} : lk (putL L x v) y = if y = x then some v else lk L y := by
  unfold putL
  split
  · rename_i hc
    rw [List.contains_iff_mem] at hc
    induction L with
    | nil => simp at hc
    | cons q L ih =>
      unfold lk at ih ⊢
      by_cases hq : q.1 = x
      · simp only [List.map_cons, hq, if_true, List.find?_cons]
        by_cases hy : y = x
        · subst hy; simp
        · have hxy : ¬ x = y := fun e => hy e.symm
          simp only [hxy, decide_false, hy, if_false]
          by_cases hc2 : x ∈ L.map Prod.fst
          · have := ih hc2; simp only [hy, if_false] at this; exact this
          · have : L.map (fun p => if p.1 = x then (x, v) else p) = L := by
              rw [List.map_congr_left (g := id)]
              · simp
              · intro p hp
                have : p.1 ≠ x := fun e => hc2 (e ▸ List.mem_map_of_mem hp)
                simp [this]
            rw [this]
      · have hc2 : x ∈ L.map Prod.fst := by
          simp only [List.map_cons, List.mem_cons] at hc
          rcases hc with h | h
          · exact absurd h.symm hq
          · exact h
        simp only [List.map_cons, hq, if_false, List.find?_cons]
        by_cases hy : q.1 = y
        · have hyx : ¬ y = x := fun e => hq (hy.trans e)
          simp [hy, hyx]
        · simp only [hy, decide_false]
          exact ih hc2
  · rename_i hc
    rw [List.contains_iff_mem] at hc
    unfold lk
    rw [List.find?_append]
    by_cases hy : y = x
    · subst hy
      have : L.find? (fun p => decide (p.1 = y)) = none := by
        simp only [List.find?_eq_none, decide_eq_true_eq]
        intro p hp e
        exact hc (e ▸ List.mem_map_of_mem hp)
      simp [this]
    · have hxy : ¬ x = y := fun e => hy e.symm
      simp [hy, hxy]

theorem lk_del {L : List (α × β)} {x y : α} : lk (delL L x) y = if y = x then none else lk L y := by
  unfold delL lk
  rw [List.find?_filter]
  by_cases hy : y = x
  · subst hy
    rw [if_pos rfl]
    simp
  · rw [if_neg hy]
    have : (fun a : α × β => decide (a.1 ≠ x) && decide (a.1 = y)) = fun a => decide (a.1 = y) := by
      funext a
      by_cases h : a.1 = y
      · simp [h, hy]
      · simp [h]
    simp only [Bool.decide_and, Bool.decide_eq_true]
    rw [this]

theorem put_nodup {L : List (α × β)} (hn : (L.map Prod.fst).Nodup) (x : α) (v : β) : ((putL L x v).map Prod.fst).Nodup := by
  unfold putL
  split
  · rw [List.map_map]
    have : L.map (Prod.fst ∘ fun p => if p.1 = x then (x, v) else p) = L.map Prod.fst := by
      refine List.map_congr_left fun p _ => ?_
      simp only [Function.comp]
      split
      · rename_i h; exact h.symm
      · rfl
    rw [this]; exact hn
  · rename_i hc
    rw [List.contains_iff_mem] at hc
    rw [List.map_append]
    refine List.nodup_append.2 ⟨hn, by simp, ?_⟩
    intro a ha b hb e
    simp only [List.map_cons, List.map_nil, List.mem_singleton] at hb
    subst hb
    exact hc (e ▸ ha)

theorem del_nodup {L : List (α × β)} (hn : (L.map Prod.fst).Nodup) (x : α) : ((delL L x).map Prod.fst).Nodup :=
  (List.filter_sublist.map _).nodup hn

variable (P : Program) (k : TypeId) (ek : α → Value) (ev : β → Value)

def entriesAre (es : Array MapEntry) (L : List (α × β)) : Prop := es.toList.map (fun e => (e.key, e.val)) = L.map (fun p => (ek p.1, ev p.2))

/-- Block b of w is a map whose entries are L. -/
def MapL (w : World) (b : Nat) (L : List (α × β)) : Prop :=
  ∃ es clock, w.heap[b]? = some (.map es clock) ∧ Stamped es clock ∧ (∀ p ∈ L, ∃ l, keyOf P k (ek p.1) = some l) ∧ entriesAre ek ev es L ∧ (L.map Prod.fst).Nodup

variable {P k ek ev} {w : World} {b : Nat} {L : List (α × β)}

theorem MapL.nodup (h : MapL P k ek ev w b L) : (L.map Prod.fst).Nodup := by
  obtain ⟨_, _, _, _, _, _, h⟩ := h; exact h

theorem MapL.lt (h : MapL P k ek ev w b L) : b < w.heap.size := by
  obtain ⟨es, clock, hb, _⟩ := h
  exact (Array.getElem?_eq_some_iff.1 hb).1

theorem MapL.same {w' : World} (h : MapL P k ek ev w b L) (hb : w'.heap[b]? = w.heap[b]?) : MapL P k ek ev w' b L := by
  obtain ⟨es, clock, h1, h2⟩ := h
  exact ⟨es, clock, hb.trans h1, h2⟩

theorem MapL.made (P : Program) (k : TypeId) (ek : α → Value) (ev : β → Value) (w : World) : MapL P k ek ev (w.alloc (.map #[] 0)) w.heap.size ([] : List (α × β)) :=
  ⟨#[], 0, (MapKept.heap_alloc w _).1, stamped_empty 0, by simp, rfl, by simp⟩

theorem entries_at {es : Array MapEntry} (hE : entriesAre ek ev es L) {j : Nat} {e : MapEntry} (h : es.toList[j]? = some e) : ∃ p, L[j]? = some p ∧ e.key = ek p.1 ∧ e.val = ev p.2 := by
  have h1 : (es.toList.map (fun e => (e.key, e.val)))[j]? = some (e.key, e.val) := by rw [List.getElem?_map, h]; rfl
  rw [hE, List.getElem?_map] at h1
  cases hp : L[j]? with
  | none => rw [hp] at h1; cases h1
  | some p => rw [hp] at h1; simp at h1; exact ⟨p, rfl, h1.1.symm, h1.2.symm⟩

theorem entries_at' {es : Array MapEntry} (hE : entriesAre ek ev es L) {j : Nat} {p : α × β} (h : L[j]? = some p) : ∃ e, es.toList[j]? = some e ∧ e.key = ek p.1 ∧ e.val = ev p.2 := by
  have h1 : (L.map (fun p => (ek p.1, ev p.2)))[j]? = some (ek p.1, ev p.2) := by rw [List.getElem?_map, h]; rfl
  rw [← hE, List.getElem?_map] at h1
  cases hp : es.toList[j]? with
  | none => rw [hp] at h1; cases h1
  | some e => rw [hp] at h1; simp at h1; exact ⟨e, rfl, h1.1, h1.2⟩

theorem entries_len {es : Array MapEntry} (hE : entriesAre ek ev es L) : es.toList.length = L.length := by
  have := congrArg List.length hE
  simpa using this

theorem entries_keys (hk : ∀ p ∈ L, ∃ l, keyOf P k (ek p.1) = some l) {es : Array MapEntry} (hE : entriesAre ek ev es L) : ∀ e ∈ es.toList, ∃ l, keyOf P k e.key = some l := by
  intro e he
  obtain ⟨j, hj⟩ := List.mem_iff_getElem?.1 he
  obtain ⟨p, hp, h1, _⟩ := entries_at hE hj
  rw [h1]; exact hk p (List.mem_of_getElem? hp)

/-- What findKey finds. -/
theorem MapL.find (K : Keyed P k) (hinj : ∀ x y, ek x = ek y → x = y) {es : Array MapEntry} (hk : ∀ p ∈ L, ∃ l, keyOf P k (ek p.1) = some l) (hE : entriesAre ek ev es L) (hn : (L.map Prod.fst).Nodup) (w : World) (x : α) {l : Lit} (hx : keyOf P k (ek x) = some l) :
    (lk L x = none ∧ (Instr.findKey k (ek x) es.toList).run P w = .ok none w ∧ ∀ e ∈ es.toList, e.key ≠ ek x) ∨
    ∃ j e v, lk L x = some v ∧ (Instr.findKey k (ek x) es.toList).run P w = .ok (some (j, e.val)) w ∧ es.toList[j]? = some e ∧ L[j]? = some (x, v) ∧ e.key = ek x ∧ e.val = ev v := by
  rcases K.find w hx es.toList (entries_keys hk hE) with ⟨h1, h2⟩ | ⟨j, e0, h1, h2, h3⟩
  · refine .inl ⟨lk_none.2 fun p hp e => ?_, h1, h2⟩
    obtain ⟨j, hj⟩ := List.mem_iff_getElem?.1 hp
    obtain ⟨e0, he0, h4, _⟩ := entries_at' hE hj
    exact h2 e0 (List.mem_of_getElem? he0) (by rw [h4, e])
  · obtain ⟨p, hp, h4, h5⟩ := entries_at hE h2
    have hpx : p.1 = x := hinj _ _ (h4.symm.trans h3)
    have hpe : p = (x, p.2) := by rw [← hpx]
    refine .inr ⟨j, e0, p.2, (lk_some hn).2 ?_, h1, h2, hpe ▸ hp, h3, h5⟩
    rw [← hpe]; exact List.mem_of_getElem? hp

/-- v, ok := m[k]. -/
theorem MapL.look (K : Keyed P k) (hinj : ∀ x y, ek x = ek y → x = y) {t e : TypeId} (ht : P.underlying t = some (.map k e)) (h : MapL P k ek ev w b L) {z : Value} (hz : (zeroValue e).run P w = .ok z w) (x : α) {l : Lit} (hx : keyOf P k (ek x) = some l) (c : Bool) :
    (lk L x = none ∧ (Instr.lookup t (.map (some b)) (ek x) c).run P w = .ok (if c then .tuple #[z, .bool false] else z) w) ∨
    ∃ v, lk L x = some v ∧ (Instr.lookup t (.map (some b)) (ek x) c).run P w = .ok (if c then .tuple #[ev v, .bool true] else ev v) w := by
  obtain ⟨es, clock, hb, hS, hk, hE, hn⟩ := h
  rcases MapL.find K hinj hk hE hn w x hx with ⟨h1, h2, _⟩ | ⟨j, e0, v, h1, h2, h3, h4, h5, h6⟩
  · exact .inl ⟨h1, by simp [Instr.lookup, run_underlying ht, MapKept.run_getObj_map hb, K.check w _ hx, h2, hz, Result.andThen]⟩
  · exact .inr ⟨v, h1, by simp [Instr.lookup, run_underlying ht, MapKept.run_getObj_map hb, K.check w _ hx, h2, h6, Result.andThen]⟩

theorem setBlock_same {o' : Obj} (h : w.heap[b]? = some o') (o : Obj) : (setBlock w b o).heap[b]? = some o := by
  have := (Array.getElem?_eq_some_iff.1 h).1
  simp [setBlock, this]
theorem setBlock_other {o' : Obj} (_h : w.heap[b]? = some o') (o : Obj) {i : Nat} (hi : i ≠ b) : (setBlock w b o).heap[i]? = w.heap[i]? := by
  simp [setBlock, Array.getElem?_setIfInBounds_ne (Ne.symm hi)]

theorem grown_set {o : Obj} (hb : ∃ o', w.heap[b]? = some o') : w.grownBy (setBlock w b o) (some b) := by
  obtain ⟨o', hb⟩ := hb
  exact ⟨rfl, rfl, rfl, by simp [setBlock], fun i _ hi => setBlock_other hb _ (fun e => hi (by rw [e]))⟩

/-- m[k] = v. -/
theorem MapL.put (K : Keyed P k) (hinj : ∀ x y, ek x = ek y → x = y) {t e : TypeId} (ht : P.underlying t = some (.map k e)) (h : MapL P k ek ev w b L) (x : α) {l : Lit} (hx : keyOf P k (ek x) = some l) (v : β) :
    ∃ w', (Instr.mapUpdate t (.map (some b)) (ek x) (ev v)).run P w = .ok () w' ∧ MapL P k ek ev w' b (putL L x v) ∧ w.grownBy w' (some b) ∧ w'.heap.size = w.heap.size := by
  obtain ⟨es, clock, hb, hS, hk, hE, hn⟩ := h
  have hkp : ∀ p ∈ putL L x v, ∃ l, keyOf P k (ek p.1) = some l := by
    intro p hp
    unfold putL at hp
    split at hp
    · obtain ⟨q, hq, rfl⟩ := List.mem_map.1 hp
      split
      · exact ⟨_, hx⟩
      · exact hk q hq
    · rcases List.mem_append.1 hp with hp | hp
      · exact hk p hp
      · simp at hp; subst hp; exact ⟨_, hx⟩
  rcases MapL.find K hinj hk hE hn w x hx with ⟨h1, h2, h3⟩ | ⟨j, e0, v0, h1, h2, h3, h4, h5, h6⟩
  · have hc : ¬ (L.map Prod.fst).contains x = true := by
      rw [List.contains_iff_mem]
      intro hm
      obtain ⟨q, hq, e⟩ := List.mem_map.1 hm
      exact lk_none.1 h1 q hq e
    refine ⟨_, by simp [Instr.mapUpdate, run_underlying ht, MapKept.run_getObj_map hb, K.check w _ hx, h2, MapKept.run_setObj_map _ hb, Result.andThen]; rfl,
      ⟨es.push { key := ek x, val := ev v, born := clock }, clock + 1, setBlock_same hb _, stamped_push hS h3, hkp, ?_, put_nodup hn x v⟩, grown_set ⟨_, hb⟩, by simp [setBlock]⟩
    unfold entriesAre putL
    rw [if_neg hc]
    simp only [Array.toList_push, List.map_append]
    unfold entriesAre at hE
    rw [hE]; rfl
  · have hc : (L.map Prod.fst).contains x = true := by
      rw [List.contains_iff_mem]
      exact List.mem_map.2 ⟨_, List.mem_of_getElem? h4, rfl⟩
    have hjs : es[j]? = some e0 := by rw [← Array.getElem?_toList]; exact h3
    refine ⟨_, by simp [Instr.mapUpdate, run_underlying ht, MapKept.run_getObj_map hb, K.check w _ hx, h2, hjs, h5, K.stays w hx, MapKept.run_setObj_map _ hb, Result.andThen]; rfl,
      ⟨es.modify j (fun e' => { e' with key := ek x, val := ev v }), clock, setBlock_same hb _,
        stamped_modify hS _ _ (fun _ _ => rfl) (fun e' _ he' => by rw [hjs] at he'; cases he'; exact h5.symm), hkp, ?_, put_nodup hn x v⟩, grown_set ⟨_, hb⟩, by simp [setBlock]⟩
    unfold entriesAre putL
    rw [if_pos hc]
    apply List.ext_getElem?
    intro i
    simp only [List.getElem?_map, Array.getElem?_toList, Array.getElem?_modify]
    have hi := congrArg (fun l => l[i]?) hE
    simp only [List.getElem?_map, Array.getElem?_toList] at hi
    by_cases hij : j = i
    · subst hij
      simp [hjs, h4]
    · rw [if_neg hij, hi]
      cases hq : L[i]? with
      | none => rfl
      | some q =>
        have hqx : q.1 ≠ x := by
          intro e
          have e1 : (L.map Prod.fst)[i]? = some x := by rw [List.getElem?_map, hq]; simp [e]
          have e2 : (L.map Prod.fst)[j]? = some x := by rw [List.getElem?_map, h4]; rfl
          have hl : j < (L.map Prod.fst).length := (List.getElem?_eq_some_iff.1 e2).1
          exact hij ((List.getElem?_inj hl hn).1 (e2.trans e1.symm))
        simp [hqx]

/-- delete(m, k). -/
theorem MapL.del (K : Keyed P k) (hinj : ∀ x y, ek x = ek y → x = y) {t e ty : TypeId} (ht : P.underlying t = some (.map k e)) (h : MapL P k ek ev w b L) (x : α) {l : Lit} (hx : keyOf P k (ek x) = some l) :
    ∃ w', (Builtin.delete_ #[t, k] ty #[.map (some b), ek x]).run P w = .ok (.tuple #[]) w' ∧ MapL P k ek ev w' b (delL L x) ∧ w.grownBy w' (some b) ∧ w'.heap.size = w.heap.size := by
  obtain ⟨es, clock, hb, hS, hk, hE, hn⟩ := h
  have hkp : ∀ p ∈ delL L x, ∃ l, keyOf P k (ek p.1) = some l := fun p hp => hk p (List.mem_filter.1 hp).1
  rcases MapL.find K hinj hk hE hn w x hx with ⟨h1, h2, h3⟩ | ⟨j, e0, v0, h1, h2, h3, h4, h5, h6⟩
  · have hsame : delL L x = L := List.filter_eq_self.2 fun p hp => by simpa using lk_none.1 h1 p hp
    refine ⟨_, by simp [Builtin.delete_, run_underlying ht, MapKept.run_getObj_map hb, K.check w _ hx, h2, MapKept.run_setObj_map _ hb, Result.andThen]; rfl,
      ⟨es, clock, setBlock_same hb _, hS, hkp, by rw [hsame]; exact hE, del_nodup hn x⟩, grown_set ⟨_, hb⟩, by simp [setBlock]⟩
  · have hjl : j < es.toList.length := (List.getElem?_eq_some_iff.1 h3).1
    have hjs : j < es.size := by simpa using hjl
    have hsub : (es.eraseIdxIfInBounds j).toList = es.toList.eraseIdx j := by
      unfold Array.eraseIdxIfInBounds
      rw [dif_pos hjs]
      simp
    have hdel : delL L x = L.eraseIdx j := by
      have hj' : j < L.length := by rw [← entries_len hE]; exact hjl
      have hLj : L[j] = (x, v0) := by
        have := List.getElem?_eq_getElem hj'
        rw [h4] at this; exact (Option.some.inj this).symm
      unfold delL
      have key : ∀ (l : List (α × β)) (j : Nat), (l.map Prod.fst).Nodup → l[j]? = some (x, v0) → l.filter (fun p => decide (p.1 ≠ x)) = l.eraseIdx j := by
        intro l
        induction l with
        | nil => intro j _ h; simp at h
        | cons q l ih =>
          intro j hn h
          simp only [List.map_cons, List.nodup_cons] at hn
          cases j with
          | zero =>
            simp at h; subst h
            simp only [List.eraseIdx_zero, List.tail_cons]
            rw [List.filter_cons_of_neg (by simp)]
            refine List.filter_eq_self.2 fun p hp => ?_
            simp only [ne_eq, decide_not, Bool.not_eq_true', decide_eq_false_iff_not]
            intro e
            exact hn.1 (by simp only; rw [← e]; exact List.mem_map_of_mem hp)
          | succ j =>
            simp at h
            rw [List.filter_cons_of_pos, List.eraseIdx_cons_succ, ih j hn.2 h]
            simp only [ne_eq, decide_not, Bool.not_eq_true', decide_eq_false_iff_not]
            intro e
            exact hn.1 (by rw [e]; exact List.mem_map.2 ⟨_, List.mem_of_getElem? h, rfl⟩)
      exact key L j hn h4
    refine ⟨_, by simp [Builtin.delete_, run_underlying ht, MapKept.run_getObj_map hb, K.check w _ hx, h2, MapKept.run_setObj_map _ hb, Result.andThen]; rfl,
      ⟨es.eraseIdxIfInBounds j, clock, setBlock_same hb _, stamped_erase hS j, hkp, ?_, del_nodup hn x⟩, grown_set ⟨_, hb⟩, by simp [setBlock]⟩
    unfold entriesAre
    rw [hsub, hdel, ChangeMaps.map_eraseIdx, ChangeMaps.map_eraseIdx]
    unfold entriesAre at hE
    rw [hE]

/-- len(m). -/
theorem MapL.len {t : TypeId} {e ty : TypeId} (ht : P.underlying t = some (.map k e)) (h : MapL P k ek ev w b L) : (Builtin.len_ #[t] ty #[.map (some b)]).run P w = .ok (.int .i64 L.length) w := by
  obtain ⟨es, clock, hb, hS, hk, hE, hn⟩ := h
  have := entries_len hE
  simp at this
  simp [Builtin.len_, run_underlying ht, MapKept.run_getObj_map hb, Result.andThen, goInt, this]

/-! ### Range -/
variable (P k ek ev) in
/-- The iterator in block r goes over the map in block b, whose entries are L; those in dn have come. -/
def RangeL (w : World) (r b : Nat) (L dn : List (α × β)) : Prop :=
  ∃ es clock seen since c0, w.heap[b]? = some (.map es clock) ∧ w.heap[r]? = some (.mapIter (some b) since seen c0) ∧ Stamped es clock ∧ entriesAre ek ev es L ∧ (L.map Prod.fst).Nodup ∧
    (∀ x ∈ es.toList, x.born < since) ∧ since ≤ c0 ∧ since ≤ clock ∧ seen.size = dn.length ∧ dn.Nodup ∧ (∀ p ∈ dn, p ∈ L) ∧ (∀ (j : Nat) (e : MapEntry) (p : α × β), es.toList[j]? = some e → L[j]? = some p → (seen.contains e.born = true ↔ p ∈ dn))

theorem RangeL.same {w' : World} {r : Nat} {dn : List (α × β)} (h : RangeL ek ev w r b L dn) (hb : w'.heap[b]? = w.heap[b]?) (hr : w'.heap[r]? = w.heap[r]?) : RangeL ek ev w' r b L dn := by
  obtain ⟨es, clock, seen, since, c0, h1, h2, h3⟩ := h
  exact ⟨es, clock, seen, since, c0, hb.trans h1, hr.trans h2, h3⟩

theorem RangeL.lt {r : Nat} {dn : List (α × β)} (h : RangeL ek ev w r b L dn) : r < w.heap.size := by
  obtain ⟨es, clock, seen, since, c0, h1, h2, h3⟩ := h
  exact (Array.getElem?_eq_some_iff.1 h2).1

/-- range m. -/
theorem MapL.range {t e : TypeId} (ht : P.underlying t = some (.map k e)) (h : MapL P k ek ev w b L) :
    ∃ w', (Instr.range t (.map (some b))).run P w = .ok (.pointer (some ⟨w.heap.size, 0, none⟩)) w' ∧ RangeL ek ev w' w.heap.size b L [] ∧ w.grownBy w' none ∧ w'.heap.size = w.heap.size + 1 := by
  have hlt := h.lt
  obtain ⟨es, clock, hb, hS, hk, hE, hn⟩ := h
  refine ⟨_, run_range_map w t k e b es clock ht hb, ⟨es, clock, #[], clock, clock, ?_, heap_alloc_new w _, hS, hE, hn, hS.1, Nat.le_refl _, Nat.le_refl _, rfl, by simp, by simp, by simp⟩, World.grownBy_alloc w _ none, by simp⟩
  rw [heap_alloc_old w _ hlt]; exact hb

theorem nodup_le {γ : Type} [DecidableEq γ] : ∀ (l m : List γ), l.Nodup → (∀ x ∈ l, x ∈ m) → l.length ≤ m.length
  | [], _, _, _ => Nat.zero_le _
  | x :: l, m, hn, hs => by
    obtain ⟨h1, h2⟩ := List.nodup_cons.1 hn
    have hx : x ∈ m := hs x (by simp)
    have := nodup_le l (m.erase x) h2 (fun y hy => (List.mem_erase_of_ne (fun (e : y = x) => h1 (by rw [← e]; exact hy))).2 (hs y (by simp [hy])))
    rw [List.length_erase_of_mem hx] at this
    have : 0 < m.length := List.length_pos_of_mem hx
    simp; omega

/-- How many have come, as the world says. -/
theorem RangeL.seen {r : Nat} {dn : List (α × β)} (h : RangeL ek ev w r b L dn) : (w.iterSeen r).size = dn.length := by
  obtain ⟨es, clock, seen, since, c0, h1, h2, _, _, _, _, _, _, h3, _⟩ := h
  simp [World.iterSeen, h2, h3]

theorem RangeL.fits [DecidableEq β] {r : Nat} {dn : List (α × β)} (h : RangeL ek ev w r b L dn) : dn.length ≤ L.length := by
  obtain ⟨es, clock, seen, since, c0, h1, h2, _, _, _, _, _, _, h3, h4, h5, _⟩ := h
  exact nodup_le dn L h4 h5

/-- The step. -/
theorem RangeL.next {r : Nat} {dn : List (α × β)} (h : RangeL ek ev w r b L dn) (ty : TypeId) :
    ((∀ p ∈ L, p ∈ dn) ∧ (Instr.next (.pointer (some ⟨r, 0, none⟩)) false ty).run P w = .ok (.tuple #[.bool false]) w) ∨
    ∃ p w', p ∈ L ∧ p ∉ dn ∧ (Instr.next (.pointer (some ⟨r, 0, none⟩)) false ty).run P w = .ok (.tuple #[.bool true, ek p.1, ev p.2]) w' ∧ RangeL ek ev w' r b L (p :: dn) ∧ w.grownBy w' (some r) ∧ w'.heap.size = w.heap.size ∧
      (Instr.entry (.pointer (some ⟨r, 0, none⟩))).run P w' = .ok (.tuple #[ek p.1, ev p.2]) w' := by
  obtain ⟨es, clock, seen, since, c0, h1, h2, hS, hE, hn, hold, hsc, hscl, hsz, hdn, hsub, hco⟩ := h
  rcases run_next_at (P := P) w ty r b since c0 seen es clock h2 h1 hold hsc with ⟨h0, hrun⟩ | ⟨e, he, w1, hw1, hrun⟩
  · refine .inl ⟨fun p hp => ?_, hrun⟩
    obtain ⟨j, hj⟩ := List.mem_iff_getElem?.1 hp
    obtain ⟨e, he, _⟩ := entries_at' hE hj
    exact (hco j e p he hj).1 (all_seen es seen h0 e (List.mem_of_getElem? he))
  · obtain ⟨hm, hns⟩ := mem_left he
    obtain ⟨j, hj⟩ := List.mem_iff_getElem?.1 hm
    obtain ⟨p, hp, ep, evp⟩ := entries_at hE hj
    have hpn : p ∉ dn := fun hc => by
      have := (hco j e p hj hp).2 hc
      rw [hns] at this; cases this
    have hbr : b ≠ r := fun e => by rw [e, h2] at h1; cases h1
    have hr1 : w1.heap[r]? = some (.mapIter (some b) since seen c0) := by rcases hw1 with rfl | rfl <;> exact h2
    have hb1 : w1.heap[b]? = some (.map es clock) := by rcases hw1 with rfl | rfl <;> exact h1
    have g1 : w.grownBy (setBlock w1 r (.mapIter (some b) since (seen.push e.born) clock)) (some r) := by
      have := grown_set (o := .mapIter (some b) since (seen.push e.born) clock) ⟨_, hr1⟩
      rcases hw1 with rfl | rfl
      · exact this
      · exact ⟨this.os, this.tape, this.output, this.size, fun i hi hr => this.block i hi hr⟩
    have hbw : (setBlock w1 r (.mapIter (some b) since (seen.push e.born) clock)).heap[b]? = some (.map es clock) := (setBlock_other hr1 _ hbr).trans hb1
    have hrw : (setBlock w1 r (.mapIter (some b) since (seen.push e.born) clock)).heap[r]? = some (.mapIter (some b) since (seen.push e.born) clock) := setBlock_same hr1 _
    refine .inr ⟨p, _, List.mem_of_getElem? hp, hpn, ?_, ⟨es, clock, seen.push e.born, since, clock, hbw, hrw, hS, hE, hn, hold, hscl, hscl, by simp [hsz], List.nodup_cons.2 ⟨hpn, hdn⟩, ?_, ?_⟩, g1, ?_, ?_⟩
    · rw [hrun, ep, evp]
    · intro q hq
      rcases List.mem_cons.1 hq with rfl | hq
      · exact List.mem_of_getElem? hp
      · exact hsub q hq
    · intro i e' q hi hq
      rw [contains_push, List.mem_cons]
      have := hco i e' q hi hq
      rw [Bool.or_eq_true, this]
      constructor
      · rintro (h | h)
        · exact .inr h
        · have hee : e' = e := born_inj hS.2.1 (List.mem_of_getElem? hi) hm (by simpa using h)
          subst hee
          have hij : i = j := by
            have e1 : (es.toList.map (·.born))[i]? = some e'.born := by rw [List.getElem?_map, hi]; rfl
            have e2 : (es.toList.map (·.born))[j]? = some e'.born := by rw [List.getElem?_map, hj]; rfl
            exact (List.getElem?_inj (List.getElem?_eq_some_iff.1 e1).1 hS.2.1).1 (e1.trans e2.symm)
          subst hij
          rw [hp] at hq
          exact .inl (Option.some.inj hq).symm
      · rintro (h | h)
        · subst h
          have hij : i = j := by
            have e1 : (L.map Prod.fst)[i]? = some q.1 := by rw [List.getElem?_map, hq]; rfl
            have e2 : (L.map Prod.fst)[j]? = some q.1 := by rw [List.getElem?_map, hp]; rfl
            exact (List.getElem?_inj (List.getElem?_eq_some_iff.1 e1).1 hn).1 (e1.trans e2.symm)
          subst hij
          rw [hj] at hi
          cases hi
          exact .inr (by simp)
        · exact .inl h
    · rcases hw1 with rfl | rfl <;> simp [setBlock]
    · have := run_entry_at (P := P) (setBlock w1 r (.mapIter (some b) since (seen.push e.born) clock)) r b since seen es clock e hrw hbw hm hS.2.1
      rw [this, ep, evp]
end

section
variable {P : Program} {ops : Array Oper} {rest : List Oper} {o : Oper} {a : Act} {Q : Exit → Act → World → Prop}
/-- A step of a range over a map keyed by pairs of ints, with ints as elements. -/
theorem wpList_next_pairs {w : World} {r b : Nat} {L dn : List ((Int × Int) × Int)} (hg : o.guard = none) (it : Operand) (hop : o.op = Op.next it false) (hit : a.eval it = .pointer (some ⟨r, 0, none⟩))
    (h : RangeL (fun p : Int × Int => .agg #[.int .i64 p.1, .int .i64 p.2]) (fun x : Int => .int .i64 x) w r b L dn)
    (hDone : (∀ p ∈ L, p ∈ dn) → wpList P ops Q rest (a.put o.dst (.tuple #[.bool false])) w)
    (hMore : ∀ (x y v : Int) (w' : World), ((x, y), v) ∈ L → ((x, y), v) ∉ dn → RangeL (fun p : Int × Int => .agg #[.int .i64 p.1, .int .i64 p.2]) (fun x : Int => .int .i64 x) w' r b L (((x, y), v) :: dn) → w.grownBy w' (some r) → w'.heap.size = w.heap.size →
      (Instr.entry (.pointer (some ⟨r, 0, none⟩))).run P w' = .ok (.tuple #[.agg #[.int .i64 x, .int .i64 y], .int .i64 v]) w' → wpList P ops Q rest (a.put o.dst (.tuple #[.bool true, .agg #[.int .i64 x, .int .i64 y], .int .i64 v])) w') :
    wpList P ops Q (o :: rest) a w := by
  refine wpList_plain hg fun K' hK' => ?_
  unfold Oper.wp
  rcases h.next (P := P) o.type with ⟨hall, hrun⟩ | ⟨⟨⟨x, y⟩, v⟩, w', h1, h2, hrun, h3, h4, h5, h6⟩
  · simp [execOp, hop, hit, hrun, Result.andThen]
    exact hK' _ _ (hDone hall)
  · simp [execOp, hop, hit, hrun, Result.andThen]
    exact hK' _ _ (hMore x y v w' h1 h2 h3 h4 h5 h6)
end
end Go.Proofs.Ytinagiofolmhbaa
