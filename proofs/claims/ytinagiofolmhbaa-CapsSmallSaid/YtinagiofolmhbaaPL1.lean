/- The caps' plain law: what was made, what is gone, who is below whom. -/
import Derived.Test.YtinagiofolmhbaaMap
namespace Go.Proofs.Ytinagiofolmhbaa
set_option linter.unusedVariables false
set_option linter.unusedSimpArgs false

/-- A handle. -/
structure Hn where
  ser : Int
  par : Int
  port : Int
  hol : Int
  rts : BitVec 8
deriving DecidableEq
def hn0 : Hn := ⟨0, 0, 0, 0, 0#8⟩
/-- All handles that were made, each with whether it is gone; the next serial. -/
structure St where
  next : Int
  made : List (Hn × Bool)
deriving DecidableEq
def liveS (st : St) : List Hn := (st.made.filter (fun x => !x.2)).map (·.1)
def getL (l : List Hn) (s : Int) : Option Hn := l.find? (fun h => decide (h.ser = s))
def ownH (st : St) (who : Int) : List (Hn × Bool) := st.made.filter (fun x => decide (x.1.hol = who))
def placesS (st : St) (who : Int) : List Int := (ownH st who).map (·.1.ser)
def undB (l : List Hn) : Nat → Hn → Int → Bool
  | 0, h, s => decide (h.ser = s)
  | n + 1, h, s => if h.ser = s then true else match getL l h.par with
    | none => false
    | some u => undB l n u s
def belowL (l : List Hn) (s : Int) : List Int := (l.filter (fun h => undB l l.length h s)).map (·.ser)
def takeS (st : St) (p : List Int) : St := { st with made := st.made.map (fun x => (x.1, x.2 || p.contains x.1.ser)) }
def getE (st : St) (s : Int) : Int := if (getL (liveS st) s).isSome then 0 else 6
def getV (st : St) (s : Int) : Hn := (getL (liveS st) s).getD hn0
def belowS (st : St) (s : Int) : List Int := if getE st s = 0 then belowL (liveS st) s else []
def revokeS (st : St) (s : Int) : St := takeS st (belowS st s)
def closeL (st : St) (p : Int) : List Int := ((liveS st).filter (fun h => decide (h.port = p))).map (·.ser)
def closeS (st : St) (p : Int) : St := takeS st (closeL st p)
def addE (st : St) (hol : Int) : Int := if 256 ≤ (liveS st).length then 5 else if 281474976710656 < st.next then 4 else if 256 ≤ (placesS st hol).length then 4 else 0
def addN (st : St) (hol : Int) : Int := if addE st hol = 0 then st.next else 0
def addS (st : St) (h : Hn) : St := if addE st h.hol = 0 then ⟨st.next + 1, st.made ++ [({ h with ser := st.next }, false)]⟩ else st
def badH (n : Int) : Bool := decide (n < 0 ∨ 16 < n)
def badM (r : BitVec 8) : Bool := decide (15 < r.toNat)
def handE (f t : BitVec 8) : Int := if badM f ∨ badM t then 220 else if f &&& 4#8 = 0#8 ∨ ¬ t &&& ~~~f = 0#8 then 221 else 0
def rootW (port to : Int) (r : BitVec 8) : Int := if port < 0 ∨ 4294967295 < port ∨ badH to then 2 else if badM r then 220 else 0
def rootE (st : St) (port to : Int) (r : BitVec 8) : Int := if rootW port to r = 0 then addE st to else rootW port to r
def rootN (st : St) (port to : Int) (r : BitVec 8) : Int := if rootW port to r = 0 then addN st to else 0
def rootS (st : St) (port to : Int) (r : BitVec 8) : St := if rootW port to r = 0 then addS st ⟨0, 0, port, to, r⟩ else st
def derW (st : St) (s to : Int) (r : BitVec 8) : Int := if getE st s = 0 then (if badH to then 2 else handE (getV st s).rts r) else 6
def derE (st : St) (s to : Int) (r : BitVec 8) : Int := if derW st s to r = 0 then addE st to else derW st s to r
def derN (st : St) (s to : Int) (r : BitVec 8) : Int := if derW st s to r = 0 then addN st to else 0
def derS (st : St) (s to : Int) (r : BitVec 8) : St := if derW st s to r = 0 then addS st ⟨0, s, (getV st s).port, to, r⟩ else st
def plcE (st : St) (who i : Int) : Int := if badH who then 2 else if i < 0 ∨ ((ownH st who).length : Int) ≤ i then 6 else match (ownH st who)[i.toNat]? with
  | some x => if x.2 then 230 else 0
  | none => 6
def plcV (st : St) (who i : Int) : Hn := if plcE st who i = 0 then ((ownH st who)[i.toNat]?.map (·.1)).getD hn0 else hn0

structure Ok (st : St) : Prop where
  n1 : 1 ≤ st.next
  n2 : st.next ≤ 281474976710657
  sers : st.made.Pairwise (fun a b => a.1.ser < b.1.ser)
  lo : ∀ x ∈ st.made, 1 ≤ x.1.ser ∧ x.1.ser < st.next
  pars : ∀ x ∈ st.made, 0 ≤ x.1.par ∧ x.1.par < x.1.ser
  hols : ∀ x ∈ st.made, 0 ≤ x.1.hol ∧ x.1.hol ≤ 16
  rtss : ∀ x ∈ st.made, x.1.rts.toNat ≤ 15
  ports : ∀ x ∈ st.made, 0 ≤ x.1.port ∧ x.1.port ≤ 4294967295
  live : (liveS st).length ≤ 256
  places : ∀ who, (placesS st who).length ≤ 256

theorem live_mem {st : St} {h : Hn} : h ∈ liveS st ↔ (h, false) ∈ st.made := by
  unfold liveS
  simp only [List.mem_map, List.mem_filter]
  constructor
  · rintro ⟨⟨x, b⟩, ⟨h1, h2⟩, rfl⟩
    simp at h2; subst h2; exact h1
  · intro h1
    exact ⟨(h, false), ⟨h1, rfl⟩, rfl⟩
theorem live_inc {st : St} (h : Ok st) : (liveS st).Pairwise (fun a b => a.ser < b.ser) := by
  unfold liveS
  exact List.pairwise_map.2 (List.Pairwise.filter _ h.sers)
theorem inc_inj : ∀ {l : List Hn}, l.Pairwise (fun a b => a.ser < b.ser) → ∀ {a b : Hn}, a ∈ l → b ∈ l → a.ser = b.ser → a = b
  | [], _, a, b, ha, _, _ => by cases ha
  | x :: l, hp, a, b, ha, hb, e => by
    obtain ⟨h1, h2⟩ := List.pairwise_cons.1 hp
    rcases List.mem_cons.1 ha with rfl | ha' <;> rcases List.mem_cons.1 hb with rfl | hb'
    · rfl
    · have := h1 _ hb'; omega
    · have := h1 _ ha'; omega
    · exact inc_inj h2 ha' hb' e
theorem getL_some {l : List Hn} {s : Int} {h : Hn} (hg : getL l s = some h) : h ∈ l ∧ h.ser = s := by
  unfold getL at hg
  exact ⟨List.mem_of_find?_eq_some hg, by simpa using List.find?_some hg⟩
theorem getL_mem {l : List Hn} (hp : l.Pairwise (fun a b => a.ser < b.ser)) {h : Hn} (hm : h ∈ l) : getL l h.ser = some h := by
  cases hg : getL l h.ser with
  | none =>
    unfold getL at hg
    have := List.find?_eq_none.1 hg h hm
    simp at this
  | some u =>
    obtain ⟨h1, h2⟩ := getL_some hg
    rw [inc_inj hp h1 hm h2]
theorem getL_none {l : List Hn} {s : Int} : getL l s = none ↔ ∀ h ∈ l, h.ser ≠ s := by
  unfold getL
  rw [List.find?_eq_none]
  simp

/-! ### Below -/
inductive Und (l : List Hn) (s : Int) : Hn → Prop
  | here {h : Hn} : h.ser = s → Und l s h
  | up {h u : Hn} : getL l h.par = some u → Und l s u → Und l s h
structure Tr (l : List Hn) : Prop where
  inc : l.Pairwise (fun a b => a.ser < b.ser)
  par : ∀ h ∈ l, h.par < h.ser
theorem Ok.tr {st : St} (h : Ok st) : Tr (liveS st) := ⟨live_inc h, fun x hx => (h.pars (x, false) (live_mem.1 hx)).2⟩
theorem undB_und {l : List Hn} {s : Int} : ∀ (n : Nat) (h : Hn), undB l n h s = true → Und l s h
  | 0, h, e => by simp [undB] at e; exact .here e
  | n + 1, h, e => by
    unfold undB at e
    split at e
    · exact .here (by assumption)
    · split at e
      · cases e
      · rename_i u hu
        exact .up hu (undB_und n u e)
def cntB (l : List Hn) (x : Int) : Nat := (l.filter (fun h => decide (h.ser < x))).length
theorem cnt_lt : ∀ {l : List Hn} {u : Hn} {x : Int}, u ∈ l → u.ser < x → cntB l u.ser < cntB l x
  | [], u, x, hu, _ => by cases hu
  | a :: l, u, x, hu, hx => by
    have hle : ∀ m : List Hn, cntB m u.ser ≤ cntB m x := by
      intro m
      induction m with
      | nil => exact Nat.le_refl _
      | cons b m ih =>
        unfold cntB at *
        simp only [List.filter_cons]
        by_cases h1 : b.ser < u.ser
        · have h2 : b.ser < x := by omega
          simp only [h1, h2, decide_true, if_true, List.length_cons]; omega
        · by_cases h2 : b.ser < x
          · simp only [h1, h2, decide_true, decide_false, if_true, List.length_cons]; simp; omega
          · simp only [h1, h2, decide_false]; simpa using ih
    rcases List.mem_cons.1 hu with rfl | hu'
    · have := hle l
      unfold cntB at *
      simp only [List.filter_cons, hx, decide_true, if_true, List.length_cons, Int.lt_irrefl, decide_false]
      simp; omega
    · have ih := cnt_lt hu' hx
      unfold cntB at *
      simp only [List.filter_cons]
      by_cases h1 : a.ser < u.ser
      · have h2 : a.ser < x := by omega
        simp only [h1, h2, decide_true, if_true, List.length_cons]; omega
      · by_cases h2 : a.ser < x
        · simp only [h1, h2, decide_true, decide_false, if_true, List.length_cons]; simp; omega
        · simp only [h1, h2, decide_false]; simpa using ih
theorem und_undB {l : List Hn} (ht : Tr l) {s : Int} {h : Hn} (hu : Und l s h) : h ∈ l → ∀ n, cntB l h.ser ≤ n → undB l n h s = true := by
  induction hu with
  | here e => intro _ n _; cases n <;> simp [undB, e]
  | @up h u hg hU ih =>
    intro hm n hn
    obtain ⟨h1, h2⟩ := getL_some hg
    have hlt : u.ser < h.ser := by rw [h2]; exact ht.par h hm
    have hc := cnt_lt h1 hlt
    cases n with
    | zero => omega
    | succ n =>
      unfold undB
      split
      · rfl
      · rw [hg]
        exact ih h1 n (by omega)
theorem undB_iff {l : List Hn} (ht : Tr l) {s : Int} {h : Hn} (hm : h ∈ l) : undB l l.length h s = true ↔ Und l s h :=
  ⟨undB_und _ _, fun hu => und_undB ht hu hm _ (List.length_filter_le _ _)⟩

theorem und_ge {l : List Hn} (ht : Tr l) {s : Int} {h : Hn} (hu : Und l s h) : h ∈ l → s ≤ h.ser := by
  induction hu with
  | here e => intro _; omega
  | @up h u hg hU ih =>
    intro hm
    obtain ⟨h1, h2⟩ := getL_some hg
    have := ht.par h hm
    have := ih h1
    omega
/-- One step down: below a handle is it itself, and what is below one that is derived from it. -/
theorem und_step {l : List Hn} (ht : Tr l) {s : Int} {top h : Hn} (htop : getL l s = some top) (hm : h ∈ l) : Und l s h ↔ h.ser = s ∨ ∃ c, c ∈ l ∧ c.par = s ∧ Und l c.ser h := by
  constructor
  · intro hu
    induction hu with
    | here e => exact .inl e
    | @up h u hg hU ih =>
      obtain ⟨h1, h2⟩ := getL_some hg
      rcases ih h1 with e | ⟨c, hc, hp, hcu⟩
      · exact .inr ⟨h, hm, by omega, .here rfl⟩
      · exact .inr ⟨c, hc, hp, .up hg hcu⟩
  · rintro (e | ⟨c, hc, hp, hu⟩)
    · exact .here e
    · obtain ⟨h1, h2⟩ := getL_some htop
      have key : ∀ x, Und l c.ser x → x ∈ l → Und l s x := by
        intro x hx
        induction hx with
        | @here x e =>
          intro hxm
          have : x = c := inc_inj ht.inc hxm hc e
          subst this
          exact .up (by rw [hp]; exact htop) (.here h2)
        | @up x u hg hU ih =>
          intro _
          exact .up hg (ih (getL_some hg).1)
      exact key h hu hm
theorem und_chain {l : List Hn} (ht : Tr l) {a b : Int} {h : Hn} (ha : Und l a h) : h ∈ l → Und l b h → a ≤ b → ∀ x ∈ l, x.ser = b → Und l a x := by
  induction ha with
  | @here h e =>
    intro hm hb hab x hx hxb
    have := und_ge ht hb hm
    exact .here (by omega)
  | @up h u hg hU ih =>
    intro hm hb hab x hx hxb
    cases hb with
    | here e =>
      have : x = h := inc_inj ht.inc hx hm (by omega)
      rw [this]
      exact .up hg hU
    | up hg2 hU2 =>
      rw [hg] at hg2
      cases hg2
      exact ih (getL_some hg).1 hU2 hab x hx hxb
/-- What is below one child is below no other. -/
theorem und_apart {l : List Hn} (ht : Tr l) {s : Int} {c d h : Hn} (hc : c ∈ l) (hd : d ∈ l) (hcs : c.par = s) (hds : d.par = s) (hm : h ∈ l) (h1 : Und l c.ser h) (h2 : Und l d.ser h) : c = d := by
  have key : ∀ {c d : Hn}, c ∈ l → d ∈ l → c.par = s → d.par = s → Und l c.ser h → Und l d.ser h → c.ser ≤ d.ser → c = d := by
    intro c d hc hd hcs hds h1 h2 hle
    have h3 := und_chain ht h1 hm h2 hle d hd rfl
    cases h3 with
    | here e => exact (inc_inj ht.inc hd hc e).symm
    | up hg hU =>
      obtain ⟨h4, h5⟩ := getL_some hg
      have := und_ge ht hU h4
      have := ht.par c hc
      omega
  rcases Int.le_total c.ser d.ser with hle | hle
  · exact key hc hd hcs hds h1 h2 hle
  · exact (key hd hc hds hcs h2 h1 hle).symm
/-- The serials below a serial. -/
def Dsc (l : List Hn) (s x : Int) : Prop := ∃ h ∈ l, h.ser = x ∧ Und l s h
theorem below_mem {l : List Hn} (ht : Tr l) {s x : Int} : x ∈ belowL l s ↔ Dsc l s x := by
  unfold belowL Dsc
  simp only [List.mem_map, List.mem_filter]
  constructor
  · rintro ⟨h, ⟨h1, h2⟩, rfl⟩
    exact ⟨h, h1, rfl, undB_und _ _ h2⟩
  · rintro ⟨h, h1, rfl, h2⟩
    exact ⟨h, ⟨h1, (undB_iff ht h1).2 h2⟩, rfl⟩
theorem below_inc {l : List Hn} (ht : Tr l) (s : Int) : (belowL l s).Pairwise (· < ·) := by
  unfold belowL
  exact List.pairwise_map.2 (List.Pairwise.filter _ ht.inc)
theorem inc_nodup {l : List Int} (h : l.Pairwise (· < ·)) : l.Nodup := List.Pairwise.imp (fun hab e => by omega) h
theorem inc_le {l : List Int} (h : l.Pairwise (· < ·)) : l.Pairwise (· ≤ ·) := List.Pairwise.imp (fun hab => by omega) h
/-- A sorted list is told by its members. -/
theorem sorted_eq : ∀ {l m : List Int}, l.Pairwise (· ≤ ·) → m.Pairwise (· ≤ ·) → l.Perm m → l = m
  | [], m, _, _, hp => (List.nil_perm.1 hp).symm ▸ rfl
  | x :: l, m, hl, hm, hp => by
    cases m with
    | nil => exact absurd hp.length_eq (by simp)
    | cons y m =>
      obtain ⟨h1, h2⟩ := List.pairwise_cons.1 hl
      obtain ⟨h3, h4⟩ := List.pairwise_cons.1 hm
      have hx : x ∈ y :: m := hp.subset (by simp)
      have hy : y ∈ x :: l := hp.symm.subset (by simp)
      have e : x = y := by
        rcases List.mem_cons.1 hx with e | hx
        · exact e
        · rcases List.mem_cons.1 hy with e | hy
          · exact e.symm
          · have := h1 y hy; have := h3 x hx; omega
      subst e
      rw [sorted_eq h2 h4 (List.perm_cons x |>.1 hp)]
theorem perm_mem {l m : List Int} (hl : l.Nodup) (hm : m.Nodup) (h : ∀ x, x ∈ l ↔ x ∈ m) : l.Perm m := by
  exact (List.perm_ext_iff_of_nodup hl hm).2 h
/-- Whatever list has just the serials below, each once: sorted, it is Below. -/
theorem below_sorted {l : List Hn} (ht : Tr l) {s : Int} {T r : List Int} (hn : T.Nodup) (hT : ∀ x, x ∈ T ↔ Dsc l s x) (hr : r.Pairwise (· ≤ ·)) (hp : T.Perm r) : r = belowL l s :=
  sorted_eq hr (inc_le (below_inc ht s)) (hp.symm.trans (perm_mem hn (inc_nodup (below_inc ht s)) fun x => (hT x).trans (below_mem ht).symm))

/-! ### What an act leaves -/
theorem live_take {st : St} {p : List Int} : liveS (takeS st p) = (liveS st).filter (fun h => !p.contains h.ser) := by
  unfold liveS takeS
  simp only
  induction st.made with
  | nil => rfl
  | cons x l ih =>
    obtain ⟨h, b⟩ := x
    cases b <;> simp only [List.map_cons, List.filter_cons, Bool.false_or, Bool.true_or, Bool.not_true, Bool.not_false, if_true, List.map_cons]
    · by_cases hc : p.contains h.ser = true
      · simp only [hc, Bool.not_true]; simpa using ih
      · simp only [Bool.not_eq_true] at hc
        simp only [hc, Bool.not_false, if_true, List.map_cons]; simpa using ih
    · simpa using ih
theorem own_take {st : St} {p : List Int} (who : Int) : placesS (takeS st p) who = placesS st who := by
  unfold placesS ownH takeS
  simp only
  induction st.made with
  | nil => rfl
  | cons x l ih =>
    simp only [List.map_cons, List.filter_cons]
    split
    · simp only [List.map_cons]; rw [ih]
    · exact ih
theorem Ok.take {st : St} (h : Ok st) (p : List Int) : Ok (takeS st p) := by
  have mem : ∀ x ∈ (takeS st p).made, ∃ y ∈ st.made, y.1 = x.1 := by
    intro x hx
    obtain ⟨y, hy, rfl⟩ := List.mem_map.1 hx
    exact ⟨y, hy, rfl⟩
  refine ⟨h.n1, h.n2, List.pairwise_map.2 h.sers, ?_, ?_, ?_, ?_, ?_, ?_, fun who => by rw [own_take]; exact h.places who⟩
  · intro x hx; obtain ⟨y, hy, e⟩ := mem x hx; rw [← e]; exact h.lo y hy
  · intro x hx; obtain ⟨y, hy, e⟩ := mem x hx; rw [← e]; exact h.pars y hy
  · intro x hx; obtain ⟨y, hy, e⟩ := mem x hx; rw [← e]; exact h.hols y hy
  · intro x hx; obtain ⟨y, hy, e⟩ := mem x hx; rw [← e]; exact h.rtss y hy
  · intro x hx; obtain ⟨y, hy, e⟩ := mem x hx; rw [← e]; exact h.ports y hy
  · rw [live_take]; exact Nat.le_trans (List.length_filter_le _ _) h.live
theorem live_add {st : St} {h : Hn} (he : addE st h.hol = 0) : liveS (addS st h) = liveS st ++ [{ h with ser := st.next }] := by
  unfold addS
  rw [if_pos he]
  unfold liveS
  simp
theorem own_add {st : St} {h : Hn} (he : addE st h.hol = 0) (who : Int) : placesS (addS st h) who = placesS st who ++ (if h.hol = who then [st.next] else []) := by
  unfold addS
  rw [if_pos he]
  unfold placesS ownH
  simp only [List.filter_append, List.map_append, List.filter_cons, List.filter_nil]
  by_cases hw : h.hol = who <;> simp [hw]
theorem addE_zero {st : St} {hol : Int} (he : addE st hol = 0) : (liveS st).length < 256 ∧ st.next ≤ 281474976710656 ∧ (placesS st hol).length < 256 := by
  unfold addE at he
  split at he
  · cases he
  · split at he
    · cases he
    · split at he
      · cases he
      · omega
theorem Ok.add {st : St} (h : Ok st) {x : Hn} (hp : 0 ≤ x.par ∧ x.par < st.next) (hh : 0 ≤ x.hol ∧ x.hol ≤ 16) (hr : x.rts.toNat ≤ 15) (ho : 0 ≤ x.port ∧ x.port ≤ 4294967295) : Ok (addS st x) := by
  by_cases he : addE st x.hol = 0
  · obtain ⟨h1, h2, h3⟩ := addE_zero he
    have hl := live_add he
    have hw := own_add he
    have n1 := h.n1
    unfold addS at *
    rw [if_pos he] at *
    refine ⟨by simp only; omega, by simp only; omega, ?_, ?_, ?_, ?_, ?_, ?_, by rw [hl]; simp; omega, ?_⟩
    · refine List.pairwise_append.2 ⟨h.sers, by simp, ?_⟩
      intro a ha b hb
      simp at hb; subst hb
      exact (h.lo a ha).2
    all_goals (try (intro y hy; rcases List.mem_append.1 hy with hy | hy))
    · have := h.lo y hy; simp only; omega
    · simp at hy; subst hy; simp only; omega
    · exact h.pars y hy
    · simp at hy; subst hy; exact hp
    · exact h.hols y hy
    · simp at hy; subst hy; exact hh
    · exact h.rtss y hy
    · simp at hy; subst hy; exact hr
    · exact h.ports y hy
    · simp at hy; subst hy; exact ho
    · intro who
      rw [hw who]
      by_cases hx : x.hol = who
      · subst hx; simp; omega
      · rw [if_neg hx, List.append_nil]; exact h.places who
  · unfold addS; rw [if_neg he]; exact h
theorem getV_mem {st : St} {s : Int} (h : getE st s = 0) : getL (liveS st) s = some (getV st s) ∧ getV st s ∈ liveS st ∧ (getV st s).ser = s := by
  unfold getE at h
  unfold getV
  cases hg : getL (liveS st) s with
  | none => rw [hg] at h; cases h
  | some u => exact ⟨rfl, getL_some hg⟩
theorem Ok.root {st : St} (h : Ok st) (port to : Int) (r : BitVec 8) : Ok (rootS st port to r) := by
  unfold rootS
  split
  · rename_i hw
    unfold rootW at hw
    split at hw
    · cases hw
    · split at hw
      · cases hw
      · rename_i h1 h2
        have n1 := h.n1
        unfold badH at h1
        unfold badM at h2
        simp at h1 h2
        exact h.add ⟨by simp, by simp only; omega⟩ (by simp only; omega) (by simp only; omega) (by simp only; omega)
  · exact h
theorem Ok.der {st : St} (h : Ok st) (s to : Int) (r : BitVec 8) : Ok (derS st s to r) := by
  unfold derS
  split
  · rename_i hw
    unfold derW at hw
    split at hw
    · rename_i hg
      obtain ⟨_, h1, h2⟩ := getV_mem hg
      have h3 := live_mem.1 h1
      have h4 := h.lo _ h3
      have h5 := h.ports _ h3
      simp only at h4 h5
      rw [h2] at h4
      split at hw
      · cases hw
      · rename_i hb
        unfold badH at hb
        unfold handE badM at hw
        split at hw
        · cases hw
        · rename_i hm
          simp at hb hm
          exact h.add ⟨by simp only; omega, by simp only; omega⟩ (by simp only; omega) (by simp only; omega) h5
    · cases hw
  · exact h
end Go.Proofs.Ytinagiofolmhbaa
