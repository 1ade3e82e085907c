/- The plain law of CapsCloses: the roots of a port, revoked one after the other. -/
import Derived.Test.YtinagiofolmhbaaPL3
namespace Go.Proofs.Ytinagiofolmhbaa
open Go.RowKit
set_option linter.unusedVariables false
set_option linter.unusedSimpArgs false

theorem und_port {st : St} (hok : Ok st) (hf : Fam st) {s : Int} {h : Hn} (hu : Und (liveS st) s h) : h ∈ liveS st → ∀ r ∈ liveS st, r.ser = s → h.port = r.port := by
  induction hu with
  | @here h e =>
    intro hm r hr hs
    rw [inc_inj hok.tr.inc hm hr (by omega)]
  | @up h u hg hU ih =>
    intro hm r hr hs
    obtain ⟨h1, h2⟩ := getL_some hg
    have h0 : h.par ≠ 0 := by
      have := hf.lo _ (live_mem.1 h1)
      simp only at this
      omega
    obtain ⟨v, hv, e1, e2, _⟩ := hf.up h hm h0
    have : v = u := inc_inj hok.tr.inc hv h1 (by omega)
    subst this
    rw [← e2]
    exact ih h1 r hr hs
theorem und_root {st : St} (hf : Fam st) {s : Int} {h : Hn} (hu : Und (liveS st) s h) (h0 : h.par = 0) : h.ser = s := by
  cases hu with
  | here e => exact e
  | @up _ u hg hU =>
    obtain ⟨h1, h2⟩ := getL_some hg
    have := hf.lo _ (live_mem.1 h1)
    simp only at this
    omega
theorem revoke_mem {st : St} (hok : Ok st) {s : Int} (he : getE st s = 0) {x : Hn} : x ∈ liveS (revokeS st s) ↔ x ∈ liveS st ∧ ¬ Und (liveS st) s x := by
  unfold revokeS
  rw [live_take, List.mem_filter]
  unfold belowS
  rw [if_pos he]
  constructor
  · rintro ⟨h1, h2⟩
    refine ⟨h1, fun h3 => ?_⟩
    have : (belowL (liveS st) s).contains x.ser = true := List.contains_iff_mem.2 ((below_mem hok.tr).2 ⟨x, h1, rfl, h3⟩)
    rw [this] at h2; cases h2
  · rintro ⟨h1, h2⟩
    refine ⟨h1, ?_⟩
    cases hc : (belowL (liveS st) s).contains x.ser with
    | false => rfl
    | true =>
      obtain ⟨u, hu, e, h3⟩ := (below_mem hok.tr).1 (List.contains_iff_mem.1 hc)
      have : u = x := inc_inj hok.tr.inc hu h1 e
      subst this
      exact absurd h3 h2
/-- The table after the roots among the first k have been revoked. -/
def rootsK (p : Int) (L : List Hn) (st : St) (k : Nat) : St := (L.take k).foldl (fun s h => if h.port = p ∧ h.par = 0 then revokeS s h.ser else s) st
theorem rootsK_succ (p : Int) (L : List Hn) (st : St) (k : Nat) (hk : k < L.length) : rootsK p L st (k + 1) = if L[k].port = p ∧ L[k].par = 0 then revokeS (rootsK p L st k) L[k].ser else rootsK p L st k := by
  unfold rootsK
  rw [List.take_succ_eq_append_getElem hk, List.foldl_append]; rfl
structure RootsI (p : Int) (st s : St) (k : Nat) : Prop where
  ok : Ok s
  fam : Fam s
  sub : ∀ x ∈ liveS s, x ∈ liveS st
  oth : ∀ x ∈ liveS st, x.port ≠ p → x ∈ liveS s
  yet : ∀ j (hj : j < (liveS st).length), k ≤ j → (liveS st)[j].par = 0 → (liveS st)[j] ∈ liveS s
  gone : ∀ j (hj : j < (liveS st).length), j < k → (liveS st)[j].par = 0 → (liveS st)[j].port = p → (liveS st)[j] ∉ liveS s
  nx : s.next = st.next
theorem roots_inv {p : Int} {st : St} (hok : Ok st) (hf : Fam st) : ∀ k, k ≤ (liveS st).length → RootsI p st (rootsK p (liveS st) st k) k
  | 0, _ => ⟨hok, hf, fun _ h => h, fun _ h _ => h, fun j hj _ _ => List.getElem_mem hj, fun j hj h => by omega, rfl⟩
  | k + 1, hk => by
    have ih := roots_inv hok hf k (by omega) (p := p)
    have hkl : k < (liveS st).length := by omega
    rw [rootsK_succ p _ st k hkl]
    split
    · rename_i hc
      have hm := ih.yet k hkl (Nat.le_refl _) hc.2
      have he := (getE_live ih.ok hm).1
      refine ⟨ih.ok.take _, ih.fam.revoke ih.ok _, fun x hx => ih.sub x ((revoke_mem ih.ok he).1 hx).1, fun x hx hp => (revoke_mem ih.ok he).2 ⟨ih.oth x hx hp, fun hu => hp ?_⟩, fun j hj hkj h0 => (revoke_mem ih.ok he).2 ⟨ih.yet j hj (by omega) h0, fun hu => ?_⟩, fun j hj hjk h0 hp hx => ?_, ih.nx⟩
      · rw [und_port ih.ok ih.fam hu (ih.oth x hx hp) _ hm rfl]; exact hc.1
      · have := und_root ih.fam hu h0
        have h2 := List.pairwise_iff_getElem.1 (live_inc hok) k j hkl hj (by omega)
        omega
      · obtain ⟨h1, h2⟩ := (revoke_mem ih.ok he).1 hx
        by_cases e : j = k
        · subst e; exact h2 (.here rfl)
        · exact ih.gone j hj (by omega) h0 hp h1
    · rename_i hc
      refine ⟨ih.ok, ih.fam, ih.sub, ih.oth, fun j hj hkj h0 => ih.yet j hj (by omega) h0, fun j hj hjk h0 hp => ?_, ih.nx⟩
      by_cases e : j = k
      · subst e; exact absurd ⟨hp, h0⟩ hc
      · exact ih.gone j hj (by omega) h0 hp
theorem roots_noport {p : Int} {st : St} {s : St} (h : RootsI p st s (liveS st).length) : ∀ (n : Nat) x, x ∈ liveS s → x.ser ≤ (n : Int) → x.port ≠ p
  | 0, x, hx, hn => by
    have := h.fam.lo _ (live_mem.1 hx)
    simp only at this
    omega
  | n + 1, x, hx, hn => by
    intro hp
    by_cases h0 : x.par = 0
    · obtain ⟨j, hj, rfl⟩ := List.mem_iff_getElem.1 (h.sub x hx)
      exact h.gone j hj hj h0 hp hx
    · obtain ⟨u, hu, e1, e2, _⟩ := h.fam.up x hx h0
      have h1 := (h.ok.pars _ (live_mem.1 hx)).2
      simp only at h1
      exact roots_noport h n u hu (by omega) (by rw [e2]; exact hp)
theorem inc_ext {l m : List Hn} (hl : l.Pairwise (fun a b => a.ser < b.ser)) (hm : m.Pairwise (fun a b => a.ser < b.ser)) (h : ∀ x, x ∈ l ↔ x ∈ m) : l = m := by
  have nd : ∀ {l : List Hn}, l.Pairwise (fun a b => a.ser < b.ser) → l.Nodup := fun h => h.imp (fun hab e => by subst e; omega)
  refine List.Perm.eq_of_pairwise (le := fun a b : Hn => a.ser < b.ser) (fun a b _ _ h1 h2 => by omega) hl hm ((List.perm_ext_iff_of_nodup (nd hl) (nd hm)).2 h)
/-- In the end the roots, revoked one after the other, leave what the port's closing leaves. -/
theorem roots_end {p : Int} {st : St} (hok : Ok st) (hf : Fam st) : liveS (rootsK p (liveS st) st (liveS st).length) = liveS (closeS st p) := by
  have h := roots_inv (p := p) hok hf _ (Nat.le_refl _)
  refine inc_ext (live_inc h.ok) (live_inc (hok.take _)) fun x => ?_
  unfold closeS
  rw [live_take, List.mem_filter]
  constructor
  · intro hx
    refine ⟨h.sub x hx, ?_⟩
    have hp := roots_noport h x.ser.toNat x hx (by omega)
    cases hc : (closeL st p).contains x.ser with
    | false => rfl
    | true =>
      obtain ⟨u, hu, h1, h2⟩ := close_mem.1 (List.contains_iff_mem.1 hc)
      have : u = x := inc_inj hok.tr.inc hu (h.sub x hx) h2
      subst this
      exact absurd h1 hp
  · rintro ⟨h1, h2⟩
    refine h.oth x h1 fun hp => ?_
    have : (closeL st p).contains x.ser = true := List.contains_iff_mem.2 (close_mem.2 ⟨x, h1, hp, rfl⟩)
    rw [this] at h2; cases h2
end Go.Proofs.Ytinagiofolmhbaa
