/- What stands beside a memory: facts that hang on protected blocks alone. -/
import Derived.Test.YtnhkadknibinfaaB7
namespace Go.Proofs.Ytnhkadknibinfaa
open Go.RowKit
set_option linter.unusedVariables false

/-- A fact that hangs on protected blocks alone. -/
def Held (pr : Nat → Prop) (w : World) (X : World → Prop) : Prop := ∀ w', Kept pr w w' → X w'
theorem Held.now {pr : Nat → Prop} {w : World} {X : World → Prop} (h : Held pr w X) : X w := h w (Kept.refl _ _)
theorem Held.imp {pr : Nat → Prop} {w : World} {X Y : World → Prop} (h : Held pr w X) (hi : ∀ W, X W → Y W) : Held pr w Y := fun W hW => hi W (h W hW)
structure Step (pr : Nat → Prop) (w : World) (pr' : Nat → Prop) (w' : World) : Prop where
  kept : Kept pr w w'
  more : ∀ k, pr k → pr' k
theorem Held.step {pr pr' : Nat → Prop} {w w' : World} {X : World → Prop} (h : Held pr w X) (s : Step pr w pr' w') : Held pr' w' X :=
  fun w2 k => h w2 (s.kept.trans (k.mono s.more))
theorem Step.refl (pr : Nat → Prop) (w : World) : Step pr w pr w := ⟨Kept.refl _ _, fun _ h => h⟩
theorem Step.trans {p q r : Nat → Prop} {a b c : World} (h : Step p a q b) (k : Step q b r c) : Step p a r c := ⟨h.kept.trans (k.kept.mono h.more), fun i hi => k.more i (h.more i hi)⟩
theorem Step.of {pr : Nat → Prop} {w w' : World} (h : Kept pr w w') : Step pr w pr w' := ⟨h, fun _ h => h⟩

def grow (pr : Nat → Prop) (w w' : World) : Nat → Prop := fun k => pr k ∨ (w.heap.size ≤ k ∧ k < w'.heap.size)
theorem MemAt.prs {w : World} {pr : Nat → Prop} {M : Nat} {st : St} (h : MemAt w pr M st) : ∀ k, pr k → k < w.heap.size := by
  obtain ⟨y, h⟩ := h; exact h.prs
theorem MemAt.ok {w : World} {pr : Nat → Prop} {M : Nat} {st : St} (h : MemAt w pr M st) : StOk st := by
  obtain ⟨y, h⟩ := h; exact h.ok

/-- The blocks of a memory are there. -/
structure Lies (y : Lay) (w : World) (M : Nat) (st : St) : Prop where
  m : M < w.heap.size
  ca : ∀ d, y.ca = some d → d.block < w.heap.size ∨ st.now.length = 0
  ka : ∀ d, y.ka = some d → d.block < w.heap.size ∨ st.marks.length = 0

theorem OwnE.block {α : Type} {enc : α → Value} {w : World} {base e : Nat} {v : Value} {xs : List α} (h : OwnE enc w base e v xs) {g : Nat} (hg : v.ownBlock = some g) : g < w.heap.size := (World.ownsRow.lt h g hg).2

/-- Other blocks are protected too, if they are none of the memory's. -/
theorem MemL.protect {y : Lay} {w w' : World} {pr : Nat → Prop} {M : Nat} {st : St} (h : MemL y w pr M st) (hB : Below w.heap.size w w') : MemL y w' (grow pr w w') M st := by
  have h' := Ext.mem hB h
  have lt : ∀ k, k < w.heap.size → ¬ pr k → ¬ grow pr w w' k := fun k hk hp h => by
    rcases h with h | ⟨h, _⟩
    · exact hp h
    · omega
  refine ⟨h'.ok, ?_, h'.bM, lt M (Array.getElem?_eq_some_iff.1 h.bM).1 h.pM, ?_, ?_⟩
  · rintro k (hk | ⟨_, hk⟩)
    · exact h'.prs k hk
    · exact hk
  · refine ⟨h'.rows.own, ?_, ?_, h'.rows.apart, h'.rows.caps⟩
    · intro d hd
      exact lt _ (OwnE.block h.rows.own (by rw [hd]; rfl)) (h.rows.ownP d hd)
    · intro i hi h0
      obtain ⟨g, cur, hr, hp, hg, h1⟩ := h'.rows.row i hi h0
      obtain ⟨g2, cur2, hr2, hp2, hg2, _⟩ := h.rows.row i hi h0
      rw [hr] at hr2
      cases hr2
      exact ⟨g, cur, hr, lt g (Array.getElem?_eq_some_iff.1 hg2).1 hp, hg, h1⟩
  · refine ⟨h'.marks.own, ?_, ?_, h'.marks.apart⟩
    · intro d hd
      exact lt _ (OwnE.block h.marks.own (by rw [hd]; rfl)) (h.marks.ownP d hd)
    · intro j hj
      obtain ⟨hp, L, hL, hl⟩ := h'.marks.maps j hj
      obtain ⟨_, L2, hL2, _⟩ := h.marks.maps j hj
      exact ⟨lt _ hL2.lt hp, L, hL, hl⟩
theorem MemAt.protect {w w' : World} {pr : Nat → Prop} {M : Nat} {st : St} (h : MemAt w pr M st) (hB : Below w.heap.size w w') : MemAt w' (grow pr w w') M st := by
  obtain ⟨y, h⟩ := h; exact ⟨y, h.protect hB⟩
theorem MemAt.below {w w' : World} {pr : Nat → Prop} {M : Nat} {st : St} (h : MemAt w pr M st) (hB : Below w.heap.size w w') : MemAt w' pr M st ∧ Step pr w pr w' :=
  ⟨Ext.mem' hB h, .of (Kept.of hB h.prs)⟩
theorem MemAt.less {w : World} {pr qr : Nat → Prop} {M : Nat} {st : St} (h : MemAt w pr M st) (hq : ∀ k, qr k → pr k) : MemAt w qr M st := by
  obtain ⟨y, h⟩ := h
  exact ⟨y, h.ok, fun k hk => h.prs k (hq k hk), h.bM, fun hp => h.pM (hq _ hp), ⟨h.rows.own, fun d hd hp => h.rows.ownP d hd (hq _ hp), fun i hi h0 => by
    obtain ⟨g, cur, hr, hp, h1⟩ := h.rows.row i hi h0
    exact ⟨g, cur, hr, fun hq' => hp (hq _ hq'), h1⟩, h.rows.apart, h.rows.caps⟩, ⟨h.marks.own, fun d hd hp => h.marks.ownP d hd (hq _ hp), fun j hj => by
    obtain ⟨hp, h1⟩ := h.marks.maps j hj
    exact ⟨fun hq' => hp (hq _ hq'), h1⟩, h.marks.apart⟩⟩
theorem Step.grow {w w' : World} {pr : Nat → Prop} (hp : ∀ k, pr k → k < w.heap.size) (hB : Below w.heap.size w w') : Step pr w (grow pr w w') w' := ⟨Kept.of hB hp, fun _ h => .inl h⟩
theorem Held.below {w0 w : World} {pr : Nat → Prop} (hB : Below w0.heap.size w0 w) (hp : ∀ k, k < w0.heap.size → pr k) : Held pr w (fun W => Below w0.heap.size w0 W) := fun W hW => hB.trans (hW.below hp)
/-- Whatever holds while nothing old turns holds while nothing protected turns. -/
theorem Held.fresh {w w' : World} {pr : Nat → Prop} {X : World → Prop} (h : ∀ W, Below w'.heap.size w' W → X W) (hp : ∀ k, k < w'.heap.size → pr k) : Held pr w' X := fun W hW => h W (hW.below hp)
theorem Held.own {w w' : World} {pr : Nat → Prop} {e base : Nat} {v : Value} {l : List Int} (h : AppI e w' base v l) (hb : w.heap.size ≤ base) : Held (Go.Proofs.Ytnhkadknibinfaa.grow pr w w') w' (fun W => AppI e W base v l) := by
  intro W hW
  refine OwnE.same h fun g cur fr hg hv => hW.block g (.inr ?_)
  have := World.ownsRow.lt h g hv
  omega
theorem OwnD.same {w w' : World} {base e : Nat} {v : Value} {cs : List Ch} (h : OwnD w base e v cs) (hs : ∀ g, v.ownBlock = some g → w'.heap[g]? = w.heap[g]?) : OwnD w' base e v cs := by
  obtain ⟨h1, h2⟩ := h
  rcases h2 with h2 | ⟨g, cap, cur, hv, hg, hh, h3⟩
  · exact ⟨h1, .inl h2⟩
  · exact ⟨h1, .inr ⟨g, cap, cur, hv, hg, (hs g (by rw [hv]; rfl)).trans hh, h3⟩⟩
theorem Held.ownD {w w' : World} {pr : Nat → Prop} {base : Nat} {v : Value} {l : List Ch} (h : OwnD w' base 39 v l) (hb : w.heap.size ≤ base) : Held (Go.Proofs.Ytnhkadknibinfaa.grow pr w w') w' (fun W => OwnD W base 39 v l) := by
  intro W hW
  refine OwnD.same h fun g hv => hW.block g (.inr ?_)
  have := World.ownsRow.lt h g hv
  omega

/-! ### The contracts, said of what stands beside -/
section
variable {w : World} {pr : Nat → Prop} {M : Nat} {st : St}
theorem x_store (h : MemAt w pr M st) (o i v : Int) :
    Calls Try.prog 24 #[.pointer (some ⟨M, 0, none⟩), .int .i64 o, .int .i64 i, .int .i64 v] w fun e w' => e = .returned (.tuple #[.int .i64 (ldV st.now o i), .int .i64 (ldE st.now o i)]) ∧ MemAt w' pr M (storeS st o i v) ∧ Step pr w pr w' := by
  obtain ⟨y, h⟩ := h
  exact (store_any h o i v).mono fun e w' ⟨h1, h2, h3⟩ => ⟨h1, ⟨y, h2⟩, .of h3⟩
theorem x_load (h : MemAt w pr M st) (o i : Int) :
    Calls Try.prog 21 #[.pointer (some ⟨M, 0, none⟩), .int .i64 o, .int .i64 i] w fun e w' => e = .returned (.tuple #[.int .i64 (ldV st.now o i), .int .i64 (ldE st.now o i)]) ∧ w = w' := by
  obtain ⟨y, h⟩ := h
  exact load_any h o i
theorem x_marks (h : MemAt w pr M st) : Calls Try.prog 14 #[.pointer (some ⟨M, 0, none⟩)] w fun e w' => e = .returned (.int .i64 st.marks.length) ∧ w = w' := by
  obtain ⟨y, h⟩ := h
  exact marks_any h
theorem x_mark (h : MemAt w pr M st) :
    Calls Try.prog 16 #[.pointer (some ⟨M, 0, none⟩)] w fun e w' => e = .returned (.tuple #[.int .i64 (markN st), .int .i64 (markE st)]) ∧ MemAt w' pr M (markS st) ∧ Step pr w pr w' := by
  obtain ⟨y, h⟩ := h
  exact (mark_any h).mono fun e w' ⟨h1, h2, h3⟩ => ⟨h1, h2, .of h3⟩
theorem x_back (h : MemAt w pr M st) :
    Calls Try.prog 17 #[.pointer (some ⟨M, 0, none⟩)] w fun e w' => e = .returned (.tuple #[.int .i64 (popN st), .int .i64 (popE st)]) ∧ MemAt w' pr M (backS st) ∧ Step pr w pr w' := by
  obtain ⟨y, h⟩ := h
  exact (back_any h).mono fun e w' ⟨h1, h2, h3⟩ => ⟨h1, h2, .of h3⟩
theorem x_keep (h : MemAt w pr M st) :
    Calls Try.prog 20 #[.pointer (some ⟨M, 0, none⟩)] w fun e w' => e = .returned (.tuple #[.int .i64 (popN st), .int .i64 (popE st)]) ∧ MemAt w' pr M (keepS st) ∧ Step pr w pr w' := by
  obtain ⟨y, h⟩ := h
  exact (keep_any h).mono fun e w' ⟨h1, h2, h3⟩ => ⟨h1, h2, .of h3⟩
theorem x_all (h : MemAt w pr M st) {l : List Int} (hl : st.now.flatten = l) : Calls Try.prog 13 #[.pointer (some ⟨M, 0, none⟩)] w fun e w' =>
    ∃ a c pr', e = .returned (.slice a l.length c) ∧ MemAt w' pr' M st ∧ Held pr' w' (fun W => AppI 2 W w.heap.size (.slice a l.length c) l) ∧ Step pr w pr' w' := by
  subst hl
  obtain ⟨y, h⟩ := h
  refine (all_any h).mono ?_
  rintro e w' ⟨v, rfl, ho, hB⟩
  obtain ⟨a, c, rfl⟩ := ho.src.shape
  exact ⟨a, c, grow pr w w', rfl, ⟨y, h.protect hB⟩, Held.own ho (Nat.le_refl _), Step.grow h.prs hB⟩
theorem x_plan (h : MemAt w pr M st) {l : List Int} (hl : planI st.now = l) : Calls Try.prog 22 #[.pointer (some ⟨M, 0, none⟩)] w fun e w' =>
    ∃ a c pr', e = .returned (.slice a l.length c) ∧ MemAt w' pr' M st ∧ Held pr' w' (fun W => AppI 3 W w.heap.size (.slice a l.length c) l) ∧ Step pr w pr' w' := by
  subst hl
  obtain ⟨y, h⟩ := h
  refine (plan_any h).mono ?_
  rintro e w' ⟨v, rfl, ho, hB⟩
  obtain ⟨a, c, rfl⟩ := ho.src.shape
  exact ⟨a, c, grow pr w w', rfl, ⟨y, h.protect hB⟩, Held.own ho (Nat.le_refl _), Step.grow h.prs hB⟩
theorem x_changes (h : MemAt w pr M st) {l : List Ch} (hl : changesV st = l) : Calls Try.prog 15 #[.pointer (some ⟨M, 0, none⟩)] w fun e w' =>
    ∃ a c pr', e = .returned (.slice a l.length c) ∧ MemAt w' pr' M st ∧ Held pr' w' (fun W => OwnD W w.heap.size 39 (.slice a l.length c) l) ∧ Step pr w pr' w' := by
  subst hl
  obtain ⟨y, h⟩ := h
  refine (changes_any h).mono ?_
  rintro e w' ⟨v, rfl, ho, hB⟩
  obtain ⟨a, c, rfl⟩ := ho.src.shape
  exact ⟨a, c, grow pr w w', rfl, ⟨y, h.protect hB⟩, Held.ownD ho (Nat.le_refl _), Step.grow h.prs hB⟩
theorem x_row (h : MemAt w pr M st) (i : Nat) (hi : i < st.now.length) : Calls Try.prog 25 #[.pointer (some ⟨M, 0, none⟩), .int .i64 ((i : Int) + 1)] w fun e w' =>
    ∃ v pr', e = .returned (.tuple #[v, .int .i64 0]) ∧ MemAt w' pr' M st ∧ Held pr' w' (fun W => AppI 2 W w.heap.size v st.now[i]) ∧ Step pr w pr' w' := by
  obtain ⟨y, h⟩ := h
  refine (all_ok h i hi).mono ?_
  rintro e w' ⟨v, rfl, ho, hB⟩
  exact ⟨v, grow pr w w', rfl, ⟨y, h.protect hB⟩, Held.own ho (Nat.le_refl _), Step.grow h.prs hB⟩
theorem x_norow (h : MemAt w pr M st) (o : Int) (ho : o < 1 ∨ (st.now.length : Int) < o) : Calls Try.prog 25 #[.pointer (some ⟨M, 0, none⟩), .int .i64 o] w fun e w' =>
    ∃ v, e = .returned (.tuple #[v, .int .i64 211]) ∧ MemAt w' pr M st ∧ Step pr w pr w' := by
  obtain ⟨y, h⟩ := h
  refine (all_bad h o ho).mono ?_
  rintro e w' ⟨v, rfl, ho, hB⟩
  exact ⟨v, rfl, ⟨y, Ext.mem hB h⟩, .of (Kept.of hB h.prs)⟩
theorem x_new {v : Value} {p : List Int} {a : List (List Int)} (h : SrcI w v p) (hr : rightV p = true) (ha : zeros p = a) :
    Calls Try.prog 26 #[v] w fun e w' => ∃ M pr', e = .returned (.tuple #[.pointer (some ⟨M, 0, none⟩), .int .i64 0]) ∧ MemAt w' pr' M ⟨a, []⟩ ∧ (∀ k, k < w.heap.size → pr' k) ∧ Below w.heap.size w w' := by
  subst ha
  refine (new_right v p w h hr).mono ?_
  rintro e w' ⟨M, h1, h2, h3⟩
  exact ⟨M, _, h1, h2, fun k hk => hk, h3⟩
end
end Go.Proofs.Ytnhkadknibinfaa
