/- The table as it lies in the world; what is read of it. -/
import Derived.Test.YtinagiofolmhbaaA2
import Derived.Test.YtinagiofolmhbaaMap
import Derived.Test.YtinagiofolmhbaaRowN
import Derived.Test.YtinagiofolmhbaaCalm
import Derived.Deep.RegionHeld3
import Derived.Maps.AppendAt
import Derived.DeepKeys4
namespace Go.Proofs.Ytinagiofolmhbaa
open Go.RowKit
set_option linter.unusedVariables false
set_option linter.unusedSimpArgs false

/-- Nothing that is protected has turned. -/
structure Kept (pr : Nat → Prop) (w w' : World) : Prop where
  os : w'.os = w.os
  tape : w'.tape = w.tape
  output : w'.output = w.output
  size : w.heap.size ≤ w'.heap.size
  block : ∀ k, pr k → w'.heap[k]? = w.heap[k]?
theorem Kept.refl (pr : Nat → Prop) (w : World) : Kept pr w w := ⟨rfl, rfl, rfl, Nat.le_refl _, fun _ _ => rfl⟩
theorem Kept.trans {pr : Nat → Prop} {a b c : World} (h : Kept pr a b) (k : Kept pr b c) : Kept pr a c :=
  ⟨k.os.trans h.os, k.tape.trans h.tape, k.output.trans h.output, Nat.le_trans h.size k.size, fun i hi => (k.block i hi).trans (h.block i hi)⟩
theorem Kept.mono {pr qr : Nat → Prop} {a b : World} (h : Kept pr a b) (hs : ∀ k, qr k → pr k) : Kept qr a b :=
  ⟨h.os, h.tape, h.output, h.size, fun i hi => h.block i (hs i hi)⟩
theorem Kept.below {pr : Nat → Prop} {a b : World} {B : Nat} (h : Kept pr a b) (hs : ∀ k, k < B → pr k) : Below B a b :=
  ⟨h.os, h.tape, h.output, h.size, fun i hi => h.block i (hs i hi)⟩
theorem Kept.of {pr : Nat → Prop} {a b : World} {B : Nat} (h : Below B a b) (hs : ∀ k, pr k → k < B) : Kept pr a b :=
  ⟨h.os, h.tape, h.output, h.size, fun i hi => h.block i (hs i hi)⟩
theorem Kept.grown {pr : Nat → Prop} {a b : World} {row : Option Nat} (h : a.grownBy b row) (hs : ∀ k, pr k → k < a.heap.size) (hr : ∀ k, row = some k → ¬ pr k) : Kept pr a b :=
  ⟨h.os, h.tape, h.output, h.size, fun i hi => h.block i (hs i hi) (fun e => hr i e.symm hi)⟩
/-- A fact that hangs on protected blocks alone. -/
def Held (pr : Nat → Prop) (w : World) (X : World → Prop) : Prop := ∀ w', Kept pr w w' → X w'
theorem Held.now {pr : Nat → Prop} {w : World} {X : World → Prop} (h : Held pr w X) : X w := h w (Kept.refl _ _)
theorem Held.imp {pr : Nat → Prop} {w : World} {X Y : World → Prop} (h : Held pr w X) (hi : ∀ W, X W → Y W) : Held pr w Y := fun W hW => hi W (h W hW)
structure Step (pr : Nat → Prop) (w : World) (pr' : Nat → Prop) (w' : World) : Prop where
  kept : Kept pr w w'
  more : ∀ k, pr k → pr' k
theorem Held.step {pr pr' : Nat → Prop} {w w' : World} {X : World → Prop} (h : Held pr w X) (s : Step pr w pr' w') : Held pr' w' X :=
  fun w2 k => h w2 (s.kept.trans (k.mono s.more))
theorem Step.refl (pr : Nat → Prop) (w : World) : Step pr w pr w := ⟨Kept.refl _ _, fun _ h => h⟩
theorem Step.trans {p q r : Nat → Prop} {a b c : World} (h : Step p a q b) (k : Step q b r c) : Step p a r c := ⟨h.kept.trans (k.kept.mono h.more), fun i hi => k.more i (h.more i hi)⟩
theorem Step.of {pr : Nat → Prop} {w w' : World} (h : Kept pr w w') : Step pr w pr w' := ⟨h, fun _ h => h⟩
def grow (pr : Nat → Prop) (w w' : World) : Nat → Prop := fun k => pr k ∨ (w.heap.size ≤ k ∧ k < w'.heap.size)
theorem OwnE.same {α : Type} {enc : α → Value} {w w' : World} {base e : Nat} {v : Value} {xs : List α} (h : OwnE enc w base e v xs) (hs : ∀ g cur fr, w.heap[g]? = some (.cells cur e fr) → v.ownBlock = some g → w'.heap[g]? = w.heap[g]?) : OwnE enc w' base e v xs := by
  obtain ⟨h1, h2⟩ := h
  rcases h2 with h2 | ⟨g, cap, cur, hv, hg, hh, hc, hm, hs', ht⟩
  · exact ⟨h1, .inl h2⟩
  · exact ⟨h1, .inr ⟨g, cap, cur, hv, hg, (hs g cur _ hh (by rw [hv]; rfl)).trans hh, hc, hm, hs', ht⟩⟩
theorem Step.grow {w w' : World} {pr : Nat → Prop} (hp : ∀ k, pr k → k < w.heap.size) (hB : Below w.heap.size w w') : Step pr w (Go.Proofs.Ytinagiofolmhbaa.grow pr w w') w' := ⟨Kept.of hB hp, fun _ h => .inl h⟩
theorem Held.below {w0 w : World} {pr : Nat → Prop} (hB : Below w0.heap.size w0 w) (hp : ∀ k, k < w0.heap.size → pr k) : Held pr w (fun W => Below w0.heap.size w0 W) := fun W hW => hB.trans (hW.below hp)
theorem lt_heap {w : World} {b : Nat} {o : Obj} (h : w.heap[b]? = some o) : b < w.heap.size := (Array.getElem?_eq_some_iff.1 h).1

/-- A handle as a value, and how it lies. -/
def hV (x : Hn) : Value := .agg #[.int .i64 x.ser, .int .i64 x.par, .int .i64 x.port, .int .i64 x.hol, h8 x.rts]
def hL : Lays Hn := ⟨5, fun x => [.int .i64 x.ser, .int .i64 x.par, .int .i64 x.port, .int .i64 x.hol, h8 x.rts], fun _ => rfl, by
  intro x u hu
  simp at hu
  rcases hu with rfl | rfl | rfl | rfl | rfl <;> rfl⟩
def kI (x : Int) : Value := .int .i64 x
theorem kI_inj (x y : Int) (h : kI x = kI y) : x = y := by unfold kI at h; simpa using h
theorem keyed3 : Go.Maps.Keyed Try.prog 3 := Go.Maps.int_keyed Try.underlying3
theorem key3 {x : Int} (h : -9223372036854775808 ≤ x ∧ x ≤ 9223372036854775807) : ∃ l, keyOf Try.prog 3 (kI x) = some l := ⟨_, Go.Maps.keyOf_int_mk Try.underlying3 (WalkArith.wf_i64 (by omega))⟩

/-- Where the table's parts lie. -/
structure Lay where
  cs : Array Value
  mb : Nat
  pa : Nat → Option Addr
  pc : Nat → Nat
structure TabL (y : Lay) (w : World) (pr : Nat → Prop) (M : Nat) (st : St) : Prop where
  ok : Ok st
  prs : ∀ k, pr k → k < w.heap.size
  bM : w.heap[M]? = some (.cells y.cs 69 (0, 0))
  csz : y.cs.size = 20
  c0 : y.cs[0]? = some (.bool true)
  c1 : y.cs[1]? = some (.int .i64 st.next)
  c2 : y.cs[2]? = some (.map (some y.mb))
  cr : ∀ i, i < 17 → y.cs[3 + i]? = some (.slice (y.pa i) (placesS st i).length (y.pc i))
  pM : ¬ pr M
  pB : ¬ pr y.mb
  map : ∃ L, MapL Try.prog 3 kI hV w y.mb L ∧ ∀ s, lk L s = getL (liveS st) s
  rows : ∀ i, i < 17 → AppI w 0 (.slice (y.pa i) (placesS st i).length (y.pc i)) (placesS st i)
  rowP : ∀ i, i < 17 → ∀ d, y.pa i = some d → ¬ pr d.block
  apart : ∀ i j d e, i < 17 → j < 17 → y.pa i = some d → y.pa j = some e → d.block = e.block → i = j
def TabAt (w : World) (pr : Nat → Prop) (M : Nat) (st : St) : Prop := ∃ y, TabL y w pr M st
/-- The blocks of a table. -/
def Foot (y : Lay) (M k : Nat) : Prop := k = M ∨ k = y.mb ∨ ∃ i, i < 17 ∧ ∃ d, y.pa i = some d ∧ d.block = k
section
variable {y : Lay} {w w' : World} {pr pr' : Nat → Prop} {M : Nat} {st : St}
theorem TabL.foot (h : TabL y w pr M st) : ∀ k, Foot y M k → ¬ pr k ∧ k < w.heap.size := by
  rintro k (rfl | rfl | ⟨i, hi, d, hd, rfl⟩)
  · exact ⟨h.pM, lt_heap h.bM⟩
  · obtain ⟨L, hL, _⟩ := h.map
    exact ⟨h.pB, hL.lt⟩
  · refine ⟨h.rowP i hi d hd, ?_⟩
    have := h.rows i hi
    exact (World.ownsRow.lt this d.block (by rw [hd]; rfl)).2
/-- A table stands where its blocks stand. -/
theorem TabL.frame (h : TabL y w pr M st) (hk : ∀ k, Foot y M k → w'.heap[k]? = w.heap[k]?) (hp : ∀ k, pr' k → k < w'.heap.size) (hf : ∀ k, Foot y M k → ¬ pr' k) : TabL y w' pr' M st := by
  refine ⟨h.ok, hp, (hk M (.inl rfl)).trans h.bM, h.csz, h.c0, h.c1, h.c2, h.cr, hf M (.inl rfl), hf y.mb (.inr (.inl rfl)), ?_, ?_, fun i hi d hd => hf _ (.inr (.inr ⟨i, hi, d, hd, rfl⟩)), h.apart⟩
  · obtain ⟨L, h1, h2⟩ := h.map
    exact ⟨L, h1.same (hk _ (.inr (.inl rfl))), h2⟩
  · intro i hi
    refine OwnE.same (h.rows i hi) fun g cur fr hg hv => hk g (.inr (.inr ⟨i, hi, ?_⟩))
    cases hc : y.pa i with
    | none => rw [hc] at hv; cases hv
    | some d => rw [hc] at hv; simp [Value.ownBlock] at hv; exact ⟨d, rfl, hv⟩
theorem TabL.below (h : TabL y w pr M st) (hB : Below w.heap.size w w') : TabL y w' pr M st :=
  h.frame (fun k hk => hB.block k (h.foot k hk).2) (fun k hk => Nat.lt_of_lt_of_le (h.prs k hk) hB.size) (fun k hk => (h.foot k hk).1)
theorem TabL.protect (h : TabL y w pr M st) (hB : Below w.heap.size w w') : TabL y w' (grow pr w w') M st := by
  refine h.frame (fun k hk => hB.block k (h.foot k hk).2) ?_ ?_
  · rintro k (hk | ⟨_, hk⟩)
    · exact Nat.lt_of_lt_of_le (h.prs k hk) hB.size
    · exact hk
  · rintro k hk (hp | ⟨hp, _⟩)
    · exact (h.foot k hk).1 hp
    · have := (h.foot k hk).2; omega
theorem TabL.less (h : TabL y w pr M st) (hq : ∀ k, pr' k → pr k) : TabL y w pr' M st :=
  h.frame (fun _ _ => rfl) (fun k hk => h.prs k (hq k hk)) (fun k hk hp => (h.foot k hk).1 (hq k hp))
theorem TabL.kept (h : TabL y w pr M st) (hB : Below w.heap.size w w') : Kept pr w w' := Kept.of hB h.prs
theorem TabL.cell (h : TabL y w pr M st) (i : Nat) : w.cell? ⟨M, i, none⟩ = y.cs[i]? := cells_cell h.bM i
theorem TabL.t0 (h : TabL y w pr M st) : w.cell? ⟨M, 0, none⟩ = some (.bool true) := (h.cell 0).trans h.c0
theorem TabL.t1 (h : TabL y w pr M st) : w.cell? ⟨M, 1, none⟩ = some (.int .i64 st.next) := (h.cell 1).trans h.c1
theorem TabL.t2 (h : TabL y w pr M st) : w.cell? ⟨M, 2, none⟩ = some (.map (some y.mb)) := (h.cell 2).trans h.c2
theorem TabL.tr (h : TabL y w pr M st) (i : Nat) (hi : i < 17) : w.cell? ⟨M, 3 + i, none⟩ = some (.slice (y.pa i) (placesS st i).length (y.pc i)) := (h.cell (3 + i)).trans (h.cr i hi)
theorem TabL.mlen (h : TabL y w pr M st) : ∃ L, MapL Try.prog 3 kI hV w y.mb L ∧ (∀ s, lk L s = getL (liveS st) s) ∧ L.length = (liveS st).length ∧ (∀ p ∈ L, p.1 = p.2.ser ∧ p.2 ∈ liveS st) ∧ ∀ x ∈ liveS st, (x.ser, x) ∈ L := by
  obtain ⟨L, h1, h2⟩ := h.map
  have hn := h1.nodup
  have hm : ∀ p ∈ L, p.1 = p.2.ser ∧ p.2 ∈ liveS st := by
    intro p hp
    have h3 := (lk_some hn).2 hp
    rw [h2] at h3
    obtain ⟨h4, h5⟩ := getL_some h3
    exact ⟨h5.symm, h4⟩
  have hm2 : ∀ x ∈ liveS st, (x.ser, x) ∈ L := by
    intro x hx
    refine (lk_some hn).1 ?_
    rw [h2]
    exact getL_mem (live_inc h.ok) hx
  refine ⟨L, h1, h2, ?_, hm, hm2⟩
  have hk : (L.map Prod.fst).Perm ((liveS st).map (·.ser)) := by
    refine perm_mem hn ?_ ?_
    · exact inc_nodup (List.pairwise_map.2 (live_inc h.ok))
    · intro x
      simp only [List.mem_map]
      constructor
      · rintro ⟨p, hp, rfl⟩
        exact ⟨p.2, (hm p hp).2, (hm p hp).1.symm⟩
      · rintro ⟨z, hz, rfl⟩
        exact ⟨(z.ser, z), hm2 z hz, rfl⟩
  have := hk.length_eq
  simpa using this
end
theorem TabAt.prs {w : World} {pr : Nat → Prop} {M : Nat} {st : St} (h : TabAt w pr M st) : ∀ k, pr k → k < w.heap.size := by
  obtain ⟨y, h⟩ := h; exact h.prs
theorem TabAt.ok {w : World} {pr : Nat → Prop} {M : Nat} {st : St} (h : TabAt w pr M st) : Ok st := by
  obtain ⟨y, h⟩ := h; exact h.ok
theorem TabAt.below {w w' : World} {pr : Nat → Prop} {M : Nat} {st : St} (h : TabAt w pr M st) (hB : Below w.heap.size w w') : TabAt w' pr M st ∧ Step pr w pr w' := by
  obtain ⟨y, h⟩ := h; exact ⟨⟨y, h.below hB⟩, .of (h.kept hB)⟩
theorem TabAt.protect {w w' : World} {pr : Nat → Prop} {M : Nat} {st : St} (h : TabAt w pr M st) (hB : Below w.heap.size w w') : TabAt w' (grow pr w w') M st ∧ Step pr w (grow pr w w') w' := by
  obtain ⟨y, h⟩ := h; exact ⟨⟨y, h.protect hB⟩, Step.grow h.prs hB⟩
theorem TabAt.less {w : World} {pr qr : Nat → Prop} {M : Nat} {st : St} (h : TabAt w pr M st) (hq : ∀ k, qr k → pr k) : TabAt w qr M st := by
  obtain ⟨y, h⟩ := h; exact ⟨y, h.less hq⟩

/-! ### What is read -/
theorem is_at {M : Nat} {w : World} (h0 : w.cell? ⟨M, 0, none⟩ = some (.bool true)) : Calls Try.prog 37 #[.pointer (some ⟨M, 0, none⟩)] w fun e w' => e = .returned (.bool true) ∧ w = w' := by
  go_enter Try.func37, Try.ntmps37
  go_wp2_with fail
  refine bodyPost_ret (results_tmp Try.results37 _ _ _) rfl ?_
  exact ⟨rfl, rfl⟩
section
variable {y : Lay} {w : World} {pr : Nat → Prop} {M : Nat} {st : St}
theorem next_any (h : TabL y w pr M st) : Calls Try.prog 20 #[.pointer (some ⟨M, 0, none⟩)] w fun e w' => e = .returned (.int .i64 st.next) ∧ w = w' := by
  have H := Hd.mk (is_at h.t0)
  have c1 := h.t1
  clear h
  go_enter Try.func20, Try.ntmps20
  go_wp2_with fail
  refine H.out.mono ?_
  rintro e w1 ⟨rfl, rfl⟩
  go_wp2_with fail
  refine bodyPost_ret (results_tmp Try.results20 _ _ _) rfl ?_
  exact ⟨rfl, rfl⟩
theorem len_any (h : TabL y w pr M st) : Calls Try.prog 24 #[.pointer (some ⟨M, 0, none⟩)] w fun e w' => e = .returned (.int .i64 (liveS st).length) ∧ w = w' := by
  have H := Hd.mk (is_at h.t0)
  have c2 := h.t2
  obtain ⟨L, h1, _, h3, _⟩ := h.mlen
  have hlen := fun ty => h1.len (ty := ty) Try.underlying66
  rw [h3] at hlen
  clear h h1 h3
  go_enter Try.func24, Try.ntmps24
  go_wp2_with fail
  refine H.out.mono ?_
  rintro e w1 ⟨rfl, rfl⟩
  go_wp2_with fail
  refine bodyPost_ret (results_tmp Try.results24 _ _ _) rfl ?_
  exact ⟨rfl, rfl⟩
end
end Go.Proofs.Ytinagiofolmhbaa
