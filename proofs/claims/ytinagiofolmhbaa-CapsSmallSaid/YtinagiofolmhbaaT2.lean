/- What stands at a round of acts: the table, the reference, the copy. -/
import Derived.Test.YtinagiofolmhbaaT1
import Derived.Test.YtinagiofolmhbaaC6
import Derived.Test.YtinagiofolmhbaaRowS
import Derived.Test.YtinagiofolmhbaaPL2
namespace Go.Proofs.Ytinagiofolmhbaa
open Go.RowKit
set_option linter.unusedVariables false
set_option linter.unusedSimpArgs false


structure Ac where
  kd : BitVec 8
  ser : Int
  port : Int
  hol : Int
  rts : BitVec 8
def aL : Lays Ac := ⟨5, fun x => [h8 x.kd, .int .i64 x.ser, .int .i64 x.port, .int .i64 x.hol, h8 x.rts], fun _ => rfl, by
  intro x u hu
  simp at hu
  rcases hu with rfl | rfl | rfl | rfl | rfl <;> rfl⟩
def withR (pr : Nat → Prop) (R : Nat) : Nat → Prop := fun k => pr k ∨ k = R
structure Sys (w : World) (pr : Nat → Prop) (R M : Nat) (st : St) (nx : Int) (v : Value) : Prop where
  mem : TabAt w (withR pr R) M st
  box : w.heap[R]? = some (.cells #[.int .i64 nx, v] 88 (0, 0))
  nr : ¬ pr R
section
variable {w w' : World} {pr pr' : Nat → Prop} {R M : Nat} {st st' : St} {nx nx' : Int} {v v' : Value}
theorem Sys.prs (h : Sys w pr R M st nx v) : ∀ k, pr k → k < w.heap.size := fun k hk => h.mem.prs k (.inl hk)
theorem Sys.below (h : Sys w pr R M st nx v) (hB : Below w.heap.size w w') : Sys w' (grow pr w w') R M st nx v ∧ Step pr w (grow pr w w') w' := by
  have hR := lt_heap h.box
  refine ⟨⟨(h.mem.protect hB).1.less ?_, (hB.block R hR).trans h.box, ?_⟩, Step.grow h.prs hB⟩
  · rintro k ((hk | hk) | hk)
    · exact .inl (.inl hk)
    · exact .inr hk
    · exact .inl (.inr hk)
  · rintro (hk | ⟨hk, _⟩)
    · exact h.nr hk
    · omega
theorem Sys.mut (h : Sys w pr R M st nx v) (hm : TabAt w' (withR pr R) M st') (hs : Step (withR pr R) w (withR pr R) w') : Sys w' pr R M st' nx v ∧ Step pr w pr w' :=
  ⟨⟨hm, (hs.kept.block R (.inr rfl)).trans h.box, h.nr⟩, ⟨hs.kept.mono fun k hk => .inl hk, fun _ h => h⟩⟩
theorem Sys.mutp (h : Sys w pr R M st nx v) (hm : TabAt w' pr' M st') (hs : Step (withR pr R) w pr' w') : Sys w' (fun k => pr' k ∧ k ≠ R) R M st' nx v ∧ Step pr w (fun k => pr' k ∧ k ≠ R) w' := by
  refine ⟨⟨hm.less ?_, (hs.kept.block R (.inr rfl)).trans h.box, fun h => h.2 rfl⟩, ⟨hs.kept.mono fun k hk => .inl hk, fun k hk => ⟨hs.more k (.inl hk), fun e => h.nr (by rw [← e]; exact hk)⟩⟩⟩
  rintro k (hk | rfl)
  · exact hk.1
  · exact hs.more _ (.inr rfl)
def putR (w : World) (R : Nat) (nx : Int) (v : Value) : World := (w.setCell ⟨R, 0, none⟩ (.int .i64 nx)).setCell ⟨R, 1, none⟩ v
theorem putR_other {k : Nat} (hk : k ≠ R) : (putR w R nx v).heap[k]? = w.heap[k]? := other2 hk _ _
theorem putR_size : (putR w R nx v).heap.size = w.heap.size := by simp [putR, World.setCell]
theorem Sys.put (h : Sys w pr R M st nx v) (nx' : Int) (v' : Value) : Sys (putR w R nx' v') pr R M st nx' v' ∧ Step pr w pr (putR w R nx' v') := by
  have hpr := h.mem.prs
  obtain ⟨y, hy⟩ := h.mem
  refine ⟨⟨⟨y, hy.frame (fun k hk => putR_other fun e => (hy.foot k hk).1 (.inr e)) (fun k hk => by rw [putR_size]; exact hpr k hk) (fun k hk => (hy.foot k hk).1)⟩, set2 h.box _ _, h.nr⟩, ⟨⟨rfl, rfl, rfl, Nat.le_of_eq putR_size.symm, fun k hk => putR_other (fun e => h.nr (by rw [← e]; exact hk))⟩, fun _ h => h⟩⟩
end
/-- What stands at a round's head. -/
structure ActQ (w0 W : World) (lv : Value) (ls : List Ac) (pr : Nat → Prop) (R M : Nat) (sm sr : St) (nx : Int) (v : Value) : Prop where
  sys : Sys W pr R M sm nx v
  ref : Held pr W (fun W => RefT W v sr)
  nxt : sr.next = nx
  src : Held pr W (fun W => SrcN aL W lv ls)
  bel : Held pr W (fun W => Below w0.heap.size w0 W)
section
variable {w0 W W' : World} {lv : Value} {ls : List Ac} {pr pr' : Nat → Prop} {R M : Nat} {sm sr sm' sr' : St} {nx : Int} {v v' : Value}
theorem ActQ.below (h : ActQ w0 W lv ls pr R M sm sr nx v) (hB : Below W.heap.size W W') : ActQ w0 W' lv ls (grow pr W W') R M sm sr nx v ∧ Step pr W (grow pr W W') W' := by
  obtain ⟨h1, h2⟩ := h.sys.below hB
  exact ⟨⟨h1, h.ref.step h2, h.nxt, h.src.step h2, h.bel.step h2⟩, h2⟩
theorem ActQ.mut (h : ActQ w0 W lv ls pr R M sm sr nx v) (hm : TabAt W' (withR pr R) M sm') (hs : Step (withR pr R) W (withR pr R) W') : ActQ w0 W' lv ls pr R M sm' sr nx v ∧ Step pr W pr W' := by
  obtain ⟨h1, h2⟩ := h.sys.mut hm hs
  exact ⟨⟨h1, h.ref.step h2, h.nxt, h.src.step h2, h.bel.step h2⟩, h2⟩
theorem ActQ.mutp (h : ActQ w0 W lv ls pr R M sm sr nx v) (hm : TabAt W' pr' M sm') (hs : Step (withR pr R) W pr' W') : ActQ w0 W' lv ls (fun k => pr' k ∧ k ≠ R) R M sm' sr nx v ∧ Step pr W (fun k => pr' k ∧ k ≠ R) W' := by
  obtain ⟨h1, h2⟩ := h.sys.mutp hm hs
  exact ⟨⟨h1, h.ref.step h2, h.nxt, h.src.step h2, h.bel.step h2⟩, h2⟩
theorem held_ref {W W' : World} {pr : Nat → Prop} {v : Value} {st : St} (h : RefK W.heap.size W' v st) {W2 : World} (hk : ∀ k, W.heap.size ≤ k → k < W'.heap.size → W2.heap[k]? = W'.heap[k]?) : Held (grow pr W W') W2 (fun W => RefT W v st) :=
  fun W3 hW => h W3 fun k h1 h2 => (hW.block k (.inr ⟨h1, h2⟩)).trans (hk k h1 h2)
theorem ActQ.put (h : ActQ w0 W lv ls pr R M sm sr nx v) (hB : Below W.heap.size W W') (hp : RefP W.heap.size v sr W' v' sr') {nx' : Int} (hn : sr'.next = nx') :
    ActQ w0 (putR W' R nx' v') lv ls (grow pr W W') R M sm sr' nx' v' ∧ Step pr W (grow pr W W') (putR W' R nx' v') := by
  obtain ⟨h1, h2⟩ := h.below hB
  obtain ⟨h3, h4⟩ := h1.sys.put nx' v'
  refine ⟨⟨h3, ?_, hn, h1.src.step h4, h1.bel.step h4⟩, h2.trans h4⟩
  rcases hp with ⟨rfl, rfl⟩ | hk
  · exact h1.ref.step h4
  · refine held_ref hk fun k hk1 _ => putR_other ?_
    have := lt_heap h.sys.box
    omega
theorem ActQ.b0 (h : ActQ w0 W lv ls pr R M sm sr nx v) : W.cell? ⟨R, 0, none⟩ = some (.int .i64 nx) := by rw [cells_cell h.sys.box]; rfl
theorem ActQ.b1 (h : ActQ w0 W lv ls pr R M sm sr nx v) : W.cell? ⟨R, 1, none⟩ = some v := by rw [cells_cell h.sys.box]; rfl
theorem ActQ.f (h : ActQ w0 W lv ls pr R M sm sr nx v) (k : Nat) : W.frozen? ⟨R, k, none⟩ = false := cells_free h.sys.box k
theorem ActQ.no (h : ActQ w0 W lv ls pr R M sm sr nx v) : TabAt W (fun _ => False) M sm := h.sys.mem.less (fun k hk => hk.elim)
end
/-- What stands beside: the act in its box, the copy, what was. -/
structure Bes (pr : Nat → Prop) (W : World) (B1 : Nat) (x : Ac) (M2 : Nat) (st : St) (B2 : Nat) (nx : Int) (v : Value) : Prop where
  act : Held pr W (fun W => W.heap[B1]? = some (.cells #[h8 x.kd, .int .i64 x.ser, .int .i64 x.port, .int .i64 x.hol, h8 x.rts] 65 (0, 0)))
  cop : Held pr W (fun W => TabAt W (fun _ => False) M2 st)
  was : Held pr W (fun W => W.heap[B2]? = some (.cells #[.int .i64 nx, v] 88 (0, 0)))
  ref : Held pr W (fun W => RefT W v st)
theorem Bes.step {pr pr' : Nat → Prop} {W W' : World} {B1 M2 B2 : Nat} {x : Ac} {st : St} {nx : Int} {v : Value} (h : Bes pr W B1 x M2 st B2 nx v) (s : Step pr W pr' W') : Bes pr' W' B1 x M2 st B2 nx v :=
  ⟨h.act.step s, h.cop.step s, h.was.step s, h.ref.step s⟩
theorem held_copy {pr : Nat → Prop} {w w' : World} {M2 : Nat} {st : St} (h : TabAt w' (fun k => k < w.heap.size) M2 st) : Held (grow pr w w') w' (fun W => TabAt W (fun _ => False) M2 st) := by
  obtain ⟨y, h⟩ := h
  intro W hW
  refine ⟨y, h.frame (fun k hk => hW.block k (.inr ⟨Nat.le_of_not_lt (h.foot k hk).1, (h.foot k hk).2⟩)) (fun k hk => hk.elim) (fun k hk hp => hp)⟩
theorem held_blk {pr : Nat → Prop} {W W' : World} {b : Nat} {o : Obj} (h : W'.heap[b]? = some o) (hb : W.heap.size ≤ b) : Held (grow pr W W') W' (fun X => X.heap[b]? = some o) := fun X hX =>
  (hX.block b (.inr ⟨hb, lt_heap h⟩)).trans h
/-- An act laid in a box, at a round's start. -/
theorem ActQ.box {w0 W : World} {lv : Value} {ls : List Ac} {pr : Nat → Prop} {R M : Nat} {st : St} {nx : Int} {v : Value} (h : ActQ w0 W lv ls pr R M st st nx v) (o : Obj) :
    ActQ w0 (W.alloc o) lv ls (grow pr W (W.alloc o)) R M st st nx v ∧ Held (grow pr W (W.alloc o)) (W.alloc o) (fun X => X.heap[W.heap.size]? = some o) ∧ Step pr W (grow pr W (W.alloc o)) (W.alloc o) := by
  obtain ⟨h1, h2⟩ := h.below ((Below.refl W.heap.size W).alloc (Nat.le_refl _) o)
  exact ⟨h1, held_blk (heap_alloc_new _ _) (Nat.le_refl _), h2⟩
/-- The copy and what was, laid in either order. -/
theorem ActQ.pair {w0 W W2 : World} {lv : Value} {ls : List Ac} {pr : Nat → Prop} {R M M2 B1 B2 : Nat} {x : Ac} {st : St} {nx : Int} {v : Value} (h : ActQ w0 W lv ls pr R M st st nx v)
    (ha : Held pr W (fun X => X.heap[B1]? = some (.cells #[h8 x.kd, .int .i64 x.ser, .int .i64 x.port, .int .i64 x.hol, h8 x.rts] 65 (0, 0)))) (hB : Below W.heap.size W W2)
    (hc : Held (grow pr W W2) W2 (fun W => TabAt W (fun _ => False) M2 st)) (h2 : W2.heap[B2]? = some (.cells #[.int .i64 nx, v] 88 (0, 0))) (hb : W.heap.size ≤ B2) :
    ActQ w0 W2 lv ls (grow pr W W2) R M st st nx v ∧ Bes (grow pr W W2) W2 B1 x M2 st B2 nx v := by
  obtain ⟨h1, s1⟩ := h.below hB
  exact ⟨h1, ⟨ha.step s1, hc, held_blk h2 hb, h1.ref⟩⟩
theorem root_len (st : St) (p t : Int) (r : BitVec 8) : (rootS st p t r).made.length ≤ st.made.length + 1 := by
  unfold rootS
  split
  · have := (add_len st ⟨0, 0, p, t, r⟩).1; rw [this]; split <;> omega
  · omega
theorem der_len (st : St) (s t : Int) (r : BitVec 8) : (derS st s t r).made.length ≤ st.made.length + 1 := by
  unfold derS
  split
  · have := (add_len st ⟨0, s, (getV st s).port, t, r⟩).1; rw [this]; split <;> omega
  · omega
theorem take_len (st : St) (p : List Int) : (takeS st p).made.length = st.made.length := by unfold takeS; simp

end Go.Proofs.Ytinagiofolmhbaa
