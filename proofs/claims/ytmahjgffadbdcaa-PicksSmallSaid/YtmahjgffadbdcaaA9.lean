/- Plain laws of Order's loop; marks of loops over functions. -/
import Derived.Test.YtmahjgffadbdcaaA8
namespace Go.Proofs.Ytmahjgffadbdcaa
open Go.RowKit Go.Shelf
set_option linter.unusedVariables false

def oE (l ps : List Int) : Int := if rightB l then (if 65536 < ps.length then 5 else 0) else 2
def oO (l ps : List Int) : List Int × Nat × Nat := if rightB l && !decide (65536 < ps.length) then ordV l.length l ps else ([], 0, 0)

theorem ord_go {N n t u : Nat} {l ps S out : List Int} (e : ordV N l ps = (out ++ (ordV (n + 1) S (ps.drop t)).1, t + (ordV (n + 1) S (ps.drop t)).2.1, u + (ordV (n + 1) S (ps.drop t)).2.2))
    {i tk wr : Nat} (hp : pickI S (ps.drop t) = (i, tk, wr)) {x : Int} (hx : S.getD i 0 = x) :
    ordV N l ps = ((out ++ [x]) ++ (ordV n (S.eraseIdx i) (ps.drop (t + tk))).1, (t + tk) + (ordV n (S.eraseIdx i) (ps.drop (t + tk))).2.1, (u + wr) + (ordV n (S.eraseIdx i) (ps.drop (t + tk))).2.2) := by
  rw [e, ord_succ, hp]
  simp only [List.drop_drop, hx, List.append_assoc, List.singleton_append, Nat.add_assoc]
theorem pick_few {S ps : List Int} (h : S.length ≤ 1) : pickI S ps = (0, 0, 0) := by unfold pickI; rw [if_neg (by omega)]
theorem pick_none {S ps : List Int} {t : Nat} (h : ps.length ≤ t) : pickI S (ps.drop t) = (0, 0, 0) := by
  rw [List.drop_eq_nil_of_le h]; unfold pickI; split <;> rfl
theorem pick_in {S ps : List Int} {t : Nat} (h1 : 1 < S.length) (ht : t < ps.length) (hi : ps[t] ∈ S) : pickI S (ps.drop t) = (S.idxOf ps[t], 1, 0) := by
  rw [List.drop_eq_getElem_cons ht]; unfold pickI; rw [if_pos h1]; simp only [if_pos hi]
theorem pick_out {S ps : List Int} {t : Nat} (h1 : 1 < S.length) (ht : t < ps.length) (hi : ps[t] ∉ S) : pickI S (ps.drop t) = (0, 1, 1) := by
  rw [List.drop_eq_getElem_cons ht]; unfold pickI; rw [if_pos h1]; simp only [if_neg hi]
theorem head_get (S : List Int) : S.getD 0 0 = S.headD 0 := by cases S <;> rfl
theorem idx_get {S : List Int} {p : Int} (h : p ∈ S) : S.getD (S.idxOf p) 0 = p := by
  have hl : S.idxOf p < S.length := List.idxOf_lt_length_of_mem h
  rw [List.getD_eq_getElem?_getD, List.getElem?_eq_getElem hl, Option.getD_some, List.getElem_idxOf hl]

/-- Marks that are laid. -/
def mark (r : Nat) : Deferred := { target := .collected r, args := #[] }
def KeepD (W W' : World) : Prop := ∀ (r : Nat), W.heap[r]? = some (.deferred (some [])) → W'.heap[r]? = some (.deferred (some []))
theorem KeepD.trans {A B C : World} (h : KeepD A B) (k : KeepD B C) : KeepD A C := fun r hr => k r (h r hr)
theorem KeepD.refl (A : World) : KeepD A A := fun _ h => h
theorem KeepD.below {A B : World} (h : Below A.heap.size A B) : KeepD A B := fun r hr => (h.block r (cells_lt hr)).trans hr
theorem KeepD.alloc (A : World) (o : Obj) : KeepD A (A.alloc o) := fun r hr => (Below.heap_alloc _ _ _ (cells_lt hr)).trans hr
theorem KeepD.setCell {A : World} {g o : Nat} {c : Array Value} {t : TypeId} {f : Nat × Nat} (h : A.heap[g]? = some (.cells c t f)) (v : Value) : KeepD A (A.setCell ⟨g, o, none⟩ v) := fun r hr =>
  (Below.heap_setCell _ _ _ _ (by rintro rfl; rw [h] at hr; cases hr)).trans hr
theorem KeepD.putObj {A : World} {g : Nat} {r0 : Loop} {o : Obj} (h : A.heap[g]? = some (.loop r0)) : KeepD A (A.putObj g o) := fun r hr =>
  (World.putObj_heap_other (by rintro rfl; rw [h] at hr; cases hr)).trans hr

structure Mks (base : Nat) (ds : List Deferred) (W : World) : Prop where
  ex : ∃ rs : List Nat, ds = rs.map mark ∧ rs.Nodup ∧ ∀ r ∈ rs, base ≤ r ∧ W.heap[r]? = some (.deferred (some []))
theorem Mks.nil (base : Nat) (W : World) : Mks base [] W := ⟨[], rfl, by simp, by simp⟩
theorem Mks.keep {base : Nat} {ds : List Deferred} {W W' : World} (h : Mks base ds W) (k : KeepD W W') : Mks base ds W' := by
  obtain ⟨rs, h1, h2, h3⟩ := h.ex
  exact ⟨rs, h1, h2, fun r hr => ⟨(h3 r hr).1, k r (h3 r hr).2⟩⟩
/-- A new mark, of a block that was not there. -/
theorem Mks.cons {base : Nat} {ds : List Deferred} {W W' : World} (h : Mks base ds W) (k : KeepD W W') {D : Nat} (hD : W.heap.size ≤ D) (hb : base ≤ D) (hn : W'.heap[D]? = some (.deferred (some []))) :
    Mks base (mark D :: ds) W' := by
  obtain ⟨rs, h1, h2, h3⟩ := h.ex
  refine ⟨D :: rs, by rw [h1]; rfl, List.nodup_cons.2 ⟨fun hm => ?_, h2⟩, fun r hr => ?_⟩
  · have := cells_lt (h3 D hm).2; omega
  · rcases List.mem_cons.1 hr with rfl | hr
    · exact ⟨hb, hn⟩
    · exact ⟨(h3 r hr).1, k r (h3 r hr).2⟩

theorem leaves_marks {fn : Func} {tmps : Array Value} {R : Ending → World → Prop} {base : Nat} : ∀ (rs : List Nat) (W : World), rs.Nodup → (∀ r ∈ rs, base ≤ r ∧ W.heap[r]? = some (.deferred (some []))) →
    (∀ W', (∀ g, g ∉ rs → W'.heap[g]? = W.heap[g]?) → Below base W W' → LeavesInM Fence.wide 0 Try.prog fn tmps R [] .returning W') → LeavesInM Fence.wide 0 Try.prog fn tmps R (rs.map mark) .returning W
  | [], W, _, _, h => h W (fun _ _ => rfl) (Below.refl _ _)
  | r :: rs, W, hn, hd, h => by
    obtain ⟨hn1, hn2⟩ := List.nodup_cons.1 hn
    have hr := hd r (by simp)
    refine ⟨by simp, .inl ⟨_, _, rfl, run_takeDeferred hr.2, ?_⟩⟩
    refine leaves_marks (base := base) rs _ hn2 (fun x hx => ?_) (fun W' h1 h2 => ?_)
    · have := hd x (by simp [hx])
      exact ⟨this.1, (World.putObj_heap_other (by rintro rfl; exact hn1 hx)).trans this.2⟩
    · refine h W' (fun g hg => ?_) ?_
      · rw [List.mem_cons, not_or] at hg
        exact (h1 g hg.2).trans (World.putObj_heap_other hg.1)
      · exact (putObj_below (Below.refl _ _) hr.1).trans h2
theorem Mks.leaves {base : Nat} {ds : List Deferred} {W : World} (h : Mks base ds W) {fn : Func} {tmps : Array Value} {R : Ending → World → Prop}
    (hR : ∀ W', (∀ (g : Nat) c t f, W.heap[g]? = some (.cells c t f) → W'.heap[g]? = some (.cells c t f)) → Below base W W' → LeavesInM Fence.wide 0 Try.prog fn tmps R [] .returning W') : LeavesInM Fence.wide 0 Try.prog fn tmps R ds .returning W := by
  obtain ⟨rs, rfl, h2, h3⟩ := h.ex
  refine leaves_marks rs W h2 h3 fun W' k1 k2 => hR W' (fun g c t f hg => (k1 g fun hm => ?_).trans hg) k2
  rw [(h3 g hm).2] at hg; cases hg
end Go.Proofs.Ytmahjgffadbdcaa
