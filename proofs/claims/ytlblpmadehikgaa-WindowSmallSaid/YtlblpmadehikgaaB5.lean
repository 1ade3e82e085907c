/- slices.AppendSeq and Collect over the windows: plain part of a round. -/
import Derived.Test.YtlblpmadehikgaaB4
namespace Go.Proofs.Ytlblpmadehikgaa
open Go.RowKit Go.Shelf
attribute [local go_sem] Oper.semAt_some
set_option linter.unusedVariables false

/-- What stands in a round of AppendSeq over the windows. -/
structure AppW (w : World) (r : Loop) (X : List (Int × Int)) (Nn k : Nat) (W : World) : Prop where
  out : ∃ v, W.heap[w.heap.size]? = some (.cells #[v] 35 (0, 0)) ∧ OwnC W Nn 28 v (X.take k)
  dfr : BlockIs W (w.heap.size + 1) (.deferred (some []))
  lp : W.heap[w.heap.size + 2]? = some (.loop r)
  bel : Below w.heap.size w W
  lo : w.heap.size + 3 ≤ Nn
  hi : Nn ≤ W.heap.size

theorem ownc_ne {W : World} {base e g : Nat} {v : Value} {l : List (Int × Int)} (h : OwnC W base e v l) (hg : g < base) : v.ownBlock = none ∨ v.ownBlock ≠ some g := by
  rcases ho : v.ownBlock with _ | k
  · exact .inl rfl
  · right
    have := (World.ownsRow.lt h k ho).1
    intro e; cases e; omega
theorem OwnC.lower {w : World} {base base' e : Nat} {v : Value} {l : List (Int × Int)} (h : OwnC w base e v l) (hb : base' ≤ base) : OwnC w base' e v l := by
  obtain ⟨h1, h2⟩ := h
  rcases h2 with h2 | ⟨g, cap, cur, hv, hg, h3⟩
  · exact ⟨h1, .inl h2⟩
  · exact ⟨h1, .inr ⟨g, cap, cur, hv, Nat.le_trans hb hg, h3⟩⟩
theorem OwnC.shape {w : World} {base e : Nat} {v : Value} {l : List (Int × Int)} (h : OwnC w base e v l) : ∃ a c, v = .slice a l.length c := h.src.shape

/-- append(v, x): x lies in a block of its own; what is written. -/
theorem push_c {W0 w : World} {base : Nat} {v : Value} {cs : List (Int × Int)} (p q : Int) (h : OwnC w base 28 v cs) (hB : Below base W0 w) (hb : base ≤ w.heap.size) (hl : cs.length ≤ 100000) :
    ∃ v' w', (Builtin.append_ #[35, 35] 35 #[v, .slice (some ⟨w.heap.size, 0, none⟩) 1 1]).run Try.prog (w.alloc (.cells #[.int .i64 p, .int .i64 q] 28)) = .ok v' w' ∧ OwnC w' base 28 v' (cs ++ [(p, q)]) ∧ Below base W0 w' ∧ (w.alloc (.cells #[.int .i64 p, .int .i64 q] 28)).grownBy w' v.ownBlock := by
  have hs : SrcC (w.alloc (.cells #[.int .i64 p, .int .i64 q] 28)) (.slice (some ⟨w.heap.size, 0, none⟩) 1 1) [(p, q)] :=
    .inr ⟨w.heap.size, 0, 1, rfl, by simp, by simp [maxLen], by simp, fun j hj => by
      obtain rfl : j = 0 := by simpa using hj
      exact ⟨cells_cell (World.alloc_heap_new w _) 0, cells_cell (World.alloc_heap_new w _) 1⟩⟩
  have ho := h.alloc (.cells #[.int .i64 p, .int .i64 q] 28)
  have hB1 := hB.alloc hb (.cells #[.int .i64 p, .int .i64 q] 28)
  obtain ⟨v', w', hr, ho', hg⟩ := append_c ho (by simp; omega) hs (by simp; omega)
  exact ⟨v', w', hr, ho', ho.grown hB1 (by simp; omega) hg, hg⟩

theorem busy_grown (W : World) (l : Nat) (o : Obj) : W.grownBy (W.putObj l o) (some l) := ⟨rfl, rfl, rfl, by simp, fun i hi hn => World.putObj_heap_other (fun e => hn (by rw [e]))⟩

theorem AppW.step {w : World} {r : Loop} {X : List (Int × Int)} {Nn k : Nat} {W : World} (h : AppW w r X Nn k W) (hk : k < X.length) (hl : X.length ≤ 100000) (p q : Int) (hxk : X[k] = (p, q)) :
    ∃ v v' w2, (W.alloc (.cells #[.int .i64 p, .int .i64 q] 28)).heap[w.heap.size + 2]? = some (.loop r) ∧
      (busyW (W.alloc (.cells #[.int .i64 p, .int .i64 q] 28)) (w.heap.size + 2) r).heap[w.heap.size]? = some (.cells #[v] 35 (0, 0)) ∧
      (busyW (W.alloc (.cells #[.int .i64 p, .int .i64 q] 28)) (w.heap.size + 2) r).heap[W.heap.size]? = some (.cells #[.int .i64 p, .int .i64 q] 28 (0, 0)) ∧
      (Builtin.append_ #[35, 35] 35 #[v, .slice (some ⟨(busyW (W.alloc (.cells #[.int .i64 p, .int .i64 q] 28)) (w.heap.size + 2) r).heap.size, 0, none⟩) 1 1]).run Try.prog ((busyW (W.alloc (.cells #[.int .i64 p, .int .i64 q] 28)) (w.heap.size + 2) r).alloc (.cells #[.int .i64 p, .int .i64 q] 28)) = .ok v' w2 ∧
      w2.cell? ⟨w.heap.size, 0, none⟩ = some v ∧ w2.frozen? ⟨w.heap.size, 0, none⟩ = false ∧
      (w2.setCell ⟨w.heap.size, 0, none⟩ v').heap[w.heap.size + 2]? = some (.loop { r with state := .busy }) ∧
      AppW w r X Nn (k + 1) (readyW (w2.setCell ⟨w.heap.size, 0, none⟩ v') (w.heap.size + 2) r) ∧
      (∀ x, w.heap.size + 3 ≤ x → x < Nn → (readyW (w2.setCell ⟨w.heap.size, 0, none⟩ v') (w.heap.size + 2) r).heap[x]? = W.heap[x]?) ∧ (∃ a' n' c', v' = .slice a' n' c') ∧ (∃ a' n' c', v = .slice a' n' c') := by
  obtain ⟨v, hv, ho⟩ := h.out
  have hlo := h.lo
  have hhi := h.hi
  have hal : ∀ x, x < W.heap.size → (W.alloc (.cells #[.int .i64 p, .int .i64 q] 28)).heap[x]? = W.heap[x]? := fun x hx => Below.heap_alloc _ _ _ hx
  have hsa : (W.alloc (.cells #[.int .i64 p, .int .i64 q] 28)).heap.size = W.heap.size + 1 := by simp
  have hnew : (W.alloc (.cells #[.int .i64 p, .int .i64 q] 28)).heap[W.heap.size]? = some (.cells #[.int .i64 p, .int .i64 q] 28 (0, 0)) := World.alloc_heap_new _ _
  have hoa : OwnC (W.alloc (.cells #[.int .i64 p, .int .i64 q] 28)) Nn 28 v (X.take k) := ho.alloc _
  have hba : Below w.heap.size w (W.alloc (.cells #[.int .i64 p, .int .i64 q] 28)) := h.bel.alloc (by omega) _
  generalize W.alloc (.cells #[.int .i64 p, .int .i64 q] 28) = Wa at *
  have hla : Wa.heap[w.heap.size + 2]? = some (.loop r) := (hal _ (by omega)).trans h.lp
  have hgb : Wa.grownBy (busyW Wa (w.heap.size + 2) r) (some (w.heap.size + 2)) := busy_grown _ _ _
  have hv1 : (busyW Wa (w.heap.size + 2) r).heap[w.heap.size]? = some (.cells #[v] 35 (0, 0)) := (World.putObj_heap_other (by omega)).trans ((hal _ (by omega)).trans hv)
  have hn1 : (busyW Wa (w.heap.size + 2) r).heap[W.heap.size]? = some (.cells #[.int .i64 p, .int .i64 q] 28 (0, 0)) := (World.putObj_heap_other (by omega)).trans hnew
  have ho1 : OwnC (busyW Wa (w.heap.size + 2) r) Nn 28 v (X.take k) := OwnC.kept hoa hgb (ownc_ne hoa (by omega))
  have hs1 : (busyW Wa (w.heap.size + 2) r).heap.size = W.heap.size + 1 := by simp [busyW, hsa]
  have hd1 : BlockIs (busyW Wa (w.heap.size + 2) r) (w.heap.size + 1) (.deferred (some [])) := (World.putObj_heap_other (by omega)).trans ((hal _ (by omega)).trans h.dfr)
  have hl1 : (busyW Wa (w.heap.size + 2) r).heap[w.heap.size + 2]? = some (.loop { r with state := .busy }) := World.putObj_heap_same (lt_of_heap hla)
  have hb1 : Below w.heap.size w (busyW Wa (w.heap.size + 2) r) := putObj_below hba (by omega)
  have hold : ∀ x, w.heap.size + 3 ≤ x → x < Nn → (busyW Wa (w.heap.size + 2) r).heap[x]? = W.heap[x]? := fun x hx _ => (World.putObj_heap_other (by omega)).trans (hal _ (by omega))
  generalize busyW Wa (w.heap.size + 2) r = W1 at *
  obtain ⟨v', w2, hr, ho2, hB2, hg2⟩ := push_c (W0 := W1) p q ho1 (Below.refl _ _) (by omega) (by rw [List.length_take]; omega)
  have hne : ∀ x, x < Nn → w2.heap[x]? = W1.heap[x]? := fun x hx => by
    refine (hg2.block x (by simp; omega) (fun e => ?_)).trans (Below.heap_alloc _ _ _ (by omega))
    have := (World.ownsRow.lt ho1 x e.symm).1; omega
  have hv2 := (hne w.heap.size (by omega)).trans hv1
  have hl2 := (hne (w.heap.size + 2) (by omega)).trans hl1
  have hd2 : BlockIs w2 (w.heap.size + 1) (.deferred (some [])) := (hne (w.heap.size + 1) (by omega)).trans hd1
  have hb2 : Below w.heap.size w w2 := hb1.trans ⟨hB2.os, hB2.tape, hB2.output, hB2.size, fun x hx => hB2.block x (by omega)⟩
  have hsz2 : W1.heap.size ≤ w2.heap.size := hB2.size
  have hset : ∀ x, x ≠ w.heap.size → (w2.setCell ⟨w.heap.size, 0, none⟩ v').heap[x]? = w2.heap[x]? := fun x hx => Below.heap_setCell _ _ _ _ hx
  have hgs : w2.grownBy (w2.setCell ⟨w.heap.size, 0, none⟩ v') (some w.heap.size) := grown_set _ _ _ _
  have ho3 : OwnC (w2.setCell ⟨w.heap.size, 0, none⟩ v') Nn 28 v' (X.take (k + 1)) := by
    rw [List.take_succ_eq_append_getElem hk, hxk]; exact OwnC.kept ho2 hgs (ownc_ne ho2 (by omega))
  have hl3 := (hset (w.heap.size + 2) (by omega)).trans hl2
  have hgr : (w2.setCell ⟨w.heap.size, 0, none⟩ v').grownBy (readyW (w2.setCell ⟨w.heap.size, 0, none⟩ v') (w.heap.size + 2) r) (some (w.heap.size + 2)) := busy_grown _ _ _
  refine ⟨v, v', w2, hla, hv1, hn1, hr, cells_cell hv2 0, cells_free hv2 0, hl3, ⟨⟨v', ?_, OwnC.kept ho3 hgr (ownc_ne ho3 (by omega))⟩, ?_, World.putObj_heap_same (lt_of_heap hl3), putObj_below (hb2.setCell (Nat.le_refl _) _) (by omega), hlo, ?_⟩, ?_, ?_, ?_⟩
  · exact (World.putObj_heap_other (by omega)).trans (cells_set hv2 v')
  · exact (World.putObj_heap_other (by omega)).trans ((hset _ (by omega)).trans hd2)
  · simp [readyW, World.setCell]; omega
  · intro x hx hxn
    exact (World.putObj_heap_other (by omega)).trans ((hset x (by omega)).trans ((hne x hxn).trans (hold x hx hxn)))
  · obtain ⟨a, c, h⟩ := ho2.shape; exact ⟨_, _, _, h⟩
  · obtain ⟨a, c, h⟩ := ho1.shape; exact ⟨_, _, _, h⟩
end Go.Proofs.Ytlblpmadehikgaa
