/- Slices of structs that came in, whose fields are integers of one cell each. -/
import Derived.Deep.Slices
import Derived.Deep.Fields
import Derived.ChangeSame
import Derived.OpenShut
namespace Go.Proofs.Ytinagiofolmhbaa
open Go.ChangeShapes Go.WideShapes Go.Deep Go.RowKit
section
variable {H : Type} {enc : TypeId × Value → H} {P : Program} {w : World} {base : Nat} {spare : Nat → Bool} {held : Bool}
theorem open_slice_fields {t e : TypeId} {fs : Array Field} {fuel : Nat} {cs : List Value} {x : DataW H × List MemPlace} (ht : P.underlying t = some (.slice e)) (he : P.underlying e = some (.struct fs))
    (hone : oneCellFields P fs = true) (hC : P.cellsOf e = fs.size) (h : DataW.trod enc P w base spare held fuel t cs = some x) :
    (cs = [.slice none 0 0] ∧ x = (.nil, [])) ∨
    ∃ (a : Addr) (len cap m : Nat) (D : Nat → DataW H) (Pl : Nat → List MemPlace), cs = [.slice (some a) len cap] ∧ base ≤ a.block ∧ len ≤ cap ∧ cap ≤ maxLen ∧ m = (if spare a.block then cap else len) ∧
      x = (.slice ((List.range len).map D) ((List.range (m - len)).map fun j => D (len + j)), MemPlace.row a (m * fs.size) ++ (List.range m).flatMap Pl) ∧
      ∀ i, i < m → ∃ (ys : List (DataW H × List MemPlace)) (n : Nat), D i = .agg (ys.map (·.1)) ∧ Pl i = ys.flatMap (·.2) ∧ ys.length = fs.size ∧
        ∀ (j : Nat) (f : Field), fs[j]? = some f → ∃ (v : Value) (y : DataW H × List MemPlace), w.cell? (a.add (i * fs.size + j)) = some v ∧ ys[j]? = some y ∧ DataW.trod enc P w base spare held n f.type [v] = some y := by
  rcases open_slice ht h with h0 | ⟨a, len, cap, m, n, D, Pl, hcs, hb, hl, hm, hmm, hx, hi⟩
  · exact .inl h0
  · refine .inr ⟨a, len, cap, m, D, Pl, hcs, hb, hl, hm, hmm, by rw [hC] at hx; exact hx, fun i him => ?_⟩
    obtain ⟨cs', hc, ht'⟩ := hi i him
    rw [hC] at hc
    obtain ⟨ys, n', hn', hy, hlen, hyl, hf⟩ := DataW.trod_struct he ht'
    obtain ⟨_, hcl, hat⟩ := World.cells?_some hc
    simp only [Prod.mk.injEq] at hy
    refine ⟨ys, n', hy.1, hy.2, hyl, fun j f hj => ?_⟩
    obtain ⟨ho, hk⟩ := hone_of hone j f hj
    have hjl : j < fs.size := (Array.getElem?_eq_some_iff.1 hj).1
    have hcell := hat j hjl
    have hv : cs'[j]? = some (cs'[j]'(by omega)) := List.getElem?_eq_getElem (by omega)
    have h1 := hf j f hj
    rw [ho, hk] at h1
    have hone' : (cs'.drop j).take 1 = [cs'[j]'(by omega)] := by
      rw [List.drop_eq_getElem_cons (by omega)]
      rfl
    rw [hone'] at h1
    have hys : ys[j]? = some (ys[j]'(by omega)) := List.getElem?_eq_getElem (by omega)
    refine ⟨_, _, ?_, hys, h1.trans hys⟩
    rw [← Go.Deep.add_add, hcell, hv]
end

/-- A slice of structs that came in: nil, or a row of elements, whose fields are integers of the kinds ks, one cell each. -/
def IsRowS (ks : List IntKind) (w : World) (a : Option Addr) (len cap : Nat) : Prop :=
  (a = none ∧ len = 0 ∧ cap = 0) ∨ ∃ x, a = some x ∧ len ≤ cap ∧ cap ≤ maxLen ∧
    ∀ i, i < cap → ∀ (j : Nat) (k : IntKind), ks[j]? = some k → ∃ n : Int, w.cell? (x.add (i * ks.length + j)) = some (.int k n) ∧ (Lit.int k n).wf = true

section
variable {H : Type} {enc : TypeId × Value → H} {P : Program} {w : World} {base : Nat} {held : Bool}
theorem open_rowS {t e : TypeId} {fs : Array Field} (ks : List IntKind) {v : Value} {d : DataW H} {p : List MemPlace} {a : Option Addr} {len cap : Nat} (ht : P.underlying t = some (.slice e)) (he : P.underlying e = some (.struct fs))
    (hone : oneCellFields P fs = true) (hC : P.cellsOf e = fs.size) (hk : ks.length = fs.size) (hks : ∀ (j : Nat) (k : IntKind), ks[j]? = some k → ∃ f, fs[j]? = some f ∧ P.underlying f.type = some (.int k))
    (hv : v = .slice a len cap) (h : DataW.Trod enc P w base (fun _ => true) held t v d p) : IsRowS ks w a len cap := by
  subst hv
  obtain ⟨fuel, hf⟩ := h
  rcases open_slice_fields ht he hone hC hf with ⟨hcs, _⟩ | ⟨x, l, c, m, D, Pl, hcs, _, hl, hm, hmm, _, hi⟩
  · simp [Value.cells] at hcs
    exact .inl ⟨hcs.1, hcs.2.1, hcs.2.2⟩
  · simp [Value.cells] at hcs
    obtain ⟨rfl, rfl, rfl⟩ := hcs
    refine .inr ⟨x, rfl, hl, hm, fun i him j k hj => ?_⟩
    obtain ⟨f, hfj, hu⟩ := hks j k hj
    obtain ⟨ys, n, _, _, _, hat⟩ := hi i (by rw [hmm]; simpa using him)
    obtain ⟨v, y, hcell, _, hty⟩ := hat j f hfj
    obtain ⟨n', hn, _, hw⟩ := DataW.trod_int hu hty
    simp only [List.cons.injEq, and_true] at hn
    subst hn
    exact ⟨n', by rw [hk]; exact hcell, hw⟩
end
theorem IsRowS.plain {ks : List IntKind} {w : World} {x : Addr} {len cap : Nat} (h : IsRowS ks w (some x) len cap) (hl : 0 < cap) (h0 : ∃ k, ks[0]? = some k) :
    ∃ b off, x = ⟨b, off, none⟩ ∧ b < w.heap.size ∧ ∀ i, i < cap → ∀ (j : Nat) (k : IntKind), ks[j]? = some k → ∃ n : Int, w.cell? ⟨b, off + (i * ks.length + j), none⟩ = some (.int k n) ∧ (Lit.int k n).wf = true := by
  rcases h with ⟨h, _⟩ | ⟨y, hy, _, _, hc⟩
  · cases h
  · simp only [Option.some.injEq] at hy
    subst hy
    obtain ⟨k0, hk0⟩ := h0
    obtain ⟨n0, hn0, _⟩ := hc 0 hl 0 k0 hk0
    obtain ⟨b, off, spot⟩ := x
    have hspot : spot = none := by simpa [Addr.add] using World.cell?_spot hn0
    subst hspot
    refine ⟨b, off, rfl, ?_, fun i hi j k hj => ?_⟩
    · rw [Go.WideShapes.add_plain] at hn0
      exact World.block_lt_of_cell? w _ hn0
    · obtain ⟨n, hn, hw⟩ := hc i hi j k hj
      exact ⟨n, by rw [← Go.WideShapes.add_plain]; exact hn, hw⟩
end Go.Proofs.Ytinagiofolmhbaa
