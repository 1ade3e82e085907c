/- Slices of structs of integers that came in, as rows that read. -/
import Derived.Test.YtinagiofolmhbaaRowN
import Derived.Test.YtinagiofolmhbaaStructs
namespace Go.Proofs.Ytinagiofolmhbaa
open Go.RowKit
set_option linter.unusedVariables false

def cellI (w : World) (p : Addr) : Int := match w.cell? p with
  | some (.int _ n) => n
  | _ => 0
theorem row_src {α : Type} (L : Lays α) (ks : List IntKind) (mk : List Int → α) (hk : ks.length = L.sz) (h0 : ∃ k, ks[0]? = some k) (hmk : ∀ zs, zs.length = ks.length → L.cs (mk zs) = List.zipWith Value.int ks zs)
    {w : World} {a : Option Addr} {len cap : Nat} (h : IsRowS ks w a len cap) :
    ∃ xs : List α, xs.length = len ∧ SrcN L w (.slice a len cap) xs ∧ ∀ x ∈ xs, ∃ zs, x = mk zs ∧ zs.length = ks.length ∧ ∀ (j : Nat) (k : IntKind) (n : Int), ks[j]? = some k → zs[j]? = some n → (Lit.int k n).wf = true := by
  by_cases hl0 : len = 0
  · subst hl0
    refine ⟨[], rfl, .inl ⟨rfl, a, cap, rfl, fun ha => ?_⟩, by simp⟩
    rcases h with ⟨_, _, h⟩ | ⟨x, hx, _⟩
    · exact h
    · rw [ha] at hx; cases hx
  · rcases h with ⟨_, h, _⟩ | ⟨x, rfl, hlc, hm, hc⟩
    · exact absurd h hl0
    · obtain ⟨b, off, rfl, hbw, hcells⟩ := IsRowS.plain (len := len) (cap := cap) (.inr ⟨x, rfl, hlc, hm, hc⟩) (by omega) h0
      let zf : Nat → List Int := fun i => (List.range ks.length).map (fun j => cellI w ⟨b, off + (i * ks.length + j), none⟩)
      have hzl : ∀ i, (zf i).length = ks.length := fun i => by simp [zf]
      have hz : ∀ i, i < len → ∀ (j : Nat) (k : IntKind), ks[j]? = some k → ∃ n, (zf i)[j]? = some n ∧ w.cell? ⟨b, off + (i * ks.length + j), none⟩ = some (.int k n) ∧ (Lit.int k n).wf = true := by
        intro i hi j k hj
        obtain ⟨n, hn, hw⟩ := hcells i (by omega) j k hj
        have hjl : j < ks.length := (List.getElem?_eq_some_iff.1 hj).1
        refine ⟨n, ?_, hn, hw⟩
        simp only [zf, List.getElem?_map, List.getElem?_range hjl, Option.map_some, cellI, hn]
      refine ⟨(List.range len).map (fun i => mk (zf i)), by simp, .inr ⟨b, off, cap, by simp, by simpa using hlc, hm, hbw, ?_⟩, ?_⟩
      · intro i hi r u hr
        have hi' : i < len := by simpa using hi
        simp only [List.getElem_map, List.getElem_range] at hr
        rw [hmk _ (hzl i), List.getElem?_zipWith] at hr
        have hrl : r < ks.length := by
          rcases Nat.lt_or_ge r ks.length with h | h
          · exact h
          · rw [List.getElem?_eq_none h] at hr; simp at hr
        obtain ⟨n, h1, h2, _⟩ := hz i hi' r ks[r] (List.getElem?_eq_getElem hrl)
        rw [List.getElem?_eq_getElem hrl, h1] at hr
        simp at hr
        rw [← hk, Nat.add_assoc, h2, hr]
      · intro x hx
        obtain ⟨i, hi, rfl⟩ := List.mem_map.1 hx
        refine ⟨zf i, rfl, hzl i, fun j k n hj hn => ?_⟩
        obtain ⟨n', h1, _, h3⟩ := hz i (List.mem_range.1 hi) j k hj
        rw [h1] at hn; cases hn; exact h3
end Go.Proofs.Ytinagiofolmhbaa
