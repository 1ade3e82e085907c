/- Flattened cells; the laws' rows of small acts. -/
import Derived.Test.YtnhkadknibinfaaC2
import Derived.Test.YtnhkadknibinfaaStructs
namespace Go.Proofs.Ytnhkadknibinfaa
open Go.RowKit
set_option linter.unusedVariables false

def offV (a : List (List Int)) (r : Nat) : Nat := ((a.take r).map List.length).sum
theorem flatten_at : ∀ (a : List (List Int)) (r k : Nat) (hr : r < a.length) (hk : k < a[r].length), a.flatten[offV a r + k]? = some a[r][k]
  | [], r, k, hr, _ => by simp at hr
  | l :: a, 0, k, hr, hk => by
    simp only [offV, List.take_zero, List.map_nil, List.sum_nil, Nat.zero_add, List.flatten_cons]
    simp only [List.getElem_cons_zero] at hk ⊢
    rw [List.getElem?_append_left hk, List.getElem?_eq_getElem hk]
  | l :: a, r + 1, k, hr, hk => by
    have hr' : r < a.length := by simpa using hr
    have := flatten_at a r k hr' (by simpa using hk)
    simp only [offV, List.take_succ_cons, List.map_cons, List.sum_cons, List.flatten_cons, List.getElem_cons_succ] at this ⊢
    rw [List.getElem?_append_right (by omega), ← this]
    congr 1; omega
theorem flatten_set : ∀ (a : List (List Int)) (r k : Nat) (v : Int) (hr : r < a.length) (hk : k < a[r].length), (a.modify r (fun l => l.set k v)).flatten = a.flatten.set (offV a r + k) v
  | [], r, k, v, hr, _ => by simp at hr
  | l :: a, 0, k, v, hr, hk => by
    simp only [offV, List.take_zero, List.map_nil, List.sum_nil, Nat.zero_add, List.flatten_cons, List.modify_zero_cons]
    simp only [List.getElem_cons_zero] at hk
    rw [List.set_append_left _ _ hk]
  | l :: a, r + 1, k, v, hr, hk => by
    have hr' : r < a.length := by simpa using hr
    have := flatten_set a r k v hr' (by simpa using hk)
    simp only [offV, List.take_succ_cons, List.map_cons, List.sum_cons, List.flatten_cons, List.modify_succ_cons] at this ⊢
    rw [this, List.set_append_right _ _ (by omega)]
    congr 2; omega
theorem set2_flatten {a : List (List Int)} {r k : Nat} (v : Int) (hr : r < a.length) (hk : k < a[r].length) : (set2 a ((r : Int) + 1, (k : Int)) v).flatten = a.flatten.set (offV a r + k) v := by
  unfold set2
  have e2 : ((r : Int) + 1).toNat - 1 = r := by omega
  simp only [e2, Int.toNat_natCast]
  exact flatten_set a r k v hr hk
theorem flatten_len_eq {a : List (List Int)} : a.flatten.length = (shape a).sum := by
  unfold shape; rw [List.length_flatten]
theorem planI_shape (a : List (List Int)) : planI a = (shape a).map (fun n : Nat => (n : Int)) := by
  unfold planI shape; rw [List.map_map]; rfl
theorem offV_shape {a : List (List Int)} {s : List Nat} (h : shape a = s) (r : Nat) : offV a r = (s.take r).sum := by
  unfold offV; rw [← h, shape, ← List.map_take]

def cellN (w : World) (p : Addr) : Nat := match w.cell? p with
  | some (.int _ n) => n.toNat
  | _ => 0
theorem small_row {w : World} {a : Option Addr} {len cap : Nat} (h : IsRowS [.u8, .u8, .u8] w a len cap) (hc : cap ≤ maxLen) : ∃ cs : List Sm, cs.length = len ∧ SrcS w (.slice a len cap) cs := by
  by_cases h0 : len = 0
  · subst h0
    exact ⟨[], rfl, .inl ⟨rfl, a, cap, rfl, hc⟩⟩
  · rcases h with ⟨_, h, _⟩ | ⟨x, rfl, hlc, hm, hc⟩
    · exact absurd h h0
    · obtain ⟨b, off, rfl, hbw, hcells⟩ := IsRowS.plain (len := len) (cap := cap) (.inr ⟨x, rfl, hlc, hm, hc⟩) (by omega) ⟨_, rfl⟩
      have key : ∀ j, j < len → ∀ r, r < 3 → ∃ n : Nat, n < 256 ∧ w.cell? ⟨b, off + (j * 3 + r), none⟩ = some (.int .u8 (n : Int)) := by
        intro j hj r hr
        obtain ⟨n, hn, hw⟩ := hcells j (by omega) r .u8 (by
          obtain rfl | rfl | rfl : r = 0 ∨ r = 1 ∨ r = 2 := by omega
          all_goals rfl)
        have := bounds_u8 hw
        exact ⟨n.toNat, by omega, by rw [show ((n.toNat : Nat) : Int) = n from by omega]; exact hn⟩
      refine ⟨(List.range len).map fun i => (cellN w ⟨b, off + (i * 3 + 0), none⟩, cellN w ⟨b, off + (i * 3 + 1), none⟩, cellN w ⟨b, off + (i * 3 + 2), none⟩), by simp, .inr ⟨b, off, cap, by simp, by simp; exact hlc, hm, hbw, ?_, ?_⟩⟩
      · intro c hc
        obtain ⟨j, hj, rfl⟩ := List.mem_map.1 hc
        have hj' := List.mem_range.1 hj
        obtain ⟨n0, h0, e0⟩ := key j hj' 0 (by omega)
        obtain ⟨n1, h1, e1⟩ := key j hj' 1 (by omega)
        obtain ⟨n2, h2, e2⟩ := key j hj' 2 (by omega)
        simp only [cellN, e0, e1, e2, Int.toNat_natCast]
        exact ⟨h0, h1, h2⟩
      · intro j hj r hr
        have hj' : j < len := by simpa using hj
        obtain ⟨n, hn, e⟩ := key j hj' r hr
        rw [e]
        obtain rfl | rfl | rfl : r = 0 ∨ r = 1 ∨ r = 2 := by omega
        all_goals simp only [List.getElem_map, List.getElem_range, smc, cellN, e, Int.toNat_natCast]
theorem IsRowS.cap_le {ks : List IntKind} {w : World} {a : Option Addr} {len cap : Nat} (h : IsRowS ks w a len cap) : cap ≤ maxLen := by
  rcases h with ⟨_, _, rfl⟩ | ⟨_, _, _, h, _⟩
  · simp [maxLen]
  · exact h
end Go.Proofs.Ytnhkadknibinfaa
