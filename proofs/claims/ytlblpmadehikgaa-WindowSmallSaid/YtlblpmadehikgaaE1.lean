/- slices.IndexFunc and DeleteFunc, with the times before a horizon. -/
import Derived.Test.YtlblpmadehikgaaPL3
import Derived.Lib.SliceRun
import Derived.Deep.Upon
namespace Go.Proofs.Ytlblpmadehikgaa
open Go.RowKit Go.Shelf
set_option linter.unusedVariables false

theorem before_any (b : Nat) (t h : Int) (w : World) (hb : w.cell? ⟨b, 0, none⟩ = some (.int .i64 h)) : Calls Try.prog 30 #[.int .i64 t, .pointer (some ⟨b, 0, none⟩)] w fun e w' => e = .returned (.bool (decide (t < h))) ∧ w = w' := by
  go_enter Try.func30, Try.ntmps30
  go_wp2_with fail
  go_ret
  exact ⟨rfl, rfl⟩
/-- The first time before h. -/
def idxF (l : List Int) (h : Int) : Int := match l.findIdx? (fun t => decide (t < h)) with
  | none => -1
  | some i => (i : Int)
theorem index_func (b : Nat) (v : Value) (l : List Int) (h : Int) (w : World) (hs : SrcI w v l) (hb : w.cell? ⟨b, 0, none⟩ = some (.int .i64 h)) :
    Calls Try.prog 46 #[v, .func (.func 30) #[] #[.pointer (some ⟨b, 0, none⟩)]] w fun e w' => e = .returned (.int .i64 (idxF l h)) ∧ w = w' := by
  have hsm := hs.small
  have HS := Hd.mk hs
  obtain ⟨a, c, rfl⟩ := hs.shape
  clear hs
  go_enter Try.func46, Try.ntmps46
  go_wp2_with fail
  go_loop [8] (fun i => ∃ k : Nat, k ≤ l.length ∧ i = .int .i64 k ∧ Hd (∀ j (hj : j < l.length), j < k → h ≤ l[j])) (fun i => l.length - (intOf i).toNat)
  case atStart => exact ⟨0, by omega, rfl, ⟨fun j hj h0 => by omega⟩⟩
  case round =>
    obtain ⟨k, hk, rfl, HK⟩ := hrel
    by_cases hlt : k < l.length
    · obtain ⟨bb, off, rfl, _, hx⟩ := HS.out.at k hlt
      obtain ⟨x, hX⟩ : ∃ x, l[k] = x := ⟨_, rfl⟩
      rw [hX] at hx
      have HX := Hd.mk hX
      have HLT := Hd.mk hlt
      have k0 : (0 : Int) ≤ (k : Int) := by omega
      have k1 : (k : Int) < (l.length : Int) := by omega
      clear hX
      by_cases hxh : x < h
      · have HXH := Hd.mk (decide_eq_true hxh)
        have HI : Hd (idxF l h = (k : Int)) := ⟨by
          rw [idxF, show l.findIdx? (fun t => decide (t < h)) = some k from List.findIdx?_eq_some_iff_getElem.2 ⟨hlt, by rw [HX.out]; exact HXH.out, fun j hj => by simpa using HK.out j (by omega) hj⟩]⟩
        clear hxh
        go_wp2_with fail
        refine (before_any b x h _ hb).mono ?_
        rintro e w1 ⟨rfl, rfl⟩
        rw [HXH.out]
        go_wp2_with fail
        go_ret
        exact ⟨by rw [HI.out]; rfl, rfl⟩
      · have HXH := Hd.mk (decide_eq_false hxh)
        have HN : Hd (∀ j (hj : j < l.length), j < k + 1 → h ≤ l[j]) := ⟨fun j hj h1 => by
          rcases Nat.lt_or_ge j k with h2 | h2
          · exact HK.out j hj h2
          · obtain rfl : j = k := by omega
            rw [HX.out]; omega⟩
        clear hxh
        go_wp2_with fail
        refine (before_any b x h _ hb).mono ?_
        rintro e w1 ⟨rfl, rfl⟩
        rw [HXH.out]
        go_wp2_with fail
        go_round
        case rel => exact ⟨k + 1, HLT.out, by go_num, HN⟩
        case measure => have := HLT.out; simp [intOf] <;> omega
    · obtain rfl : k = l.length := by omega
      have HI : Hd (idxF l h = -1) := ⟨by
        rw [idxF, show l.findIdx? (fun t => decide (t < h)) = none from List.findIdx?_eq_none_iff.2 (fun t ht => by
          obtain ⟨j, hj, rfl⟩ := List.mem_iff_getElem.1 ht
          exact decide_eq_false (by have := HK.out j hj hj; omega))]⟩
      go_wp2_with fail
      go_ret
      exact ⟨by rw [HI.out]; rfl, rfl⟩
end Go.Proofs.Ytlblpmadehikgaa
