/- Right. -/
import Derived.Test.YtnhkadknibinfaaB1
namespace Go.Proofs.Ytnhkadknibinfaa
open Go.RowKit
set_option linter.unusedVariables false
set_option linter.unusedSimpArgs false

def rightL : Int → List Int → Bool
  | _, [] => true
  | left, n :: t => if n < 0 ∨ left < n then false else rightL (left - n) t
def rightV (p : List Int) : Bool := rightL 1024 p && decide (p.length ≤ 16)

set_option maxRecDepth 100000 in
theorem right_any (v : Value) (p : List Int) (w : World) (h : SrcI w v p) : Calls Try.prog 27 #[v] w fun e w' => e = .returned (.bool (rightV p)) ∧ Below w.heap.size w w' := by
  have b1 := h.small
  obtain ⟨a, c, rfl⟩ := h.shape
  have H := Hd.mk h
  obtain ⟨R, hR⟩ : ∃ r, rightV p = r := ⟨_, rfl⟩
  rw [hR]
  have HR := Hd.mk hR
  obtain ⟨n, hn⟩ : ∃ n, p.length = n := ⟨_, rfl⟩
  have HN := Hd.mk hn
  rw [hn] at b1 ⊢
  clear h hR hn
  go_enter Try.func27, Try.ntmps27
  go_wp2_with fail
  go_loopw [3, 8] (fun l i W => ∃ (k : Nat) (x : Int), k ≤ n ∧ i = .int .i64 k ∧ l = .int .i64 x ∧ 0 ≤ x ∧ x ≤ 1024 ∧ Hd (rightL 1024 p = rightL x (p.drop k)) ∧ Below w.heap.size w W) (fun _ i _ => n - (intOf i).toNat)
  case atStart => exact ⟨0, 1024, by omega, rfl, rfl, by omega, by omega, ⟨rfl⟩, Below.refl _ _⟩
  case round =>
    obtain ⟨k, x, hk, rfl, rfl, x0, x1, HX, hB⟩ := hrel
    by_cases hlt : k < n
    · have hkp : k < p.length := by rw [HN.out]; exact hlt
      have hs := H.out.below hB
      rw [HN.out] at hs
      obtain ⟨b, off, rfl, hb, hc⟩ := hs.at k hkp
      have hst : rightL 1024 p = if p[k] < 0 ∨ x < p[k] then false else rightL (x - p[k]) (p.drop (k + 1)) := by
        rw [HX.out, List.drop_eq_getElem_cons hkp, rightL]
      obtain ⟨q, hq⟩ : ∃ q, p[k] = q := ⟨_, rfl⟩
      rw [hq] at hc hst
      have HST := Hd.mk hst
      have i0 : (0 : Int) ≤ (k : Int) := by omega
      have i1 : (k : Int) < (n : Int) := by omega
      clear hs hkp hst hq HX
      by_cases h0 : q < 0
      · have HF : Hd (false = R) := ⟨by rw [← HR.out, rightV, HST.out, if_pos (.inl h0)]; rfl⟩
        obtain rfl := HF.out
        clear HST HF
        go_wp2_with fail
        refine bodyPost_ret (results_tmp Try.results27 _ _ _) rfl ?_
        exact ⟨rfl, hB⟩
      · by_cases h1 : x < q
        · have HF : Hd (false = R) := ⟨by rw [← HR.out, rightV, HST.out, if_pos (.inr h1)]; rfl⟩
          obtain rfl := HF.out
          clear HST HF
          go_wp2_with fail
          refine bodyPost_ret (results_tmp Try.results27 _ _ _) rfl ?_
          exact ⟨rfl, hB⟩
        · have HNX : Hd (rightL 1024 p = rightL (x - q) (p.drop (k + 1))) := ⟨by rw [HST.out, if_neg (by omega)]⟩
          have j0 : 0 ≤ q := by omega
          have j1 : q ≤ x := by omega
          clear HST
          go_wp2_with fail
          go_roundw
          case rel => exact ⟨k + 1, x - q, by omega, by go_num, by go_num, by omega, by omega, HNX, hB⟩
          case measure => simp [intOf]; omega
    · obtain rfl : k = n := by omega
      have HF : Hd (rightL 1024 p = true) := ⟨by rw [HX.out, List.drop_of_length_le (by rw [HN.out]; exact Nat.le_refl _), rightL]⟩
      have HF2 : Hd (R = decide ((k : Int) ≤ 16)) := ⟨by
        rw [← HR.out, rightV, HF.out, HN.out, Bool.true_and]
        exact decide_eq_decide.2 (by omega)⟩
      obtain rfl := HF2.out
      clear HX HF HF2
      go_wp2_with fail
      refine bodyPost_ret (results_tmp Try.results27 _ _ _) rfl ?_
      exact ⟨rfl, hB⟩
end Go.Proofs.Ytnhkadknibinfaa
