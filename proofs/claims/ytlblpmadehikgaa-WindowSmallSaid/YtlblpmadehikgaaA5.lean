/- slices.Values, and the iterator it returns. -/
import Derived.Test.YtlblpmadehikgaaA4
import Derived.BigRegionIn
namespace Go.Proofs.Ytlblpmadehikgaa
open Go.RowKit Go.Shelf
attribute [local go_sem] Oper.semAt_some
set_option linter.unusedVariables false

theorem values_any (a : Option Addr) (n c : Nat) (w : World) : Calls Try.prog 49 #[.slice a n c] w fun e w' =>
    e = .returned (.func (.func 57) #[] #[.pointer (some ⟨w.heap.size, 0, none⟩)]) ∧ w' = w.alloc (.cells #[.slice a n c] 24) := by
  go_enter Try.func49, Try.ntmps49
  go_wp2_with fail
  go_ret
  exact ⟨rfl, rfl⟩

set_option maxRecDepth 100000 in
set_option maxHeartbeats 4000000 in
theorem vals1 (B L : Nat) (a : Option Addr) (c : Nat) (l : List Int) (I : Nat → World → Prop) (J : World → Prop)
    (hI : ∀ k W, I k W → W.heap[B]? = some (.cells #[.slice a l.length c] 24 (0, 0)) ∧ SrcI W (.slice a l.length c) l)
    (hlen : l.length ≤ 1000000)
    (hY : ∀ k W (h : k < l.length), I k W →
      YieldAt Fence.wide 0 Try.prog L #[.int .i64 l[k]] W (fun e W'' => (e = .returned (.bool true) ∧ I (k + 1) W'') ∨ (e = .returned (.bool false) ∧ J W'')))
    (W0 : World) (h0 : I 0 W0) :
    Calls Try.prog 57 #[.func (.yield L) #[] #[], .pointer (some ⟨B, 0, none⟩)] W0 fun e W' => (∃ v, e = .returned v) ∧ (I l.length W' ∨ J W') := by
  have HI := Hd.mk hI
  have HY := Hd.mk hY
  have H0 := Hd.mk h0
  clear hI hY h0
  refine (callsIn_wide (n := 0)).1 ?_
  refine callsIn_of_wp Try.func57 rfl trivial ?_
  simp only [Try.ntmps57, List.size_toArray, List.length_cons, List.length_nil, Nat.reduceAdd, Nat.reduceSub, Array.replicate_succ, Array.replicate_zero, List.push_toArray, List.append_toArray, List.nil_append, List.cons_append]
  have hb0 := cells_cell (HI.out 0 W0 H0.out).1 0
  gi_wp2_with fail
  clear hb0
  gi_loopw [7] (fun i W => ∃ k : Nat, k ≤ l.length ∧ i = .int .i64 k ∧ Hd (I k W)) (fun i _ => l.length - (intOf i).toNat)
  case atStart => exact ⟨0, by omega, rfl, H0⟩
  case round =>
    obtain ⟨k, hk, rfl, HK⟩ := hrel
    by_cases hlt : k < l.length
    · obtain ⟨b, off, rfl, hb, hx⟩ := (HI.out k wr HK.out).2.at k hlt
      have hy0 := HY.out k wr hlt HK.out
      obtain ⟨x, hX⟩ : ∃ x, l[k] = x := ⟨_, rfl⟩
      rw [hX] at hx hy0
      obtain ⟨fn, tmps, asg, body, hy, hR⟩ := hy0
      have HRR := Hd.mk hR
      have HLT := Hd.mk hlt
      have k0 : (0 : Int) ≤ (k : Int) := by omega
      have k1 : (k : Int) < (l.length : Int) := by omega
      clear hR hX hb
      gi_wp2_with fail
      refine HRR.out.mono ?_
      rintro e W2 (⟨rfl, hI2⟩ | ⟨rfl, hJ2⟩)
      · have HI2 := Hd.mk hI2
        clear hI2 HRR hy
        gi_wp2_with fail
        go_roundw
        case rel => exact ⟨k + 1, HLT.out, by go_num, HI2⟩
        case measure => have := HLT.out; simp [intOf] <;> omega
      · have HJ2 := Hd.mk hJ2
        clear hJ2 HRR hy
        gi_wp2_with fail
        refine bodyPost_ret (results_none rfl _ _ _) rfl ?_
        exact ⟨⟨_, rfl⟩, .inr HJ2.out⟩
    · obtain rfl : k = l.length := by omega
      gi_wp2_with fail
      go_end0
      exact ⟨⟨_, rfl⟩, .inl HK.out⟩
end Go.Proofs.Ytlblpmadehikgaa
