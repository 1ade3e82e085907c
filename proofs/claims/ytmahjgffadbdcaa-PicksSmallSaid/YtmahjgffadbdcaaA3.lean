/- Walks of picks.all and of what it returns. -/
import Derived.Test.YtmahjgffadbdcaaA2
import Derived.BigRegionIn
namespace Go.Proofs.Ytmahjgffadbdcaa
open Go.RowKit Go.Shelf
attribute [local go_sem] Oper.semAt_some
set_option linter.unusedVariables false

theorem all_any (p : Addr) (w : World) : Calls Try.prog 33 #[.pointer (some p)] w fun e w' =>
    e = .returned (.func (.func 47) #[] #[.pointer (some ⟨w.heap.size, 0, none⟩)]) ∧ w' = w.alloc (.cells #[.pointer (some p)] 69) := by
  go_enter Try.func33, Try.ntmps33
  go_wp2_with fail
  go_ret
  exact ⟨rfl, rfl⟩

set_option maxRecDepth 100000 in
set_option maxHeartbeats 1000000 in
theorem all1 (G B L : Nat) (S : List Int) (hS : asc S) (hr : ∀ p ∈ S, 1 ≤ p ∧ p ≤ 16) (I : Nat → World → Prop) (J : World → Prop)
    (hI : ∀ i W, I i W → W.heap[G]? = some (.cells (lf S) 51 (0, 0)) ∧ W.heap[B]? = some (.cells #[.pointer (some ⟨G, 0, none⟩)] 69 (0, 0)))
    (hY : ∀ i W (h : i < S.length), I i W → YieldAt Fence.wide 0 Try.prog L #[.int .i64 S[i]] W (fun e W'' => (e = .returned (.bool true) ∧ I (i + 1) W'') ∨ (e = .returned (.bool false) ∧ J W'')))
    (W0 : World) (h0 : I 0 W0) :
    Calls Try.prog 47 #[.func (.yield L) #[] #[], .pointer (some ⟨B, 0, none⟩)] W0 fun e W' => (∃ v, e = .returned v) ∧ (I S.length W' ∨ J W') := by
  have HI := Hd.mk hI
  have HY := Hd.mk hY
  have H0 : Hd (I (cntL S ((0 : Nat) : Int)) W0) := ⟨by rw [show ((0 : Nat) : Int) = 0 from rfl, cnt_zero hr]; exact h0⟩
  have HS := Hd.mk hS
  have HR := Hd.mk hr
  clear hI hY h0 hS hr
  refine (callsIn_wide (n := 0)).1 ?_
  refine callsIn_of_wp Try.func47 rfl trivial ?_
  simp only [Try.ntmps47, List.size_toArray, List.length_cons, List.length_nil, Nat.reduceAdd, Nat.reduceSub, Array.replicate_succ, Array.replicate_zero, List.push_toArray, List.append_toArray, List.nil_append, List.cons_append]
  gi_wp2_with fail
  gi_loopw [4] (fun i W => ∃ k : Nat, k ≤ 17 ∧ i = .int .i64 k ∧ Hd (I (cntL S (k : Int)) W)) (fun i _ => 17 - (intOf i).toNat)
  case atStart => exact ⟨0, by omega, rfl, H0⟩
  case round =>
    obtain ⟨k, hk, rfl, HK⟩ := hrel
    by_cases hlt : k < 17
    · have i0 : (0 : Int) ≤ (k : Int) := by omega
      have i1 : (k : Int) < 17 := by omega
      obtain ⟨hG, hB⟩ := HI.out _ wr HK.out
      have hb0 := cells_cell hB 0
      have hgc := (cells_cell hG k).trans (lf_get _ k hlt)
      cases e : hasB S k
      · rw [e] at hgc
        have HN : Hd (I (cntL S ((k + 1 : Nat) : Int)) wr) := ⟨by
          rw [show ((k + 1 : Nat) : Int) = (k : Int) + 1 from by omega, cnt_succ_out (by simpa [hasB] using e)]; exact HK.out⟩
        clear hG hB e HK
        gi_wp2_with fail
        go_roundw
        case rel => exact ⟨k + 1, by omega, by go_num, HN⟩
        case measure => simp [intOf]; omega
      · rw [e] at hgc
        have hin : (k : Int) ∈ S := by simpa [hasB] using e
        have hat := at_cnt HS.out hin
        obtain ⟨hil, hat⟩ := List.getElem?_eq_some_iff.1 hat
        have HC : Hd (cntL S ((k + 1 : Nat) : Int) = cntL S (k : Int) + 1) := ⟨by
          rw [show ((k + 1 : Nat) : Int) = (k : Int) + 1 from by omega, cnt_succ_in HS.out.nodup hin]⟩
        obtain ⟨fn, tmps, asg, body, hy, hR⟩ := HY.out _ wr hil HK.out
        rw [hat] at hy
        have HRR := Hd.mk hR
        clear hG hB e HK hR hin hat hil
        gi_wp2_with fail
        refine HRR.out.mono ?_
        rintro e W2 (⟨rfl, hI2⟩ | ⟨rfl, hJ2⟩)
        · have HI2 : Hd (I (cntL S ((k + 1 : Nat) : Int)) W2) := ⟨by rw [HC.out]; exact hI2⟩
          clear hI2 HRR hy hb0 hgc
          gi_wp2_with fail
          go_roundw
          case rel => exact ⟨k + 1, by omega, by go_num, HI2⟩
          case measure => simp [intOf]; omega
        · have HJ2 := Hd.mk hJ2
          clear hJ2 HRR hy hb0 hgc
          gi_wp2_with fail
          refine bodyPost_ret (results_none rfl _ _ _) rfl ?_
          exact ⟨⟨_, rfl⟩, .inr HJ2.out⟩
    · obtain rfl : k = 17 := by omega
      have HE := HK.out
      rw [show ((17 : Nat) : Int) = 17 from rfl, cnt_all HR.out] at HE
      have HE := Hd.mk HE
      clear HK
      gi_wp2_with fail
      go_end0
      exact ⟨⟨_, rfl⟩, .inl HE.out⟩
end Go.Proofs.Ytmahjgffadbdcaa
