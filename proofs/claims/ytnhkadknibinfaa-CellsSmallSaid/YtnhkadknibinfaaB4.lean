/- The iterator over all cells. -/
import Derived.Test.YtnhkadknibinfaaB3
import Derived.BigRegionIn
namespace Go.Proofs.Ytnhkadknibinfaa
open Go.RowKit Go.Shelf
attribute [local go_sem] Oper.semAt_some
set_option linter.unusedVariables false
set_option linter.unusedSimpArgs false

theorem iter_any (M : Nat) (w : World) : Calls Try.prog 32 #[.pointer (some ⟨M, 0, none⟩)] w fun e w' =>
    e = .returned (.func (.func 45) #[] #[.pointer (some ⟨w.heap.size, 0, none⟩)]) ∧ w' = w.alloc (.cells #[.pointer (some ⟨M, 0, none⟩)] 24) := by
  go_enter Try.func32, Try.ntmps32
  go_wp2_with fail
  go_ret
  exact ⟨rfl, rfl⟩

set_option maxRecDepth 100000 in
set_option maxHeartbeats 4000000 in
theorem cells1 (B L M : Nat) (y : Lay) (pr : Nat → Prop) (st : St) (I : Nat → Nat → World → Prop)
    (hI : ∀ i k W, I i k W → W.heap[B]? = some (.cells #[.pointer (some ⟨M, 0, none⟩)] 24 (0, 0)) ∧ MemL y W pr M st)
    (hN : ∀ i W (h : i < st.now.length), I i st.now[i].length W → I (i + 1) 0 W)
    (hY : ∀ i k W (hi : i < st.now.length) (hk : k < st.now[i].length), I i k W →
      YieldAt Fence.wide 0 Try.prog L #[.agg #[.int .i64 ((i : Int) + 1), .int .i64 (k : Int)], .int .i64 st.now[i][k]] W (fun e W'' => e = .returned (.bool true) ∧ I i (k + 1) W''))
    (W0 : World) (h0 : I 0 0 W0) :
    Calls Try.prog 45 #[.func (.yield L) #[] #[], .pointer (some ⟨B, 0, none⟩)] W0 fun e W' => (∃ v, e = .returned v) ∧ I st.now.length 0 W' := by
  have HI := Hd.mk hI
  have HY := Hd.mk hY
  have HNX := Hd.mk hN
  have H0 := Hd.mk h0
  have n16 := (hI 0 0 W0 h0).2.ok.owners
  have HCE := Hd.mk (hI 0 0 W0 h0).2.ok.cells
  have c1 := (hI 0 0 W0 h0).2.c1
  have hb0 := cells_cell (hI 0 0 W0 h0).1 0
  obtain ⟨N, hNN⟩ : ∃ n, st.now.length = n := ⟨_, rfl⟩
  have HN := Hd.mk hNN
  rw [hNN] at c1 n16
  clear hI hY h0 hN hNN
  refine (callsIn_wide (n := 0)).1 ?_
  refine callsIn_of_wp Try.func45 rfl trivial ?_
  simp only [Try.ntmps45, List.size_toArray, List.length_cons, List.length_nil, Nat.reduceAdd, Nat.reduceSub, Array.replicate_succ, Array.replicate_zero, List.push_toArray, List.append_toArray, List.nil_append, List.cons_append]
  gi_wp2_with fail
  clear hb0 c1
  gi_loopw [12] (fun i W => ∃ k : Nat, k ≤ N ∧ i = .int .i64 k ∧ Hd (I k 0 W)) (fun i _ => N - (intOf i).toNat)
  case atStart => exact ⟨0, by omega, rfl, H0⟩
  case round =>
    obtain ⟨i, hk, rfl, HK⟩ := hrel
    by_cases hlt : i < N
    · have hin : i < st.now.length := by rw [HN.out]; exact hlt
      have hm := (HI.out i 0 wr HK.out).2
      obtain ⟨C, hC, _, cC⟩ := hm.rows.at i hin
      have hl1 := HCE.out _ (List.getElem_mem hin)
      rw [hC]
      obtain ⟨len, hlen⟩ : ∃ m, st.now[i].length = m := ⟨_, rfl⟩
      rw [hlen] at cC hl1
      have HLEN := Hd.mk hlen
      have k0 : (0 : Int) ≤ (i : Int) := by omega
      have k1 : (i : Int) < (N : Int) := by omega
      clear hm hlen
      gi_wp2_with fail
      clear cC
      gi_loopw [19] (fun j W => ∃ k : Nat, k ≤ len ∧ j = .int .i64 k ∧ Hd (I i k W)) (fun j _ => len - (intOf j).toNat)
      case atStart => exact ⟨0, by omega, rfl, HK⟩
      case round =>
        obtain ⟨k, hkk, rfl, HK2⟩ := hrel
        by_cases hlt2 : k < len
        · have hki : k < st.now[i].length := by rw [HLEN.out]; exact hlt2
          have hm := (HI.out i k wr HK2.out).2
          have hsrc := hm.rows.src i hin
          rw [HLEN.out] at hsrc
          have hy0 := HY.out i k wr hin hki HK2.out
          obtain ⟨x, hX⟩ : ∃ x, st.now[i][k] = x := ⟨_, rfl⟩
          obtain ⟨b, off, hra, hb, hx⟩ := hsrc.at k hki
          rw [hX] at hx hy0
          obtain ⟨fn, tmps, asg, body, hy, hR⟩ := hy0
          have HRR := Hd.mk hR
          have j0 : (0 : Int) ≤ (k : Int) := by omega
          have j1 : (k : Int) < (len : Int) := by omega
          rw [hra]
          clear hR hX hb hm hsrc hki hra
          gi_wp2_with fail
          refine HRR.out.mono ?_
          rintro e W2 ⟨rfl, hI2⟩
          have HI2 := Hd.mk hI2
          clear hI2 HRR hy
          gi_wp2_with fail
          go_roundw
          case rel => exact ⟨k + 1, by omega, by go_num, HI2⟩
          case measure => simp [intOf] <;> omega
        · obtain rfl : k = len := by omega
          have HNXT : Hd (I (i + 1) 0 wr) := ⟨HNX.out i _ hin (by rw [HLEN.out]; exact HK2.out)⟩
          clear HK2
          gi_wp2_with fail
          go_roundw
          case rel => exact ⟨i + 1, by omega, by go_num, HNXT⟩
          case measure => simp [intOf] <;> omega
    · obtain rfl : i = N := by omega
      have HF : Hd (I st.now.length 0 wr) := ⟨by rw [HN.out]; exact HK.out⟩
      gi_wp2_with fail
      go_end0
      exact ⟨⟨_, rfl⟩, HF.out⟩
end Go.Proofs.Ytnhkadknibinfaa
