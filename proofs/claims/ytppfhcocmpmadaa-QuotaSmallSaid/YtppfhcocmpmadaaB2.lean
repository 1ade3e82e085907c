/- Walks of quota.Back, Room, Limit, New, Name. -/
import Derived.Test.YtppfhcocmpmadaaB1
import Derived.Test.YtppfhcocmpmadaaA7
namespace Go.Proofs.Ytppfhcocmpmadaa
open Go.RowKit
set_option linter.unusedVariables false

/-- The charges that take others back. -/
def backV (cs : List (Int × Int)) : List (Int × Int) := cs.reverse.map fun x => (x.1, -x.2)
theorem backV_len (cs : List (Int × Int)) : (backV cs).length = cs.length := by simp [backV]
theorem backV_get (cs : List (Int × Int)) (k : Nat) (h : k < cs.length) : (backV cs)[k]'(by rw [backV_len]; exact h) = (cs[cs.length - 1 - k].1, -cs[cs.length - 1 - k].2) := by
  simp [backV]
theorem backV_take (cs : List (Int × Int)) (k : Nat) (h : k < cs.length) : (backV cs).take k ++ [(cs[cs.length - 1 - k].1, -cs[cs.length - 1 - k].2)] = (backV cs).take (k + 1) := by
  rw [List.take_succ_eq_append_getElem (by rw [backV_len]; exact h), backV_get cs k h]

set_option maxRecDepth 100000 in
set_option maxHeartbeats 1000000 in
theorem back_no (v : Value) (cs : List (Int × Int)) (w : World) (hs : SrcC w v cs) (hc : ¬ chkV cs = 0) : Calls Try.prog 20 #[v] w fun e w' => e = .returned (.tuple #[.slice none 0 0, .int .i64 (chkV cs)]) ∧ Below w.heap.size w w' := by
  have HS := Hd.mk hs
  obtain ⟨n, hn⟩ : ∃ n, chkV cs = n := ⟨_, rfl⟩
  rw [hn] at hc ⊢
  have HN := Hd.mk hn
  clear hs hn
  go_enter Try.func20, Try.ntmps20
  go_wp2_with fail
  refine (check_src v cs _ HS.out).mono ?_
  rintro e w1 ⟨rfl, hB⟩
  rw [HN.out]
  go_wp2_with fail
  go_ret2
  exact ⟨rfl, hB⟩

set_option maxRecDepth 100000 in
set_option maxHeartbeats 400000 in
theorem back_yes (v : Value) (cs : List (Int × Int)) (w : World) (hs : SrcC w v cs) (hc : chkV cs = 0) : Calls Try.prog 20 #[v] w fun e w' => ∃ v', e = .returned (.tuple #[v', .int .i64 0]) ∧ OwnC w' w.heap.size 32 v' (backV cs) ∧ Below w.heap.size w w' := by
  obtain ⟨hlen, hok⟩ := chk_ok hc
  obtain ⟨a, c, rfl⟩ := hs.shape
  have HS := Hd.mk hs
  have HC := Hd.mk hc
  have HOK := Hd.mk hok
  clear hs hc hok
  go_enter Try.func20, Try.ntmps20
  go_wp2_with fail
  refine (check_src _ cs _ HS.out).mono ?_
  rintro e w1 ⟨rfl, hB1⟩
  rw [HC.out]
  go_wp2_with fail
  go_loopw [5, 15] (fun v i W => ∃ k : Nat, k ≤ cs.length ∧ i = .int .i64 k ∧ OwnC W w.heap.size 32 v ((backV cs).take k) ∧ Below w.heap.size w W) (fun _ i _ => cs.length - (intOf i).toNat)
  case atStart => exact ⟨0, by omega, rfl, OwnC.nil _ _ _, hB1⟩
  case round =>
    obtain ⟨k, hk, rfl, ho, hB⟩ := hrel
    by_cases hlt : k < cs.length
    · obtain ⟨j, hj⟩ : ∃ j, j = cs.length - 1 - k := ⟨_, rfl⟩
      have hjl : j < cs.length := by omega
      have hji : (cs.length : Int) - 1 - (k : Int) = (j : Int) := by omega
      obtain ⟨b, off, rfl, hb, hc1, hc2⟩ := (HS.out.below hB).at j hjl
      have hx := (okC_iff cs[j]).1 (HOK.out _ (List.getElem_mem hjl))
      have HT := Hd.mk (backV_take cs k hlt)
      obtain ⟨q, hq⟩ : ∃ q, cs[j].1 = q := ⟨_, rfl⟩
      obtain ⟨m, hm⟩ : ∃ m, cs[j].2 = m := ⟨_, rfl⟩
      have ht : (backV cs).take k ++ [(q, -m)] = (backV cs).take (k + 1) := by rw [← HT.out, ← hq, ← hm]; subst hj; rfl
      rw [hq] at hc1
      rw [hm] at hc2 hx
      obtain ⟨v', w', hr, ho', hB'⟩ := app1c q (-m) (ho.alloc (.cells #[.int .i64 q, .int .i64 m] 32)) (hB.alloc hB.size (.cells #[.int .i64 q, .int .i64 m] 32)) (by have := hB.size; simp; omega) (by rw [List.length_take, backV_len]; omega)
      rw [ht] at ho'
      rw [World.size_alloc] at hr
      have HO := Hd.mk ho'
      have hx1 := hx.2.2.1
      have hx2 := hx.2.2.2
      have hw1 : IntKind.i64.wrap (-m) = -m := IntWalk.i64_in _ ⟨by omega, by omega⟩
      clear hx hq hm ht ho ho' HT hj
      go_wp2_with (at_builtin; refine wpList_append_run rfl _ _ _ rfl rfl rfl hr ?_; clear hr)
      go_roundw
      case rel => exact ⟨k + 1, by omega, by go_num, HO.out, hB'⟩
      case measure => simp [intOf]; omega
    · obtain rfl : k = cs.length := by omega
      have ho2 : OwnC wr w.heap.size 32 u5 (backV cs) := by
        have e : (backV cs).take cs.length = backV cs := List.take_of_length_le (by rw [backV_len]; exact Nat.le_refl _)
        rw [e] at ho; exact ho
      have HO := Hd.mk ho2
      clear ho ho2
      go_wp2_with fail
      go_ret2
      exact ⟨_, rfl, HO.out, hB⟩
end Go.Proofs.Ytppfhcocmpmadaa
