/- Times. -/
import Derived.Test.YtlblpmadehikgaaA8
namespace Go.Proofs.Ytlblpmadehikgaa
open Go.RowKit
set_option linter.unusedVariables false

theorem SrcE.takeA {enc : Int → Value} {w : World} {a : Option Addr} {n c : Nat} {l : List Int} (h : SrcE enc w (.slice a n c) l) (m : Nat) (hm : m ≤ l.length) : SrcE enc w (.slice a m c) (l.take m) := by
  rcases h with ⟨hv, rfl⟩ | ⟨ad', c', hv, hc, hmx, hcell⟩
  · simp at hv hm; obtain ⟨rfl, rfl, rfl⟩ := hv; subst hm; exact .inl ⟨rfl, by simp⟩
  · simp only [Value.slice.injEq] at hv
    obtain ⟨rfl, _, rfl⟩ := hv
    refine .inr ⟨ad', c, by rw [List.length_take, Nat.min_eq_left hm], by rw [List.length_take]; omega, hmx, fun j hj => ?_⟩
    rw [List.length_take] at hj
    rw [hcell j (by omega), List.getElem_take]
theorem SrcE.capE {enc : Int → Value} {w : World} {a : Option Addr} {n c : Nat} {l : List Int} (h : SrcE enc w (.slice a n c) l) : l.length = n ∧ n ≤ c ∧ c ≤ 9223372036854775807 := by
  rcases h with ⟨h, rfl⟩ | ⟨ad', c', hv, hc, hmx, hcell⟩
  · simp only [Value.slice.injEq] at h; obtain ⟨_, rfl, rfl⟩ := h; simp
  · simp only [Value.slice.injEq] at hv
    obtain ⟨_, rfl, rfl⟩ := hv
    simp only [maxLen] at hmx
    exact ⟨rfl, hc, by omega⟩
/-- What Times makes. -/
def timesV (l : List Int) : List Int := (l.take (min l.length 50)).map fun x => x % 281474976710657
theorem times_len (l : List Int) : (timesV l).length ≤ 50 := by rw [timesV, List.length_map, List.length_take]; omega
theorem times_right (l : List Int) : ∀ t ∈ timesV l, timeB t = true := by
  intro t ht
  obtain ⟨x, _, rfl⟩ := List.mem_map.1 ht
  rw [timeB, decide_eq_true (by omega), decide_eq_true (by omega)]; rfl

set_option maxRecDepth 100000 in
set_option maxHeartbeats 2000000 in
theorem times_any (v : Value) (l : List Int) (w : World) (hs : SrcE e64 w v l) (hb : ∀ x ∈ l, 0 ≤ x ∧ x < 18446744073709551616) : Calls Try.prog 11 #[v] w fun e w' => ∃ v', e = .returned v' ∧ AppI w' w.heap.size v' (timesV l) ∧ Below w.heap.size w w' := by
  obtain ⟨a, c, rfl⟩ := hs.shape
  have hcap := hs.capE
  obtain ⟨n, hn⟩ : ∃ m, min l.length 50 = m := ⟨_, rfl⟩
  have hmin : min (l.length : Int) 50 = (n : Int) := by omega
  have HT : Hd (timesV l = (l.take n).map fun x => x % 281474976710657) := ⟨by rw [timesV, hn]⟩
  have n0 : (0 : Int) ≤ (n : Int) := by omega
  have n1 : (n : Int) ≤ (c : Int) := by have := hcap.2.1; omega
  have n2 : n ≤ c := by omega
  have n50 : n ≤ 50 := by omega
  have FT := Hd.mk (hs.takeA n (by omega))
  have HTL : Hd ((l.take n).length = n) := ⟨by rw [List.length_take]; omega⟩
  have HBT : Hd (∀ x ∈ l.take n, 0 ≤ x ∧ x < 18446744073709551616) := ⟨fun x hx => hb x (List.mem_of_mem_take hx)⟩
  obtain ⟨X, hX⟩ : ∃ X, l.take n = X := ⟨_, rfl⟩
  rw [hX] at FT HTL HBT HT
  clear hs hcap hn hb hX
  go_enter Try.func11, Try.ntmps11
  go_wp2_with fail
  go_loopw [3, 12] (fun v i W => ∃ k : Nat, k ≤ n ∧ i = .int .i64 k ∧ AppI W w.heap.size v ((X.take k).map fun x => x % 281474976710657) ∧ Below w.heap.size w W) (fun _ i _ => n - (intOf i).toNat)
  case atStart => exact ⟨0, by omega, rfl, OwnE.nil _ _ _ _, Below.refl _ _⟩
  case round =>
    obtain ⟨k, hk, rfl, hO, hB⟩ := hrel
    by_cases hlt : k < n
    · have hkx : k < X.length := by rw [HTL.out]; exact hlt
      obtain ⟨b, off, rfl, hbb, hx⟩ := SrcE.at (FT.out.below hB) k hkx
      have hbx := HBT.out _ (List.getElem_mem hkx)
      have HN : Hd ((X.take (k + 1)).map (fun x => x % 281474976710657) = (X.take k).map (fun x => x % 281474976710657) ++ [X[k] % 281474976710657]) := ⟨by rw [List.take_succ_eq_append_getElem hkx, List.map_append]; rfl⟩
      obtain ⟨x, hX⟩ : ∃ x, X[k] = x := ⟨_, rfl⟩
      rw [hX] at hx hbx HN
      simp only [e64] at hx
      obtain ⟨m, hm⟩ : ∃ m, m = x % 281474976710657 := ⟨_, rfl⟩
      rw [← hm] at HN
      have x0 := hbx.1
      have x1 := hbx.2
      have r1 : Int.tmod x 281474976710657 = m := by rw [Int.tmod_eq_emod_of_nonneg x0]; omega
      have r2 : x % 281474976710657 = m := hm.symm
      have m0 : 0 ≤ m := by omega
      have m1 : m < 281474976710657 := by omega
      have w1 : IntKind.i64.wrap m = m := IntWalk.i64_in _ ⟨by omega, by omega⟩
      have k0 : (0 : Int) ≤ (k : Int) := by omega
      have k1 : (k : Int) < (n : Int) := by omega
      have HO := Hd.mk hO
      have HB := Hd.mk hB
      obtain ⟨v', w2, hr, ho2, hB2, hg2⟩ := push_i m hO hB hB.size (by rw [List.length_map, List.length_take]; omega)
      have HO2 := Hd.mk ho2
      have HB2 := Hd.mk hB2
      have HK := Hd.mk hlt
      clear hO hB ho2 hB2 hg2 hX hm hbx hbb hkx hlt hk
      go_wp2_with (at_builtin; refine wpList_append_run rfl _ _ _ rfl rfl rfl hr ?_; clear hr)
      go_roundw
      case rel => exact ⟨k + 1, HK.out, by go_num, by rw [HN.out]; exact HO2.out, HB2.out⟩
      case measure => have := HK.out; simp [intOf] <;> omega
    · obtain rfl : k = n := by omega
      have HO := Hd.mk hO
      clear hO
      go_wp2_with fail
      go_ret
      exact ⟨_, rfl, by rw [HT.out]; have := HO.out; rwa [List.take_of_length_le (by rw [HTL.out]; exact Nat.le_refl _)] at this, hB⟩
end Go.Proofs.Ytlblpmadehikgaa
