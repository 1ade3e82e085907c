/- Walk of the law WordFolds. -/
import Derived.Test.YtbmommomhepfpaaR19
import Derived.Test.YtbmommomhepfpaaL12
import Derived.Test.YtbmommomhepfpaaL9
namespace Go.Proofs.Ytbmommomhepfpaa
open Go.RowKit
set_option linter.unusedVariables false

set_option maxRecDepth 100000 in
set_option maxHeartbeats 2000000 in
theorem wordFolds_long (op : Int) (a : Option Addr) (n c : Nat) (N : ByteArray) (w : World) (hn : 20 < n) (hb : n ≤ 9223372036854775807) :
    Calls Try.prog 12 #[.int .u8 op, .slice a n c, .string N] w fun e w' => e = .returned (.bool true) ∧ Below w.heap.size w w' := by
  go_enter Try.func12, Try.ntmps12
  go_wp2_with fail
  refine (awake_any _).mono ?_
  rintro e w2 ⟨rfl, hb2⟩
  go_wp2_with fail
  go_ret
  exact ⟨rfl, hb2⟩

set_option maxRecDepth 100000 in
set_option maxHeartbeats 2000000 in
theorem wordFolds_name (op : Int) (a : Option Addr) (n c : Nat) (N : ByteArray) (w : World) (hn : n ≤ 20) (hN : 100 < N.size) (hb : N.size ≤ 9223372036854775807) :
    Calls Try.prog 12 #[.int .u8 op, .slice a n c, .string N] w fun e w' => e = .returned (.bool true) ∧ Below w.heap.size w w' := by
  go_enter Try.func12, Try.ntmps12
  go_wp2_with fail
  refine (awake_any _).mono ?_
  rintro e w2 ⟨rfl, hb2⟩
  go_wp2_with fail
  go_ret
  exact ⟨rfl, hb2⟩

set_option maxRecDepth 100000 in
set_option maxHeartbeats 8000000 in
theorem wordFolds_short (op : Int) (h0 : 0 ≤ op) (h1 : op ≤ 255) (a : Option Addr) (c : Nat) (xs : List (BitVec 64)) (N : ByteArray) (w : World) (hs : SrcE s w (.slice a xs.length c) xs) (hlen : xs.length ≤ 20) (hN : N.size ≤ 100) :
    Calls Try.prog 12 #[.int .u8 op, .slice a xs.length c, .string N] w fun e w' => e = .returned (.bool true) ∧ Below w.heap.size w w' := by
  obtain ⟨K, hK⟩ := fst_ex N
  have HK := Hd.mk hK
  obtain ⟨v1, w1, hr1, ho1, hB1⟩ := append_new_s hs (by omega)
  have hB1s := hs.below hB1
  have hs1 := ho1.src
  obtain ⟨a1, c1, rfl⟩ := hs1.shape
  have HS1 := Hd.mk hs1
  have HO1 := Hd.mk ho1
  have HB1 := Hd.mk hB1
  have HS := Hd.mk hB1s
  clear hs hs1 hK ho1 hB1 hB1s
  go_enter Try.func12, Try.ntmps12
  go_wp2_with (at_builtin; refine wpList_append_run rfl _ _ _ rfl rfl rfl hr1 ?_; clear hr1)
  refine (fold_any op h0 h1 _ xs _ HS1.out (by omega)).mono ?_
  rintro e w2 ⟨rfl, hb2⟩
  have HB2 := Hd.mk hb2
  clear hb2
  go_wp2_with fail
  refine (refFold_any op h0 h1 _ xs _ (HS.out.below HB2.out) (by omega)).mono ?_
  rintro e w3 ⟨rfl, hb3⟩
  have HB3 := Hd.mk hb3
  clear hb3
  go_wp2_with fail
  refine (find_any N K HK.out _).mono ?_
  rintro e w4 ⟨rfl, hb4⟩
  have HB4 := Hd.mk hb4
  clear hb4
  by_cases hK18 : K < 18
  all_goals
    have HF := Hd.mk (rfl : findR K = findR K)
    first
    | (have e1 : findR K = .returned (.tuple #[.int .u8 K, .bool true]) := by rw [findR, if_pos hK18])
    | (have e1 : findR K = .returned (.tuple #[.int .u8 0, .bool false]) := by rw [findR, if_neg hK18])
    have HE1 := Hd.mk e1
    rw [e1]
    clear e1
    go_wp2_with fail
    refine (refFind_any N K HK.out _).mono ?_
    rintro e w5 ⟨rfl, hb5⟩
    rw [HE1.out]
    have HB5 := Hd.mk (ch4 (ch4 (ch4 HB2.out HB3.out) HB4.out) hb5)
    have ho2 := HO1.out.below HB5.out
    have hs2 := HS.out.below HB5.out
    have hB2 := ch4 HB1.out HB5.out
    clear hb5
    go_wp2_with fail
    go_loopw [53] (fun i W => ∃ k : Nat, k ≤ xs.length ∧ i = .int .i64 k ∧ OwnE s W w.heap.size 2 (.slice a1 xs.length c1) xs ∧ SrcE s W (.slice a xs.length c) xs ∧ Below w.heap.size w W) (fun i _ => xs.length - (intOf i).toNat)
    case atStart => exact ⟨0, by omega, rfl, ho2, hs2, hB2⟩
    case round =>
      obtain ⟨k, hk, rfl, ho, hs, hB⟩ := hrel
      by_cases hlt : k < xs.length
      · obtain ⟨b, off, rfl, _, hcb⟩ := hs.at k hlt
        obtain ⟨g, o2, rfl, _, hcg⟩ := ho.src.at k hlt
        clear ho2 hs2
        go_wp2_with fail
        go_quiet (fail)
        go_wp2_with fail
        go_roundw
        case rel => exact ⟨k + 1, by omega, by go_num, ho.below ⟨rfl, rfl, rfl, Nat.le_refl _, fun _ _ => rfl⟩, hs.below ⟨rfl, rfl, rfl, Nat.le_refl _, fun _ _ => rfl⟩, below_drewN hB _⟩
        case measure => simp [intOf]; omega
      · clear ho2 hs2 ho hs
        go_wp2_with fail
        refine (awake_any _).mono ?_
        rintro e w6 ⟨rfl, hb6⟩
        go_wp2_with fail
        go_ret
        exact ⟨rfl, hB.trans (hb6.mono hB.size)⟩
end Go.Proofs.Ytbmommomhepfpaa
