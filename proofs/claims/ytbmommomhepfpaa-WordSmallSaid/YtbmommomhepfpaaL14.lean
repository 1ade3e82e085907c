/- Walk of the law WordSmall. -/
import Derived.Test.YtbmommomhepfpaaR19
import Derived.Test.YtbmommomhepfpaaL12
namespace Go.Proofs.Ytbmommomhepfpaa
open Go.RowKit
set_option linter.unusedVariables false

def smallC : Array Value := #[.int .i64 (-3), .int .i64 (-2), .int .i64 (-1), .int .i64 0, .int .i64 1, .int .i64 2, .int .i64 3, .int .i64 63, .int .i64 64, .int .i64 2147483647, .int .i64 2147483648, .int .i64 4294967296, .int .i64 (-4294967296), .int .i64 4611686018427387903, .int .i64 4611686018427387904, .int .i64 (-4611686018427387904), .int .i64 9223372036854775806, .int .i64 9223372036854775807, .int .i64 (-9223372036854775808), .int .i64 (-9223372036854775807)]
theorem smallC_at (k : Nat) (h : k < 20) : ∃ x, smallC[k]? = some (s x) := by
  have hk : k = 0 ∨ k = 1 ∨ k = 2 ∨ k = 3 ∨ k = 4 ∨ k = 5 ∨ k = 6 ∨ k = 7 ∨ k = 8 ∨ k = 9 ∨ k = 10 ∨ k = 11 ∨ k = 12 ∨ k = 13 ∨ k = 14 ∨ k = 15 ∨ k = 16 ∨ k = 17 ∨ k = 18 ∨ k = 19 := by omega
  rcases hk with rfl | rfl | rfl | rfl | rfl | rfl | rfl | rfl | rfl | rfl | rfl | rfl | rfl | rfl | rfl | rfl | rfl | rfl | rfl | rfl <;> exact ⟨_, congrArg some (s_ofInt_int _ (by decide) (by decide))⟩
def noneC : Array Value := #[.string ⟨#[]⟩, .string ⟨#[65, 100, 100]⟩, .string ⟨#[97, 100]⟩, .string ⟨#[97, 100, 100, 115]⟩, .string ⟨#[32, 97, 100, 100]⟩, .string ⟨#[109, 97, 120, 10]⟩, .string ⟨#[110, 111, 110, 101]⟩]
theorem fst_none (N : ByteArray) (h : ∀ j : Fin 18, 1 ≤ j.val → ((nameV j.val).data.toList == N.data.toList) = false) : Fst N 18 :=
  ⟨by omega, by omega, fun j h1 h2 => by rw [ByteArray.toList_eq, ByteArray.toList_eq]; exact h ⟨j, h2⟩ h1, fun h => by omega⟩
theorem noneC_at (k : Nat) (h : k < 7) : ∃ N, noneC[k]? = some (.string N) ∧ Fst N 18 := by
  have hk : k = 0 ∨ k = 1 ∨ k = 2 ∨ k = 3 ∨ k = 4 ∨ k = 5 ∨ k = 6 := by omega
  rcases hk with rfl | rfl | rfl | rfl | rfl | rfl | rfl <;> exact ⟨_, rfl, fst_none _ (by decide +kernel)⟩
theorem names_apart : ∀ k : Fin 18, 1 ≤ k.val → ∀ j : Fin 18, 1 ≤ j.val → j.val < k.val → ((nameV j.val).data.toList == (nameV k.val).data.toList) = false := by decide +kernel
theorem names_full : ∀ k : Fin 18, 1 ≤ k.val → ((nameV k.val).data.toList == []) = false := by decide +kernel
theorem name_is (k : Nat) (h1 : 1 ≤ k) (h2 : k ≤ 17) : Fst (NameV k) k ∧ (NameV k).toList.isEmpty = false ∧ ¬ (NameV k).toList = [] := by
  have e : NameV (k : Int) = nameV k := by rw [NameV, if_neg (by omega)]
  have hf := names_full ⟨k, by omega⟩ h1
  have hn : ¬ (nameV k).toList = [] := by rw [ByteArray.toList_eq]; intro h; simp [h] at hf
  rw [e]
  refine ⟨⟨h1, by omega, fun j a b => ?_, fun _ => by simp⟩, by simpa using hn, hn⟩
  rw [ByteArray.toList_eq, ByteArray.toList_eq]
  exact names_apart ⟨k, by omega⟩ h1 ⟨j, by omega⟩ a b
theorem name_not (k : Nat) (h : k = 0 ∨ 17 < k) : NameV k = ⟨#[]⟩ ∧ Fst (⟨#[]⟩ : ByteArray) 18 := by
  refine ⟨?_, fst_none _ (fun j hj => names_full j hj)⟩
  rcases h with rfl | h
  · decide
  · rw [NameV, if_pos (by omega)]

set_option maxRecDepth 100000 in
set_option maxHeartbeats 8000000 in
theorem wordSmall_walk (w : World) : Calls Try.prog 13 #[] w fun e w' => e = .returned (.bool true) ∧ Below w.heap.size w w' := by
  go_enter Try.func13, Try.ntmps13
  go_wp2_with fail
  obtain ⟨w1, hw1⟩ : ∃ w1, w1 = w.alloc (.cells smallC 2) := ⟨_, rfl⟩
  have hz1 : w1.heap.size = w.heap.size + 1 := by rw [hw1]; simp
  have HC : Hd (∀ k, k < 20 → ∃ x, w1.cell? ⟨w.heap.size, k, none⟩ = some (s x)) := ⟨fun k hk => by
    obtain ⟨x, hx⟩ := smallC_at k hk
    exact ⟨x, by rw [hw1, cells_cell (World.alloc_heap_new w _)]; exact hx⟩⟩
  have HB1 : Hd (Below w.heap.size w w1) := ⟨by rw [hw1]; exact (Below.refl _ _).alloc (Nat.le_refl _) _⟩
  have hw1' : w.alloc (.cells #[.int .i64 (-3), .int .i64 (-2), .int .i64 (-1), .int .i64 0, .int .i64 1, .int .i64 2, .int .i64 3, .int .i64 63, .int .i64 64, .int .i64 2147483647, .int .i64 2147483648, .int .i64 4294967296, .int .i64 (-4294967296), .int .i64 4611686018427387903, .int .i64 4611686018427387904, .int .i64 (-4611686018427387904), .int .i64 9223372036854775806, .int .i64 9223372036854775807, .int .i64 (-9223372036854775808), .int .i64 (-9223372036854775807)] 2) = w1 := hw1.symm
  have HZ := Hd.mk hz1
  rw [hw1']
  clear hw1 hw1' hz1
  go_loopw [18] (fun i W => ∃ k : Nat, k ≤ 20 ∧ i = .int .i64 k ∧ Below w1.heap.size w1 W) (fun i _ => 20 - (intOf i).toNat)
  case atStart => exact ⟨0, by omega, rfl, Below.refl _ _⟩
  case round =>
    obtain ⟨k, hk, rfl, hB⟩ := hrel
    by_cases hlt : k < 20
    · have hdk : decide ((k : Int) < 20) = true := by simp; omega
      obtain ⟨x, hx⟩ := HC.out k hlt
      have hxw : wr.cell? ⟨w.heap.size, k, none⟩ = some (s x) := by rw [hB.cell (p := ⟨w.heap.size, k, none⟩) (by rw [HZ.out]; exact Nat.lt_succ_self _)]; exact hx
      clear hx
      go_wp2_with fail
      clear hxw
      obtain ⟨wo, hwo⟩ : ∃ wo : World, wo = wr := ⟨_, rfl⟩
      rw [← hwo] at hB ⊢
      clear hwo
      go_loopw [24] (fun i W => ∃ j : Nat, j ≤ 20 ∧ i = .int .i64 j ∧ Below w1.heap.size w1 W) (fun i _ => 20 - (intOf i).toNat)
      case atStart => exact ⟨0, by omega, rfl, hB⟩
      case round =>
        obtain ⟨j, hj, rfl, hB2⟩ := hrel
        by_cases hlt2 : j < 20
        · have hdj : decide ((j : Int) < 20) = true := by simp; omega
          obtain ⟨y, hy⟩ := HC.out j hlt2
          have hyw : wr.cell? ⟨w.heap.size, j, none⟩ = some (s y) := by rw [hB2.cell (p := ⟨w.heap.size, j, none⟩) (by rw [HZ.out]; exact Nat.lt_succ_self _)]; exact hy
          clear hy
          go_wp2_with fail
          refine (wides_any x y _).mono ?_
          rintro e w2 ⟨rfl, hb2⟩
          have hB3 := ch4 hB2 hb2
          clear hyw hb2
          go_wp2_with fail
          obtain ⟨wo2, hwo2⟩ : ∃ wo : World, wo = w2 := ⟨_, rfl⟩
          rw [← hwo2] at hB3 ⊢
          clear hwo2
          go_loopw [32] (fun i W => ∃ m : Nat, m ≤ 19 ∧ i = .int .u8 m ∧ Below w1.heap.size w1 W) (fun i _ => 19 - (intOf i).toNat)
          case atStart => exact ⟨0, by omega, rfl, hB3⟩
          case round =>
            obtain ⟨m, hm, rfl, hB4⟩ := hrel
            by_cases hlt3 : m < 19
            · go_wp2_with fail
              refine (tells_any m (by omega) (by omega) x y _).mono ?_
              rintro e w3 ⟨rfl, hb3⟩
              have hB5 := ch4 hB4 hb3
              clear hb3
              go_wp2_with fail
              go_roundw
              case rel => exact ⟨m + 1, by omega, by go_num, hB5⟩
              case measure => simp [intOf]; omega
            · go_wp2_with fail
              go_roundw
              case rel => exact ⟨j + 1, by omega, by go_num, hB4⟩
              case measure => simp [intOf]; omega
        · go_wp2_with fail
          go_roundw
          case rel => exact ⟨k + 1, by omega, by go_num, hB2⟩
          case measure => simp [intOf]; omega
    · have hB0 := ch4 HB1.out hB
      clear hB HC HB1 HZ
      go_wp2_with fail
      go_loopw [43] (fun i W => ∃ k : Nat, k ≤ 256 ∧ i = .int .i64 k ∧ Below w.heap.size w W) (fun i _ => 256 - (intOf i).toNat)
      case atStart => exact ⟨0, by omega, rfl, hB0⟩
      case round =>
        obtain ⟨k, hk, rfl, hB⟩ := hrel
        by_cases hlt : k < 256
        · by_cases hin : 1 ≤ k ∧ k ≤ 17
          · obtain ⟨hF, hne⟩ := name_is k hin.1 hin.2
            obtain ⟨nm, hnm⟩ : ∃ n, NameV (k : Int) = n := ⟨_, rfl⟩
            rw [hnm] at hF hne
            have HNM := Hd.mk hnm
            have HF := Hd.mk hF
            have HNE := Hd.mk hne
            clear hnm
            have HR : Hd (findR k = .returned (.tuple #[.int .u8 k, .bool true])) := ⟨by rw [findR, if_pos (by omega)]⟩
            obtain ⟨hk1, hk2⟩ := hin
            clear hF hne
            go_wp2_with fail
            refine (name_any k (by omega) (by omega) _).mono ?_
            rintro e w2 ⟨rfl, hb2⟩
            rw [HNM.out]
            go_wp2_with fail
            refine (find_any nm k HF.out _).mono ?_
            rintro e w3 ⟨rfl, hb3⟩
            rw [HR.out]
            go_wp2_with fail
            refine (refName_any k (by omega) (by omega) _).mono ?_
            rintro e w4 ⟨rfl, hb4⟩
            rw [HNM.out]
            have hB5 := ch4 (ch4 (ch4 hB hb2) hb3) hb4
            obtain ⟨hne1, hne2⟩ := HNE.out
            clear hb2 hb3 hb4
            go_wp2_with fail
            go_roundw
            case rel => exact ⟨k + 1, by omega, by go_num, hB5⟩
            case measure => simp [intOf]; omega
          · obtain ⟨hN, hF⟩ := name_not k (by omega)
            have HF := Hd.mk hF
            have HN := Hd.mk hN
            have HR : Hd (findR 18 = .returned (.tuple #[.int .u8 0, .bool false])) := ⟨rfl⟩
            clear hF hN hin
            go_wp2_with fail
            refine (name_any k (by omega) (by omega) _).mono ?_
            rintro e w2 ⟨rfl, hb2⟩
            rw [HN.out]
            go_wp2_with fail
            refine (find_any ⟨#[]⟩ 18 HF.out _).mono ?_
            rintro e w3 ⟨rfl, hb3⟩
            rw [HR.out]
            go_wp2_with fail
            refine (refName_any k (by omega) (by omega) _).mono ?_
            rintro e w4 ⟨rfl, hb4⟩
            rw [HN.out]
            have hB5 := ch4 (ch4 (ch4 hB hb2) hb3) hb4
            clear hb2 hb3 hb4
            go_wp2_with fail
            go_roundw
            case rel => exact ⟨k + 1, by omega, by go_num, hB5⟩
            case measure => simp [intOf]; omega
        · go_wp2_with fail
          obtain ⟨w2, hw2⟩ : ∃ w2, w2 = wr.alloc (.cells noneC 9) := ⟨_, rfl⟩
          have hz2 : w2.heap.size = wr.heap.size + 1 := by rw [hw2]; simp
          have HC : Hd (∀ k, k < 7 → ∃ N, w2.cell? ⟨wr.heap.size, k, none⟩ = some (.string N) ∧ Fst N 18) := ⟨fun k hk => by
            obtain ⟨x, hx, hF⟩ := noneC_at k hk
            exact ⟨x, by rw [hw2, cells_cell (World.alloc_heap_new wr _)]; exact hx, hF⟩⟩
          have HB2 : Hd (Below w.heap.size w w2) := ⟨by rw [hw2]; exact hB.alloc hB.size _⟩
          have hw2' : wr.alloc (.cells #[.string ⟨#[]⟩, .string ⟨#[65, 100, 100]⟩, .string ⟨#[97, 100]⟩, .string ⟨#[97, 100, 100, 115]⟩, .string ⟨#[32, 97, 100, 100]⟩, .string ⟨#[109, 97, 120, 10]⟩, .string ⟨#[110, 111, 110, 101]⟩] 9) = w2 := hw2.symm
          have HZ := Hd.mk hz2
          rw [hw2']
          clear hw2 hw2' hz2 hB
          obtain ⟨wb, hwb⟩ : ∃ wb : World, wb = wr := ⟨_, rfl⟩
          rw [← hwb] at HC HZ ⊢
          clear hwb
          go_loopw [77] (fun i W => ∃ k : Nat, k ≤ 7 ∧ i = .int .i64 k ∧ Below w2.heap.size w2 W) (fun i _ => 7 - (intOf i).toNat)
          case atStart => exact ⟨0, by omega, rfl, Below.refl _ _⟩
          case round =>
            obtain ⟨k, hk, rfl, hB⟩ := hrel
            by_cases hlt : k < 7
            · obtain ⟨N, hx, hF⟩ := HC.out k hlt
              have HF := Hd.mk hF
              have hxw : wr.cell? ⟨wb.heap.size, k, none⟩ = some (.string N) := by rw [hB.cell (p := ⟨wb.heap.size, k, none⟩) (by rw [HZ.out]; exact Nat.lt_succ_self _)]; exact hx
              have HR : Hd (findR 18 = .returned (.tuple #[.int .u8 0, .bool false])) := ⟨rfl⟩
              clear hx hF
              go_wp2_with fail
              refine (find_any N 18 HF.out _).mono ?_
              rintro e w3 ⟨rfl, hb3⟩
              rw [HR.out]
              have hB5 := ch4 hB hb3
              clear hb3 hxw
              go_wp2_with fail
              go_roundw
              case rel => exact ⟨k + 1, by omega, by go_num, hB5⟩
              case measure => simp [intOf]; omega
            · have hB5 := ch4 HB2.out hB
              go_wp2_with fail
              refine (awake_any _).mono ?_
              rintro e w3 ⟨rfl, hb3⟩
              go_wp2_with fail
              go_ret
              exact ⟨rfl, ch4 hB5 hb3⟩
end Go.Proofs.Ytbmommomhepfpaa
