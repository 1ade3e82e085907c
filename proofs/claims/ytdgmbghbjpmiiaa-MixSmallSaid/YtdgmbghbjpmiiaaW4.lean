/- Walks of strings.IndexByte at the alphabet, and of mix.Read. -/
import Derived.Test.YtdgmbghbjpmiiaaW3
import Derived.Lib.Bytealg
namespace Go.Proofs.Ytdgmbghbjpmiiaa
open Go.RowKit

/-- The value of a digit, -1 for what is none. -/
def posV (c : Nat) : Int := if 48 ≤ c ∧ c ≤ 57 then (c : Int) - 48 else if 97 ≤ c ∧ c ≤ 118 then (c : Int) - 87 else -1

theorem posV_index : ∀ c, c < 256 → Lib.indexByte [48, 49, 50, 51, 52, 53, 54, 55, 56, 57, 97, 98, 99, 100, 101, 102, 103, 104, 105, 106, 107, 108, 109, 110, 111, 112, 113, 114, 115, 116, 117, 118] c.toUInt8 = posV c := by
  decide +kernel

theorem posV_range (c : Nat) : -1 ≤ posV c ∧ posV c ≤ 31 := by unfold posV; split <;> (try split) <;> omega

set_option maxHeartbeats 400000 in
theorem idx_any (c : Nat) (h : c < 256) (w : World) :
    Calls Try.prog 34 #[.string { data := #[48, 49, 50, 51, 52, 53, 54, 55, 56, 57, 97, 98, 99, 100, 101, 102, 103, 104, 105, 106, 107, 108, 109, 110, 111, 112, 113, 114, 115, 116, 117, 118] }, .int .u8 c] w fun e w' => e = .returned (.int .i64 (posV c)) ∧ w = w' := by
  have hx := Lib.run_indexByteString (P := Try.prog) { data := #[48, 49, 50, 51, 52, 53, 54, 55, 56, 57, 97, 98, 99, 100, 101, 102, 103, 104, 105, 106, 107, 108, 109, 110, 111, 112, 113, 114, 115, 116, 117, 118] } (c : Int) w
  rw [show ((c : Int).toNat.toUInt8) = c.toUInt8 from rfl, posV_index c h] at hx
  have hcall := run_callFunc_extern (P := Try.prog) Try.func39 (by kernel_rfl) (by kernel_rfl) (by kernel_rfl) (e := Extern.BytealgIndexByte.indexByte) (by kernel_rfl) #[.string { data := #[48, 49, 50, 51, 52, 53, 54, 55, 56, 57, 97, 98, 99, 100, 101, 102, 103, 104, 105, 106, 107, 108, 109, 110, 111, 112, 113, 114, 115, 116, 117, 118] }, .int .u8 c] w
  rw [hx] at hcall
  clear hx
  go_enter Try.func34, Try.ntmps34
  go_wp2
  go_ret
  exact ⟨rfl, rfl⟩

/-- Reading digits from the first of some bytes on; 'first' says that no byte was read before. -/
def readL : Bool → List UInt8 → BitVec 64 → Option (BitVec 64)
  | _, [], x => some x
  | first, c :: l, x => if posV c.toNat < 0 ∨ first = true ∧ 15 < posV c.toNat then none else readL false l (x <<< 5 ||| BitVec.ofInt 64 (posV c.toNat))

def readV (s : ByteArray) : Option (BitVec 64) := if s.size = 13 then readL true s.data.toList 0#64 else none
def readX (s : ByteArray) : BitVec 64 := (readV s).getD 0#64
def readE (s : ByteArray) : Int := if (readV s).isSome then 0 else 50

theorem readE_none {s : ByteArray} (h : readV s = none) : readX s = 0#64 ∧ readE s = 50 := by simp [readX, readE, h]
theorem readE_some {s : ByteArray} {x : BitVec 64} (h : readV s = some x) : readX s = x ∧ readE s = 0 := by simp [readX, readE, h]

theorem drop_cons (s : ByteArray) (k : Nat) (h : k < s.size) : s.data.toList.drop k = s[k] :: s.data.toList.drop (k + 1) := by
  have hl : k < s.data.toList.length := by simpa using h
  rw [List.drop_eq_getElem_cons hl]; rfl

set_option maxHeartbeats 1000000 in
theorem read_any (s : ByteArray) (hs : s.size ≤ 4611686018427387904) (w : World) :
    Calls Try.prog 23 #[.string s] w fun e w' => e = .returned (.tuple #[u (readX s), .int .i64 (readE s)]) ∧ w = w' := by
  by_cases h13 : s.size = 13
  · have hne : ((s.size : Int) != 13) = false := by rw [h13]; rfl
    have hfin : ∀ x, readL true s.data.toList 0#64 = some x → readX s = x ∧ readE s = 0 := fun x h => readE_some (by rw [readV, if_pos h13, h])
    have hnone : readL true s.data.toList 0#64 = none → readX s = 0#64 ∧ readE s = 50 := fun h => readE_none (by rw [readV, if_pos h13, h])
    have Hfin := Hd.mk hfin
    have Hnone := Hd.mk hnone
    have H13 := Hd.mk h13
    have hlt13 : s.size ≤ 13 := by omega
    clear hfin hnone h13
    go_enter Try.func23, Try.ntmps23
    go_wp2_with fail
    go_loop [4, 12] (fun a i => ∃ (k : Nat) (y : BitVec 64), k ≤ s.size ∧ a = u y ∧ i = .int .i64 k ∧ Hd (readL (decide (k = 0)) (s.data.toList.drop k) y = readL true s.data.toList 0#64)) (fun _ i => s.size - (intOf i).toNat)
    case atStart => exact ⟨0, 0#64, by omega, rfl, rfl, ⟨by simp⟩⟩
    case round =>
      obtain ⟨k, y, hk, rfl, rfl, HH⟩ := hrel
      by_cases hlt : k < s.size
      · have hb : s[k].toNat < 256 := s[k].toNat_lt
        have hstep := HH.out
        rw [drop_cons s k hlt, readL] at hstep
        have hr := posV_range s[k].toNat
        have HS := Hd.mk hstep
        clear hstep
        generalize hp : posV s[k].toNat = p at hr HS
        have HP := Hd.mk hp
        clear hp
        by_cases hneg : p < 0
        · go_wp2_with (go_at_call 34; refine (idx_any _ hb _).mono ?_; rintro e w' ⟨rfl, rfl⟩; rw [HP.out])
          go_ret2
          have := HS.out
          rw [if_pos (.inl hneg)] at this
          obtain ⟨e1, e2⟩ := Hnone.out this.symm
          exact ⟨by rw [e1, e2]; rfl, rfl⟩
        · have hp0 : 0 ≤ p := by omega
          have hp1 : p < 18446744073709551616 := by omega
          by_cases h0 : k = 0
          · by_cases h15 : 15 < p
            · subst h0
              go_wp2_with (go_at_call 34; refine (idx_any _ hb _).mono ?_; rintro e w' ⟨rfl, rfl⟩; rw [HP.out])
              go_ret2
              have := HS.out
              rw [if_pos (.inr ⟨by simp, h15⟩)] at this
              obtain ⟨e1, e2⟩ := Hnone.out this.symm
              exact ⟨by rw [e1, e2]; rfl, rfl⟩
            · subst h0
              go_wp2_with (go_at_call 34; refine (idx_any _ hb _).mono ?_; rintro e w' ⟨rfl, rfl⟩; rw [HP.out])
              go_round
              case rel => exact ⟨1, _, by omega, rfl, by go_num, ⟨by have := HS.out; rw [if_neg (by omega)] at this; exact this⟩⟩
              case measure => simp [intOf]; omega
          · have hk0 : ((k : Int) == 0) = false := beq_eq_false_iff_ne.2 (by omega)
            go_wp2_with (go_at_call 34; refine (idx_any _ hb _).mono ?_; rintro e w' ⟨rfl, rfl⟩; rw [HP.out])
            go_round
            case rel => exact ⟨k + 1, _, by omega, rfl, by go_num, ⟨by have := HS.out; rw [if_neg (by simp [h0]; omega)] at this; simpa using this⟩⟩
            case measure => simp [intOf]; omega
      · go_wp2_with fail
        go_ret2
        have := HH.out
        rw [List.drop_of_length_le (by simp; omega)] at this
        obtain ⟨e1, e2⟩ := Hfin.out y this.symm
        exact ⟨by rw [e1, e2]; rfl, rfl⟩
  · have hne : ((s.size : Int) != 13) = true := by rw [bne_iff_ne]; omega
    obtain ⟨e1, e2⟩ := readE_none (s := s) (by rw [readV, if_neg h13])
    have E1 := Hd.mk e1
    have E2 := Hd.mk e2
    clear e1 e2
    go_enter Try.func23, Try.ntmps23
    go_wp2_with fail
    go_ret2
    exact ⟨by rw [E1.out, E2.out]; rfl, rfl⟩
end Go.Proofs.Ytdgmbghbjpmiiaa
