/- Walk of the reference's Read. -/
import Derived.Test.YtdgmbghbjpmiiaaR3
namespace Go.Proofs.Ytdgmbghbjpmiiaa
open Go.RowKit

/-- A digit's value, 0 for what is none. -/
def rd (c : Nat) : Int := if 97 ≤ c ∧ c ≤ 118 then (c : Int) - 87 else if 48 ≤ c ∧ c ≤ 57 then (c : Int) - 48 else 0

def refL : List UInt8 → BitVec 64 → BitVec 64
  | [], x => x
  | c :: l, x => refL l (x * 32#64 + BitVec.ofInt 64 (rd c.toNat))

theorem rd_dch (y : BitVec 64) : rd (dch y) = ((y.toNat % 32 : Nat) : Int) := by
  have h := Nat.mod_lt y.toNat (show 0 < 32 by decide)
  unfold dch rd
  split <;> (split <;> (try split) <;> omega)

theorem refL_dl (z : BitVec 64) (m : Nat) : refL (dl z m) (z >>> (5 * m)) = z := by
  induction m with
  | zero => simp [dl, refL]
  | succ m ih =>
    rw [dl, refL, dch_byte, rd_dch]
    have e : z >>> (5 * (m + 1)) * 32#64 + BitVec.ofInt 64 (((z >>> (5 * m)).toNat % 32 : Nat) : Int) = z >>> (5 * m) := by
      apply BitVec.eq_of_toNat_eq
      rw [show 5 * (m + 1) = 5 * m + 5 from rfl, BitVec.shiftRight_add, BitVec.toNat_add, BitVec.toNat_mul, shr_nat _ 5, BitVec.toNat_ofInt]
      have := (z >>> (5 * m)).isLt
      generalize (z >>> (5 * m)).toNat = n at this
      show (n / 2 ^ 5 * 32 % 2 ^ 64 + _) % 2 ^ 64 = n
      omega
    rw [e]; exact ih

theorem refL_text (z : BitVec 64) : refL ((textV z).data.toList.take 13) 0#64 = z := by
  rw [textV_dl, List.take_of_length_le (by rw [dl_length]; omega)]
  have := refL_dl z 13
  rwa [BitVec.ushiftRight_eq_zero (by omega)] at this

theorem ref_ok (s : ByteArray) : (∃ z, readV s = some z ∧ refL (s.data.toList.take 13) 0#64 = z ∧ (((textV (refL (s.data.toList.take 13) 0#64)).toList == s.toList) = true)) ∨
    (readV s = none ∧ (((textV (refL (s.data.toList.take 13) 0#64)).toList == s.toList) = false)) := by
  cases h : readV s with
  | some z =>
    have e := unread s z h
    have e2 : refL (s.data.toList.take 13) 0#64 = z := by rw [← e]; exact refL_text z
    exact .inl ⟨z, rfl, e2, by rw [e2, e]; simp⟩
  | none =>
    refine .inr ⟨rfl, ?_⟩
    rw [beq_eq_false_iff_ne]
    intro hc
    rw [Lib.toList_data, Lib.toList_data] at hc
    have e : textV (refL (s.data.toList.take 13) 0#64) = s := by rw [← Lib.mk_data (textV _), hc, Lib.mk_data]
    generalize refL (s.data.toList.take 13) 0#64 = z at e
    rw [← e, read_text] at h
    cases h

theorem take_drop_cons (s : ByteArray) (k : Nat) (h : k < s.size) (h13 : k < 13) : (s.data.toList.take 13).drop k = s[k] :: (s.data.toList.take 13).drop (k + 1) := by
  have hl : k < (s.data.toList.take 13).length := by simp; omega
  rw [List.drop_eq_getElem_cons hl]
  congr 1
  rw [List.getElem_take]; rfl

set_option maxHeartbeats 2000000 in
theorem refRead_any (s : ByteArray) (hs : s.size ≤ 4611686018427387904) (w : World) :
    Calls Try.prog 29 #[.string s] w fun e w' => e = .returned (.tuple #[u (readX s), .int .i64 (readE s)]) ∧ Below w.heap.size w w' := by
  have hok := ref_ok s
  have HOK := Hd.mk hok
  clear hok
  go_enter Try.func29, Try.ntmps29
  go_wp2_with fail
  go_loop [4, 5] (fun a i => ∃ (k : Nat) (y : BitVec 64), k ≤ s.size ∧ k ≤ 13 ∧ a = u y ∧ i = .int .i64 k ∧ Hd (refL ((s.data.toList.take 13).drop k) y = refL (s.data.toList.take 13) 0#64)) (fun _ i => 13 - (intOf i).toNat)
  case atStart => exact ⟨0, 0#64, by omega, by omega, rfl, rfl, ⟨by simp⟩⟩
  case round =>
    obtain ⟨k, y, hk, hk13, rfl, rfl, HH⟩ := hrel
    by_cases hlt : k < s.size
    · by_cases h13 : k < 13
      · have hstep := HH.out
        rw [take_drop_cons s k hlt h13, refL] at hstep
        have hc256 : s[k].toNat < 256 := s[k].toNat_lt
        by_cases a1 : 97 ≤ (s[k].toNat : Int)
        · by_cases a2 : (s[k].toNat : Int) ≤ 118
          · have b1 : 0 ≤ (s[k].toNat : Int) - 87 := by omega
            have b0 : 87 ≤ (s[k].toNat : Int) := by omega
            have b2 : (s[k].toNat : Int) - 87 < 18446744073709551616 := by omega
            have a3 : ¬ (s[k].toNat : Int) ≤ 57 := by omega
            have a4 : 48 ≤ (s[k].toNat : Int) := by omega
            rw [show rd s[k].toNat = (s[k].toNat : Int) - 87 from by rw [rd, if_pos (by omega)]] at hstep
            have HS := Hd.mk hstep
            clear hstep
            go_wp2_with fail
            go_round
            case rel => exact ⟨k + 1, _, by omega, by omega, rfl, by go_num, HS⟩
            case measure => simp [intOf]; omega
          · have a3 : ¬ (s[k].toNat : Int) ≤ 57 := by omega
            have a4 : 48 ≤ (s[k].toNat : Int) := by omega
            rw [show rd s[k].toNat = 0 from by rw [rd, if_neg (by omega), if_neg (by omega)], show y * 32#64 + BitVec.ofInt 64 0 = y * 32#64 from by simp] at hstep
            have HS := Hd.mk hstep
            clear hstep
            go_wp2_with fail
            go_round
            case rel => exact ⟨k + 1, _, by omega, by omega, rfl, by go_num, HS⟩
            case measure => simp [intOf]; omega
        · by_cases a2 : 48 ≤ (s[k].toNat : Int)
          · by_cases a3 : (s[k].toNat : Int) ≤ 57
            · have b1 : 0 ≤ (s[k].toNat : Int) - 48 := by omega
              have b2 : (s[k].toNat : Int) - 48 < 18446744073709551616 := by omega
              rw [show rd s[k].toNat = (s[k].toNat : Int) - 48 from by rw [rd, if_neg (by omega), if_pos (by omega)]] at hstep
              have HS := Hd.mk hstep
              clear hstep
              go_wp2_with fail
              go_round
              case rel => exact ⟨k + 1, _, by omega, by omega, rfl, by go_num, HS⟩
              case measure => simp [intOf]; omega
            · rw [show rd s[k].toNat = 0 from by rw [rd, if_neg (by omega), if_neg (by omega)], show y * 32#64 + BitVec.ofInt 64 0 = y * 32#64 from by simp] at hstep
              have HS := Hd.mk hstep
              clear hstep
              go_wp2_with fail
              go_round
              case rel => exact ⟨k + 1, _, by omega, by omega, rfl, by go_num, HS⟩
              case measure => simp [intOf]; omega
          · rw [show rd s[k].toNat = 0 from by rw [rd, if_neg (by omega), if_neg (by omega)], show y * 32#64 + BitVec.ofInt 64 0 = y * 32#64 from by simp] at hstep
            have HS := Hd.mk hstep
            clear hstep
            go_wp2_with fail
            go_round
            case rel => exact ⟨k + 1, _, by omega, by omega, rfl, by go_num, HS⟩
            case measure => simp [intOf]; omega
      · have hy := HH.out
        rw [List.drop_of_length_le (by simp; omega), refL] at hy
        subst hy
        go_wp2_with fail
        refine (refText_any _ _).mono ?_
        rintro e w1 ⟨rfl, hb⟩
        rcases HOK.out with ⟨z, h1, h2, h3⟩ | ⟨h1, h3⟩
        · obtain ⟨e1, e2⟩ := readE_some h1
          have E1 := Hd.mk e1; have E2 := Hd.mk e2; have H2 := Hd.mk h2; clear h1 h2 e1 e2
          go_wp2_with fail
          go_ret2
          exact ⟨by rw [E1.out, E2.out, ← H2.out]; rfl, hb⟩
        · obtain ⟨e1, e2⟩ := readE_none h1
          have E1 := Hd.mk e1; have E2 := Hd.mk e2; clear h1 e1 e2
          go_wp2_with fail
          go_ret2
          exact ⟨by rw [E1.out, E2.out]; rfl, hb⟩
    · have hy := HH.out
      rw [List.drop_of_length_le (by simp; omega), refL] at hy
      subst hy
      go_wp2_with fail
      refine (refText_any _ _).mono ?_
      rintro e w1 ⟨rfl, hb⟩
      rcases HOK.out with ⟨z, h1, h2, h3⟩ | ⟨h1, h3⟩
      · obtain ⟨e1, e2⟩ := readE_some h1
        have E1 := Hd.mk e1; have E2 := Hd.mk e2; have H2 := Hd.mk h2; clear h1 h2 e1 e2
        go_wp2_with fail
        go_ret2
        exact ⟨by rw [E1.out, E2.out, ← H2.out]; rfl, hb⟩
      · obtain ⟨e1, e2⟩ := readE_none h1
        have E1 := Hd.mk e1; have E2 := Hd.mk e2; clear h1 e1 e2
        go_wp2_with fail
        go_ret2
        exact ⟨by rw [E1.out, E2.out]; rfl, hb⟩
end Go.Proofs.Ytdgmbghbjpmiiaa
