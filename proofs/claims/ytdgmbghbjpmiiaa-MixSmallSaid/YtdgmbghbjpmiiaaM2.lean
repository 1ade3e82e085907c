/- The plain laws of texts. -/
import Derived.Test.YtdgmbghbjpmiiaaM1
import Derived.Lib.Strings
namespace Go.Proofs.Ytdgmbghbjpmiiaa

theorem dch_lt (y : BitVec 64) : dch y < 256 := by
  unfold dch; have := Nat.mod_lt y.toNat (show 0 < 32 by decide); split <;> omega
theorem dch_byte (y : BitVec 64) : (UInt8.ofNat (dch y)).toNat = dch y := by
  rw [UInt8.toNat_ofNat']; exact Nat.mod_eq_of_lt (dch_lt y)
theorem posV_dch (y : BitVec 64) : posV (dch y) = ((y.toNat % 32 : Nat) : Int) := by
  have h := Nat.mod_lt y.toNat (show 0 < 32 by decide)
  unfold dch posV
  split <;> (split <;> (try split) <;> omega)
theorem dch_of_posV (c : Nat) (y : BitVec 64) (h0 : 0 ≤ posV c) (h : posV c = ((y.toNat % 32 : Nat) : Int)) : dch y = c := by
  unfold posV at h h0
  unfold dch
  split at h
  · split <;> omega
  · split at h
    · split <;> omega
    · rename_i a b; rw [if_neg a, if_neg b] at h0; omega

/-- The digits below place m. -/
def dl (z : BitVec 64) : Nat → List UInt8
  | 0 => []
  | m + 1 => UInt8.ofNat (dch (z >>> (5 * m))) :: dl z m

theorem textV_dl (z : BitVec 64) : (textV z).data.toList = dl z 13 := by
  simp [textV, digs, dl]

theorem dl_length (z : BitVec 64) (m : Nat) : (dl z m).length = m := by
  induction m with
  | zero => rfl
  | succ m ih => simp [dl, ih]

theorem shift_in (y : BitVec 64) : (y >>> 5) <<< 5 ||| BitVec.ofInt 64 ((y.toNat % 32 : Nat) : Int) = y := by
  have h2 : BitVec.ofInt 64 ((y.toNat % 32 : Nat) : Int) = y &&& 31#64 := by
    apply BitVec.eq_of_toNat_eq
    rw [BitVec.toNat_ofInt, BitVec.toNat_and]
    have : y.toNat &&& (31#64).toNat = y.toNat % 32 := Nat.and_two_pow_sub_one_eq_mod _ 5
    rw [this]
    have := Nat.mod_lt y.toNat (show 0 < 32 by decide)
    omega
  rw [h2]
  ext i hi
  have e : (31#64).getLsbD i = decide (i < 5) := by
    have : ∀ i : Fin 64, (31#64).getLsbD i.1 = decide (i.1 < 5) := by decide
    exact this ⟨i, hi⟩
  by_cases h5 : i < 5
  · simp [h5, BitVec.getLsbD_eq_getElem hi] at e ⊢
    simp [e]
  · simp [h5, BitVec.getLsbD_eq_getElem hi] at e ⊢
    simp [e, show 5 + (i - 5) = i from by omega]
    exact BitVec.getLsbD_eq_getElem hi

theorem read_dl (z : BitVec 64) (m : Nat) (hm : m ≤ 13) : readL false (dl z m) (z >>> (5 * m)) = some z := by
  induction m with
  | zero => simp [dl, readL]
  | succ m ih =>
    rw [dl, readL, dch_byte, posV_dch, if_neg (by simp; omega)]
    have e : z >>> (5 * (m + 1)) = (z >>> (5 * m)) >>> 5 := by rw [← BitVec.shiftRight_add]; rfl
    rw [e, shift_in]
    exact ih (by omega)

theorem read_text (z : BitVec 64) : readV (textV z) = some z := by
  have hs : (textV z).size = 13 := by rw [Lib.size_eq, textV_dl, dl_length]
  rw [readV, if_pos hs, textV_dl, dl, readL, dch_byte, posV_dch]
  have hlt : (z >>> (5 * 12)).toNat < 16 := by
    rw [BitVec.toNat_ushiftRight, Nat.shiftRight_eq_div_pow]
    have := z.isLt
    omega
  rw [if_neg (by rintro (h | ⟨_, h⟩) <;> omega)]
  have e : (0#64 : BitVec 64) = (z >>> 60) >>> 5 := by
    rw [← BitVec.shiftRight_add, BitVec.ushiftRight_eq_zero (by omega)]
  rw [e, shift_in]
  exact read_dl z 12 (by omega)

theorem unread_aux (l : List UInt8) : ∀ (acc z : BitVec 64), readL false l acc = some z → 5 * l.length ≤ 64 → acc.toNat < 2 ^ (64 - 5 * l.length) →
    z >>> (5 * l.length) = acc ∧ l = dl z l.length := by
  induction l with
  | nil => intro acc z h _ _; simp [readL] at h; subst h; simp [dl]
  | cons c l ih =>
    intro acc z h hl hacc
    rw [readL] at h
    split at h
    · cases h
    · rename_i hd
      simp only [List.length_cons] at hl hacc ⊢
      have hp := posV_range c.toNat
      have hp0 : 0 ≤ posV c.toNat := by simp at hd; exact hd
      obtain ⟨d, hdd⟩ := Int.eq_ofNat_of_zero_le hp0
      have hd31 : d ≤ 31 := by omega
      have e : (acc <<< 5 ||| BitVec.ofInt 64 (posV c.toNat)).toNat = acc.toNat * 32 + d := by
        have h1 : acc.toNat < 2 ^ 59 := Nat.lt_of_lt_of_le hacc (Nat.pow_le_pow_right (by decide) (by omega))
        have h2 : (acc <<< 5).toNat = acc.toNat * 32 := by
          rw [BitVec.toNat_shiftLeft, Nat.shiftLeft_eq]; omega
        have h3 : (BitVec.ofInt 64 (posV c.toNat)).toNat = d := by rw [hdd, BitVec.toNat_ofInt]; omega
        rw [BitVec.toNat_or, h2, h3]
        have := Nat.two_pow_add_eq_or_of_lt (i := 5) (b := d) (by omega) acc.toNat
        rw [Nat.mul_comm acc.toNat 32]
        exact this.symm
      have hpow : 2 ^ (64 - 5 * l.length) = 2 ^ (64 - 5 * (l.length + 1)) * 32 := by
        rw [show 64 - 5 * l.length = (64 - 5 * (l.length + 1)) + 5 from by omega, Nat.pow_add]
      obtain ⟨i1, i2⟩ := ih _ z h (by omega) (by rw [e, hpow]; omega)
      have hm : (acc <<< 5 ||| BitVec.ofInt 64 (posV c.toNat)).toNat % 32 = d := by rw [e]; omega
      refine ⟨?_, ?_⟩
      · rw [show 5 * (l.length + 1) = 5 * l.length + 5 from rfl, BitVec.shiftRight_add, i1]
        apply BitVec.eq_of_toNat_eq
        rw [BitVec.toNat_ushiftRight, e, Nat.shiftRight_eq_div_pow]
        omega
      · rw [dl, ← i2, i1]
        congr 1
        rw [dch_of_posV c.toNat _ hp0 (by rw [hm, hdd])]
        simp

theorem unread (s : ByteArray) (z : BitVec 64) (h : readV s = some z) : textV z = s := by
  unfold readV at h
  split at h
  · rename_i hs
    rw [Lib.size_eq] at hs
    have hd : s.data.toList = dl z 13 := by
      revert h hs
      generalize s.data.toList = l
      intro hs h
      match l, hs with
      | c :: l, hs =>
        have hl : l.length = 12 := by simpa using hs
        rw [readL] at h
        split at h
        · cases h
        · rename_i hd
          simp only [not_or, not_and, Int.not_lt, true_implies] at hd
          obtain ⟨hp0, hp15⟩ := hd
          obtain ⟨d, hdd⟩ := Int.eq_ofNat_of_zero_le hp0
          have e : ((0#64 : BitVec 64) <<< 5 ||| BitVec.ofInt 64 (posV c.toNat)).toNat = d := by
            have h3 : (BitVec.ofInt 64 (posV c.toNat)).toNat = d := by rw [hdd, BitVec.toNat_ofInt]; omega
            simp [h3]
          obtain ⟨i1, i2⟩ := unread_aux l _ z h (by omega) (by rw [e, hl]; omega)
          rw [hl] at i1 i2
          rw [dl, ← i2, i1]
          congr 1
          rw [dch_of_posV c.toNat _ hp0 (by rw [e, hdd]; omega)]
          simp
    rw [← Lib.mk_data s, ← Lib.mk_data (textV z), textV_dl, hd]
  · cases h

theorem dch_mono (x y : BitVec 64) : (UInt8.ofNat (dch x) < UInt8.ofNat (dch y)) ↔ x.toNat % 32 < y.toNat % 32 := by
  rw [UInt8.lt_iff_toNat_lt, dch_byte, dch_byte]
  have := Nat.mod_lt x.toNat (show 0 < 32 by decide)
  have := Nat.mod_lt y.toNat (show 0 < 32 by decide)
  unfold dch; split <;> split <;> omega
theorem dch_inj (x y : BitVec 64) : (UInt8.ofNat (dch x) = UInt8.ofNat (dch y)) ↔ x.toNat % 32 = y.toNat % 32 := by
  rw [← UInt8.toNat_inj, dch_byte, dch_byte]
  have := Nat.mod_lt x.toNat (show 0 < 32 by decide)
  have := Nat.mod_lt y.toNat (show 0 < 32 by decide)
  unfold dch; split <;> split <;> omega

theorem less_dl (x y : BitVec 64) (m : Nat) : (x >>> (5 * m)) = (y >>> (5 * m)) → Op.bytesLess (dl x m) (dl y m) = x.ult y := by
  induction m with
  | zero => intro h; simp at h; subst h; simp [dl, Op.bytesLess, BitVec.ult]
  | succ m ih =>
    intro h
    have hx : (x >>> (5 * m)).toNat / 32 = (y >>> (5 * m)).toNat / 32 := by
      have h1 := congrArg BitVec.toNat h
      rw [show 5 * (m + 1) = 5 * m + 5 from rfl, BitVec.shiftRight_add, BitVec.shiftRight_add, BitVec.toNat_ushiftRight, BitVec.toNat_ushiftRight _ 5, Nat.shiftRight_eq_div_pow, Nat.shiftRight_eq_div_pow] at h1
      exact h1
    have hxd : (x >>> (5 * m)).toNat = x.toNat / 2 ^ (5 * m) := by rw [BitVec.toNat_ushiftRight, Nat.shiftRight_eq_div_pow]
    have hyd : (y >>> (5 * m)).toNat = y.toNat / 2 ^ (5 * m) := by rw [BitVec.toNat_ushiftRight, Nat.shiftRight_eq_div_pow]
    rw [dl, dl, Op.bytesLess]
    by_cases he : (x >>> (5 * m)).toNat % 32 = (y >>> (5 * m)).toNat % 32
    · have h1 : ¬ (UInt8.ofNat (dch (x >>> (5 * m))) < UInt8.ofNat (dch (y >>> (5 * m)))) := by rw [dch_mono]; omega
      rw [ih (BitVec.eq_of_toNat_eq (by omega))]
      simp [(dch_inj _ _).2 he]
    · have h2 : ¬ (UInt8.ofNat (dch (x >>> (5 * m))) = UInt8.ofNat (dch (y >>> (5 * m)))) := by rw [dch_inj]; exact he
      simp only [beq_eq_false_iff_ne.2 h2, Bool.false_and, Bool.or_false]
      rw [BitVec.ult, decide_eq_decide, dch_mono]
      constructor
      · intro hlt
        have h3 : x.toNat / 2 ^ (5 * m) < y.toNat / 2 ^ (5 * m) := by omega
        exact Nat.lt_of_not_le fun hc => absurd (Nat.div_le_div_right (c := 2 ^ (5 * m)) hc) (by omega)
      · intro hlt
        have h3 : x.toNat / 2 ^ (5 * m) ≤ y.toNat / 2 ^ (5 * m) := Nat.div_le_div_right (by omega)
        omega

theorem less_text (x y : BitVec 64) : Op.bytesLess (textV x).toList (textV y).toList = x.ult y := by
  rw [Lib.toList_data, Lib.toList_data, textV_dl, textV_dl]
  exact less_dl x y 13 (by rw [BitVec.ushiftRight_eq_zero (by omega), BitVec.ushiftRight_eq_zero (by omega)])

theorem eq_text (x y : BitVec 64) : ((textV x).toList == (textV y).toList) = (x == y) := by
  rw [Bool.eq_iff_iff, beq_iff_eq, beq_iff_eq]
  refine ⟨fun h => ?_, fun h => by rw [h]⟩
  rw [Lib.toList_data, Lib.toList_data] at h
  have e : textV x = textV y := by rw [← Lib.mk_data (textV x), ← Lib.mk_data (textV y), h]
  have := read_text x
  rw [e, read_text y] at this
  exact (Option.some.inj this).symm
theorem size_text (x : BitVec 64) : (textV x).size = 13 := by rw [Lib.size_eq, textV_dl, dl_length]
end Go.Proofs.Ytdgmbghbjpmiiaa
