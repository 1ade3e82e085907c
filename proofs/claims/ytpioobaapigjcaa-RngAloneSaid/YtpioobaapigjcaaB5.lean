/- Walk of the law RngAlone. -/
import Derived.Test.YtpioobaapigjcaaA4
import Derived.Laws.Small
namespace Go.Proofs.Ytpioobaapigjcaa
open Go.RowKit
set_option linter.unusedVariables false

/-- An int64 as a value, laid open. -/
@[reducible] def si (x : BitVec 64) : Value := .int .i64 x.toInt

theorem from_num (i : BitVec 64) : ∃ a : Int, 0 ≤ a ∧ a ≤ 281474976710605 ∧ IntKind.i64.wrap (nv (i % 281474976710606#64)) = a := by
  have h : (i % 281474976710606#64).toNat < 281474976710606 := by rw [BitVec.toNat_umod]; exact Nat.mod_lt _ (by decide)
  refine ⟨((i % 281474976710606#64).toNat : Int), by omega, by omega, ?_⟩
  rw [nv, wrap_i64_toInt, BitVec.toInt_ofInt, Int.bmod_eq_of_le (by omega) (by omega)]

theorem st_ne {w : World} {b c : Nat} {k : BitVec 64} {n : Int} (h : St w b k n) (hc : w.heap.size ≤ c) : b ≠ c := by have := h.lt; omega

/-- What stands at a round's head: one stream is k further than a, the other one somewhere. -/
structure AL (w : World) (b t : Nat) (key : BitVec 64) (v : Value) (xs : List (BitVec 64)) (a : Int) (W : World) : Prop where
  sb : St W b key a
  st : ∃ n, St W t key n
  src : SrcE si W v xs
  bel : Below w.heap.size w W
theorem AL.below {w W W1 : World} {b t : Nat} {key : BitVec 64} {v : Value} {xs : List (BitVec 64)} {a : Int} (h : AL w b t key v xs a W) (hB : Below W.heap.size W W1) : AL w b t key v xs a W1 :=
  ⟨h.sb.below hB h.sb.lt, h.st.elim fun n hn => ⟨n, hn.below hB hn.lt⟩, h.src.below hB, h.bel.trans (hB.mono h.bel.size)⟩
theorem src_grown {w W W1 : World} {v : Value} {xs : List (BitVec 64)} (h : SrcE si w v xs) (hB : Below w.heap.size w W1) : SrcE si W1 v xs := h.below hB
theorem AL.stepB {w W W1 : World} {b t : Nat} {key : BitVec 64} {v : Value} {xs : List (BitVec 64)} {a a' : Int} (h : AL w b t key v xs a W) (h0 : SrcE si w v xs) (hb : w.heap.size ≤ b) (hbt : b ≠ t) (hS : St W1 b key a') (hg : W.grownBy W1 (some b)) : AL w b t key v xs a' W1 :=
  ⟨hS, h.st.elim fun n hn => ⟨n, hn.grown hg hbt.symm⟩, h0.below (h.bel.trans (below_grown hg hb h.bel.size)), h.bel.trans (below_grown hg hb h.bel.size)⟩
theorem AL.stepT {w W W1 : World} {b t : Nat} {key : BitVec 64} {v : Value} {xs : List (BitVec 64)} {a n : Int} (h : AL w b t key v xs a W) (h0 : SrcE si w v xs) (ht : w.heap.size ≤ t) (hbt : b ≠ t) (hS : St W1 t key n) (hg : W.grownBy W1 (some t)) : AL w b t key v xs a W1 :=
  ⟨h.sb.grown hg hbt, ⟨n, hS⟩, h0.below (h.bel.trans (below_grown hg ht h.bel.size)), h.bel.trans (below_grown hg ht h.bel.size)⟩
theorem el_bounds (x : BitVec 64) : -9223372036854775808 ≤ x.toInt ∧ x.toInt ≤ 9223372036854775807 := by
  have h1 := BitVec.toInt_lt (x := x)
  have h2 := BitVec.le_toInt (x := x)
  omega

set_option maxRecDepth 100000 in
set_option maxHeartbeats 4000000 in
theorem rngAlone_aux (seed at' : BitVec 64) (p a : Int) (p0 : 0 ≤ p) (p1 : p ≤ 65535) (a0 : 0 ≤ a) (a1 : a ≤ 281474976710605) (ha : IntKind.i64.wrap (nv (at' % 281474976710606#64)) = a)
    (ad : Option Addr) (n c m : Nat) (xs : List (BitVec 64)) (w : World) (hs : SrcE si w (.slice ad m c) xs) (hm : xs.length = m) (hmin : (if (50 : Int) < (n : Int) then 50 else (n : Int)) = (m : Int)) (m50 : m ≤ 50) (hmn : m ≤ n) (hmc : m ≤ c) (hn : (n : Int) ≤ 9223372036854775807) :
    Calls Try.prog 10 #[u seed, .int .u16 p, u at', .slice ad n c] w fun e w' => e = .returned (.bool true) ∧ Below w.heap.size w w' := by
  have HS := Hd.mk hs
  have HM := Hd.mk hm
  clear hs hm
  go_enter Try.func10, Try.ntmps10
  go_wp2_with fail
  refine (New_st seed p p0 (by omega) _).mono ?_
  rintro e w1 ⟨b, rfl, hb, hS, hB⟩
  have HSb := Hd.mk hS
  clear hS
  go_wp2_with fail
  refine (New_st seed p p0 (by omega) _).mono ?_
  rintro e w2 ⟨t, rfl, ht, hT, hB2⟩
  have hbt : b ≠ t := by have := HSb.out.lt; omega
  have htw : w.heap.size ≤ t := by have := hB.size; omega
  have HSb2 := Hd.mk (HSb.out.below hB2 HSb.out.lt)
  have hB3 := hB.trans (hB2.mono hB.size)
  have HT := Hd.mk hT
  have hbtI : (b == t) = false := beq_eq_false_iff_ne.2 hbt
  have HBT := Hd.mk hbt
  clear hB hB2 hT HSb ht hbt hbtI
  go_wp2_with fail
  refine (Move_st HSb2.out a a0 (by omega)).mono ?_
  rintro e w3 ⟨rfl, hS, hg⟩
  have HT3 := Hd.mk (HT.out.grown hg HBT.out.symm)
  have hB := hB3.trans (below_grown hg hb hB3.size)
  have HS3 := Hd.mk hS
  clear hB3 HSb2 HT hg hS
  go_wp2_with fail
  have hAL : AL w b t (keyV seed p) (.slice ad m c) xs a w3 := ⟨HS3.out, ⟨_, HT3.out⟩, HS.out.below hB, hB⟩
  have hbw : w.heap.size ≤ b := hb
  clear HS3 HT3 hB hb hmin ha
  go_loopw [69] (fun i W => ∃ k : Nat, k ≤ m ∧ i = .int .i64 k ∧ AL w b t (keyV seed p) (.slice ad m c) xs (a + (k : Int)) W) (fun i _ => m - (intOf i).toNat)
  case atStart => exact ⟨0, by omega, rfl, by simpa using hAL⟩
  case round =>
    obtain ⟨k, hk, rfl, hL⟩ := hrel
    by_cases hlt : k < m
    · skip
      have hkm : k < xs.length := by have := HM.out; omega
      obtain ⟨b', off', hbo, _, hck⟩ := hL.src.at k hkm
      subst hbo
      obtain ⟨N, hN⟩ : ∃ N, (xs[k]).toInt = N := ⟨_, rfl⟩
      have hNb := el_bounds xs[k]
      rw [hN] at hNb
      obtain ⟨hN1, hN2⟩ := hNb
      rw [show si xs[k] = .int .i64 N from by rw [si, hN]] at hck
      clear hN
      obtain ⟨M, hM⟩ : ∃ M : Int, (if N < 1 then 1 else N) = M := ⟨_, rfl⟩
      have hM1 : 1 ≤ M := by rw [← hM]; split <;> omega
      have hM2 : M ≤ 9223372036854775807 := by rw [← hM]; split <;> omega
      have ak0 : 0 ≤ a + (k : Int) := by omega
      have HL := Hd.mk hL
      clear hL
      go_wp2_with fail
      refine (DrawS_yes HL.out.sb ak0 (by omega) M hM1 hM2).mono ?_
      rintro e w11 ⟨rfl, hS, hg⟩
      have HL11 := Hd.mk (HL.out.stepB HS.out hbw HBT.out hS hg)
      clear hS hg HL
      go_wp2_with fail
      refine (Draw_yes seed p (a + (k : Int)) M p0 (by omega) ak0 (by omega) hM1 hM2 _).mono ?_
      rintro e w12 ⟨rfl, hB'⟩
      have HL12 := Hd.mk (HL11.out.below hB')
      clear hB' HL11
      go_wp2_with fail
      refine (HL12.out.st.elim fun n hn => (Move_st hn (a + (k : Int)) ak0 (by omega)).mono fun e W' h => h).mono ?_
      rintro e w13 ⟨rfl, hS, hg⟩
      have HL13 := Hd.mk (HL12.out.stepT HS.out htw HBT.out hS hg)
      have HT := Hd.mk hS
      clear hS hg HL12
      go_wp2_with fail
      refine (DrawS_yes HT.out ak0 (by omega) M hM1 hM2).mono ?_
      rintro e w14 ⟨rfl, hS, hg⟩
      have HL14 := Hd.mk (HL13.out.stepT HS.out htw HBT.out hS hg)
      clear hS hg HL13 HT
      go_wp2_with fail
      refine (Index_st HL14.out.sb).mono ?_
      rintro e w15 ⟨rfl, rfl⟩
      go_wp2_with fail
      go_roundw
      case rel => exact ⟨k + 1, by omega, by go_num, by have := HL14.out; rw [show a + ((k + 1 : Nat) : Int) = a + (k : Int) + 1 from by omega]; exact this⟩
      case measure => simp [intOf]; omega
    · obtain rfl : k = m := by omega
      have HL := Hd.mk hL
      clear hL
      go_wp2_with fail
      refine (Move_st HL.out.sb a a0 (by omega)).mono ?_
      rintro e w4 ⟨rfl, hS, hg⟩
      have hAL4 := HL.out.stepB HS.out hbw HBT.out hS hg
      clear hS hg HL
      go_wp2_with fail
      obtain ⟨W4, hW4⟩ : ∃ W, W = w4 := ⟨_, rfl⟩
      rw [← hW4] at hAL4 ⊢
      clear hW4
      go_loopw [138] (fun i W => ∃ j : Nat, j ≤ k ∧ i = .int .i64 j ∧ AL w b t (keyV seed p) (.slice ad k c) xs (a + (j : Int)) W) (fun i _ => k - (intOf i).toNat)
      case atStart => exact ⟨0, by omega, rfl, by simpa using hAL4⟩
      case round =>
        obtain ⟨j, hj, rfl, hL⟩ := hrel
        clear hAL hAL4
        by_cases hlt2 : j < k
        · skip
          have hkm : j < xs.length := by have := HM.out; omega
          obtain ⟨b', off', hbo, _, hck⟩ := hL.src.at j hkm
          subst hbo
          obtain ⟨N, hN⟩ : ∃ N, (xs[j]).toInt = N := ⟨_, rfl⟩
          have hNb := el_bounds xs[j]
          rw [hN] at hNb
          obtain ⟨hN1, hN2⟩ := hNb
          rw [show si xs[j] = .int .i64 N from by rw [si, hN]] at hck
          clear hN
          obtain ⟨M, hM⟩ : ∃ M : Int, (if N < 1 then 1 else N) = M := ⟨_, rfl⟩
          have hM1 : 1 ≤ M := by rw [← hM]; split <;> omega
          have hM2 : M ≤ 9223372036854775807 := by rw [← hM]; split <;> omega
          have ak0 : 0 ≤ a + (j : Int) := by omega
          have HL := Hd.mk hL
          clear hL
          go_wp2_with fail
          refine (DrawS_yes HL.out.sb ak0 (by omega) M hM1 hM2).mono ?_
          rintro e w11 ⟨rfl, hS, hg⟩
          have HL11 := Hd.mk (HL.out.stepB HS.out hbw HBT.out hS hg)
          clear hS hg HL
          go_wp2_with fail
          refine (Draw_yes seed p (a + (j : Int)) M p0 (by omega) ak0 (by omega) hM1 hM2 _).mono ?_
          rintro e w12 ⟨rfl, hB'⟩
          have HL12 := Hd.mk (HL11.out.below hB')
          clear hB' HL11
          go_wp2_with fail
          go_roundw
          case rel => exact ⟨j + 1, by omega, by go_num, by have := HL12.out; rw [show a + ((j + 1 : Nat) : Int) = a + (j : Int) + 1 from by omega]; exact this⟩
          case measure => simp [intOf]; omega
        · have hB := hL.bel
          clear hL
          go_wp2_with fail
          refine (awake_any _).mono ?_
          rintro e w6 ⟨rfl, hB6⟩
          have hB7 := hB.trans (hB6.mono hB.size)
          go_wp2_with fail
          go_ret
          exact ⟨rfl, hB7⟩

theorem si_int {n : Int} (h : (Lit.int .i64 n).wf = true) : Value.int .i64 n = si (BitVec.ofInt 64 n) := by
  have hb := bounds_i64 h
  rw [si, BitVec.toInt_ofInt, Int.bmod_eq_of_le (by omega) (by omega)]

theorem pre_src {w : World} {ad : Option Addr} {n c m : Nat} {ys : List (BitVec 64)} (h : SrcE si w (.slice ad n c) ys) (hm : m ≤ ys.length) : SrcE si w (.slice ad m c) (ys.take m) := by
  rcases h with ⟨hv, rfl⟩ | ⟨x, c', hv, hc, hmx, hcell⟩
  · obtain ⟨rfl, rfl, rfl⟩ := by simpa using hv
    obtain rfl : m = 0 := by simpa using hm
    exact .inl ⟨rfl, rfl⟩
  · obtain ⟨rfl, rfl, rfl⟩ := by simpa using hv
    refine .inr ⟨x, c, by rw [List.length_take, Nat.min_eq_left hm], by rw [List.length_take]; omega, hmx, fun j hj => ?_⟩
    rw [List.length_take] at hj
    rw [hcell j (by omega)]
    simp

theorem rngAlone_walk (seed at' : BitVec 64) (p : Int) (p0 : 0 ≤ p) (p1 : p ≤ 65535) (ad : Option Addr) (n c : Nat) (ys : List (BitVec 64)) (w : World) (hs : SrcE si w (.slice ad n c) ys) (hn : ys.length = n) :
    Calls Try.prog 10 #[u seed, .int .u16 p, u at', .slice ad n c] w fun e w' => e = .returned (.bool true) ∧ Below w.heap.size w w' := by
  obtain ⟨a, a0, a1, ha⟩ := from_num at'
  have hsm := hs.small
  have hnc : n ≤ c := by
    rcases hs with ⟨hv, rfl⟩ | ⟨x, c', hv, hc, _, _⟩
    · simp at hn; omega
    · simp only [Value.slice.injEq] at hv; omega
  exact rngAlone_aux seed at' p a p0 p1 a0 a1 ha ad n c (min n 50) (ys.take (min n 50)) w (pre_src hs (by omega)) (by rw [List.length_take]; omega) (by split <;> omega) (by omega) (by omega) (by omega) (by omega)
end Go.Proofs.Ytpioobaapigjcaa
