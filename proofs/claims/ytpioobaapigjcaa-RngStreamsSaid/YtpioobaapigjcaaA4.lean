/- Walk of the examples of the chapter. -/
import Derived.Test.YtpioobaapigjcaaA3
namespace Go.Proofs.Ytpioobaapigjcaa
open Go.RowKit

theorem u_open {n : Int} (h : (Lit.int .u64 n).wf = true) : ∃ x : BitVec 64, Value.int .u64 n = u x := ⟨BitVec.ofInt 64 n, u_int h⟩

set_option maxRecDepth 100000 in
set_option maxHeartbeats 2000000 in
theorem awake_any (w : World) : Calls Try.prog 14 #[] w fun e w' => e = .returned (.bool true) ∧ Below w.heap.size w w' := by
  go_enter Try.func14, Try.ntmps14
  go_wp2_with fail
  refine (Below_yes 9223372036854775808#64 10 (by decide) (by decide) _).mono ?_
  rintro e w1 ⟨rfl, rfl⟩
  rw [show ((blw (9223372036854775808#64).toNat (Int.toNat 10) : Nat) : Int) = 5 from by decide]
  go_wp2_with fail
  refine (Below_yes 18446744073709551615#64 10 (by decide) (by decide) _).mono ?_
  rintro e w1 ⟨rfl, rfl⟩
  rw [show ((blw (18446744073709551615#64).toNat (Int.toNat 10) : Nat) : Int) = 9 from by decide]
  go_wp2_with fail
  refine (Range_yes 3 1 (by decide) (by decide) (by decide) _).mono ?_
  rintro e w1 ⟨rfl, rfl⟩
  rw [show rlo 3 1 = 6148914691236517206#64 from by decide, show rhi 3 1 = 12297829382473034410#64 from by decide]
  go_wp2_with fail
  refine (New_st 7#64 3 (by decide) (by decide) _).mono ?_
  rintro e w1 ⟨b, rfl, hb, hS, hB⟩
  have HS := Hd.mk hS
  clear hS
  go_wp2_with fail
  refine (Index_st HS.out).mono ?_
  rintro e w2 ⟨rfl, rfl⟩
  go_wp2_with fail
  refine (Next_st HS.out (by decide) (by decide)).mono ?_
  rintro e w2 ⟨rfl, hS, hg⟩
  have hB2 := hB.trans (below_grown hg hb hB.size)
  have HS2 := Hd.mk hS
  clear hS hg hB HS
  go_wp2_with fail
  refine (Value_yes 7#64 3 0 (by decide) (by decide) (by decide) (by decide) _).mono ?_
  rintro e w3 ⟨rfl, hB3⟩
  have HS3 := Hd.mk (HS2.out.below hB3 HS2.out.lt)
  have hB := hB2.trans (hB3.mono hB2.size)
  clear HS2 hB2 hB3
  go_wp2_with fail
  refine (Find_at 7#64 3 0 (by decide) (by decide) (by decide) (by decide) _).mono ?_
  rintro e w4 ⟨rfl, hB4⟩
  have HS4 := Hd.mk (HS3.out.below hB4 HS3.out.lt)
  have hB5 := hB.trans (hB4.mono hB.size)
  clear HS3 hB hB4
  go_wp2_with fail
  refine (Index_st HS4.out).mono ?_
  rintro e w5 ⟨rfl, rfl⟩
  go_wp2_with fail
  refine (Move_st HS4.out 281474976710657 (by decide) (by decide)).mono ?_
  rintro e w6 ⟨rfl, hS, hg⟩
  have HS6 := Hd.mk hS
  have hB6 := hB5.trans (below_grown hg hb hB5.size)
  clear hS hg HS4 hB5
  go_wp2_with fail
  refine (Next_st_full HS6.out (by decide)).mono ?_
  rintro e w7 ⟨rfl, hB7⟩
  have hB := hB6.trans (hB7.mono hB6.size)
  go_wp2_with fail
  go_ret
  exact ⟨rfl, hB⟩
end Go.Proofs.Ytpioobaapigjcaa
