/- Walks of the laws MixBack, MixFolds, MixWrong. -/
import Derived.Test.YtdgmbghbjpmiiaaM1
import Derived.OpenShut
namespace Go.Proofs.Ytdgmbghbjpmiiaa
open Go.RowKit

theorem u_open {n : Int} (h : (Lit.int .u64 n).wf = true) : ∃ x : BitVec 64, Value.int .u64 n = u x := by
  refine ⟨BitVec.ofInt 64 n, ?_⟩
  have hb := bounds_u64 h
  rw [u, BitVec.toNat_ofInt]
  congr 1
  omega

set_option maxHeartbeats 400000 in
theorem mixBack_walk (x y : BitVec 64) (w : World) :
    Calls Try.prog 7 #[u x, u y] w fun e w' => e = .returned (.bool true) ∧ Below w.heap.size w w' := by
  have h1 : ((mixV x == mixV y) == (x == y)) = true := by
    rw [beq_iff_eq, Bool.eq_iff_iff, beq_iff_eq, beq_iff_eq, mix_inj]
  have h2 : ((mixV x == 0#64) == (x == 0#64)) = true := by
    rw [beq_iff_eq, Bool.eq_iff_iff, beq_iff_eq, beq_iff_eq, mix_zero]
  go_enter Try.func7, Try.ntmps7
  go_wp2_with fail
  refine (mix_any _ _).mono ?_
  rintro e w1 ⟨rfl, rfl⟩
  go_wp2_with fail
  refine (mix_any _ _).mono ?_
  rintro e w1 ⟨rfl, rfl⟩
  go_wp2_with fail
  refine (unmix_any _ _).mono ?_
  rintro e w1 ⟨rfl, hb1⟩
  rw [unmix_mix]
  go_wp2_with fail
  refine (unmix_any _ _).mono ?_
  rintro e w2 ⟨rfl, hb2⟩
  have hB2 := hb1.trans (hb2.mono hb1.size)
  clear hb1 hb2
  go_wp2_with fail
  refine (mix_any _ _).mono ?_
  rintro e w3 ⟨rfl, rfl⟩
  rw [mix_unmix]
  go_wp2_with fail
  refine (awake_any _).mono ?_
  rintro e w4 ⟨rfl, hb4⟩
  have hB4 := hB2.trans (hb4.mono hB2.size)
  clear hB2 hb4
  go_wp2_with fail
  go_ret
  exact ⟨rfl, hB4⟩
end Go.Proofs.Ytdgmbghbjpmiiaa
