/- Walk of the reference's Join. -/
import Derived.Test.YtdgmbghbjpmiiaaR4
namespace Go.Proofs.Ytdgmbghbjpmiiaa
open Go.RowKit

theorem joinV_last (xs : List (BitVec 64)) (n : Nat) (h : xs.length = n + 1) : joinV xs = joinStep (joinV (xs.take n)) (xs[n]'(by omega)) := by
  rw [joinV_snoc xs n (by omega), List.take_of_length_le (by omega)]

set_option maxHeartbeats 400000 in
theorem refJoin_empty (a : Option Addr) (c : Nat) (w : World) :
    Calls Try.prog 16 #[.slice a 0 c] w fun e w' => e = .returned (u 0#64) ∧ w' = w := by
  go_enter Try.func16, Try.ntmps16
  go_wp2_with fail
  go_ret
  exact ⟨rfl, rfl⟩

set_option maxHeartbeats 1000000 in
theorem refJoin_any (b off cap : Nat) (n : Nat) : ∀ (xs : List (BitVec 64)) (w : World), xs.length = n → n ≤ cap → n ≤ 4611686018427387904 →
    (∀ j (h : j < xs.length), w.cell? ⟨b, off + j, none⟩ = some (u xs[j])) →
    Calls Try.prog 16 #[.slice (some ⟨b, off, none⟩) n cap] w fun e w' => e = .returned (u (joinV xs)) ∧ ∃ m, w' = w.drewN m := by
  induction n with
  | zero =>
    intro xs w hl hc _ _
    obtain rfl : xs = [] := List.length_eq_zero_iff.1 hl
    exact (refJoin_empty _ _ w).mono fun e w' ⟨he, hw⟩ => ⟨he, 0, hw⟩
  | succ n ih =>
    intro xs w hl hcap hbig hc
    have hne : (((n + 1 : Nat) : Int) == 0) = false := beq_eq_false_iff_ne.2 (by omega)
    have hm : ((n + 1 : Nat) : Int) - 1 = (n : Int) := by omega
    have hcn : w.cell? ⟨b, off + n, none⟩ = some (u (xs[n]'(by omega))) := hc n (by omega)
    have ih' : ∀ k, Calls Try.prog 16 #[.slice (some ⟨b, off, none⟩) n cap] (w.drewN k) fun e w' => e = .returned (u (joinV (xs.take n))) ∧ ∃ m, w' = (w.drewN k).drewN m :=
      fun k => ih (xs.take n) (w.drewN k) (by simp; omega) (by omega) (by omega) (fun j h => by
        have hj : j < n := by simp at h; omega
        rw [List.getElem_take]
        exact hc j (by omega))
    have IH := Hd.mk ih'
    have hjj := joinV_last xs n hl
    generalize xs[n]'(by omega) = z at hcn hjj
    have hj := Hd.mk hjj
    have hlt : (n : Int) < ((n + 1 : Nat) : Int) := by omega
    clear ih ih' hc hl hjj
    go_enter Try.func16, Try.ntmps16
    go_wp2_with fail
    go_quiet ((first | (go_at_call 16; exact Calls.quiet_of (IH.out _)) | (go_at_call 26; exact Calls.quiet_of_same ((refMix_any _ _).mono fun _ _ ⟨he, hw⟩ => ⟨he, hw.symm⟩))))
    go_wp2_with fail
    go_ret
    exact ⟨ret_u (by rw [hj.out]; rfl), nq, rfl⟩
end Go.Proofs.Ytdgmbghbjpmiiaa
