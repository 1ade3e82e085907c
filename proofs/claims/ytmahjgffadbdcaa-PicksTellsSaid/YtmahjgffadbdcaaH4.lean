/- The law PicksTells: its walk. -/
import Derived.Test.YtmahjgffadbdcaaH3
namespace Go.Proofs.Ytmahjgffadbdcaa
open Go.RowKit
set_option linter.unusedVariables false

set_option maxRecDepth 100000 in
set_option maxHeartbeats 8000000 in
theorem tells_law (v pv : Value) (l m : List Int) (r : Int) (w : World) (h : SrcI w v l) (hp : SrcI w pv m) (hb0 : -9223372036854775808 ≤ r) (hb : r ≤ 9223372036854775807) :
    Calls Try.prog 5 #[v, pv, .int .i64 r] w fun e w' => e = .returned (.bool true) ∧ Below w.heap.size w w' := by
  have hsm := h.small
  have hsm2 := hp.small
  have FL := Hd.mk h
  have FM := Hd.mk hp
  have HB0 := Hd.mk hb0
  have HB1 := Hd.mk hb
  obtain ⟨a0, c0, rfl⟩ := h.shape
  obtain ⟨a2, c2, rfl⟩ := hp.shape
  clear h hp hb0 hb
  by_cases h1 : 20 < l.length
  · have i1 : (20 : Int) < (l.length : Int) := by omega
    go_enter Try.func5, Try.ntmps5
    go_wp2_with fail
    refine (awake_any _).mono ?_
    rintro e w1 ⟨rfl, hB⟩
    have HB := Hd.mk hB
    clear hB
    go_wp2_with fail
    go_ret
    exact ⟨rfl, HB.out⟩
  have j1 : (l.length : Int) ≤ 20 := by omega
  by_cases h2 : 20 < m.length
  · have i1 : (20 : Int) < (m.length : Int) := by omega
    go_enter Try.func5, Try.ntmps5
    go_wp2_with fail
    refine (awake_any _).mono ?_
    rintro e w1 ⟨rfl, hB⟩
    have HB := Hd.mk hB
    clear hB
    go_wp2_with fail
    go_ret
    exact ⟨rfl, HB.out⟩
  have j2 : (m.length : Int) ≤ 20 := by omega
  go_enter Try.func5, Try.ntmps5
  go_wp2_with fail
  refine (tells_any _ _ l m r _ FL.out FM.out (by omega) HB0.out HB1.out).mono ?_
  rintro e w1 ⟨rfl, hB⟩
  have HB := Hd.mk hB
  clear hB
  go_wp2_with fail
  refine (awake_any _).mono ?_
  rintro e w2 ⟨rfl, hB⟩
  have HB2 := Hd.mk (ch4 HB.out hB)
  clear hB
  go_wp2_with fail
  go_ret
  exact ⟨rfl, HB2.out⟩
end Go.Proofs.Ytmahjgffadbdcaa
