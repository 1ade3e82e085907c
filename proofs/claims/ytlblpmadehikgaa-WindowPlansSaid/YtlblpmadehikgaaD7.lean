/- The law WindowPlans: its walk. -/
import Derived.Test.YtlblpmadehikgaaE7
namespace Go.Proofs.Ytlblpmadehikgaa
open Go.RowKit Go.Shelf
set_option linter.unusedVariables false

set_option maxRecDepth 100000 in
set_option maxHeartbeats 2000000 in
theorem plans_law (v : Value) (l : List Int) (ah h : Int) (w : World) (hs : SrcI w v l) : Calls Try.prog 6 #[v, .int .i64 ah, .int .i64 h] w fun e w' => e = .returned (.bool true) ∧ Below w.heap.size w w' := by
  have hsm := hs.small
  have HS := Hd.mk hs
  obtain ⟨a, c, rfl⟩ := hs.shape
  clear hs
  by_cases h1 : 60 < l.length
  · by_cases h2 : l.length ≤ 4096
    · have i1 : (60 : Int) < (l.length : Int) := by omega
      have i2 : (l.length : Int) ≤ 4096 := by omega
      go_enter Try.func6, Try.ntmps6
      go_wp2_with fail
      refine (awake_any _).mono ?_
      rintro e w1 ⟨rfl, hB⟩
      have HB := Hd.mk hB
      clear hB
      go_wp2_with fail
      go_ret
      exact ⟨rfl, HB.out⟩
    · by_cases h3 : 4200 ≤ l.length
      · have i1 : (60 : Int) < (l.length : Int) := by omega
        have i2 : ¬ (l.length : Int) ≤ 4096 := by omega
        have i3 : (4200 : Int) ≤ (l.length : Int) := by omega
        have d2 : decide ((l.length : Int) ≤ 4096) = false := decide_eq_false i2
        go_enter Try.func6, Try.ntmps6
        go_wp2_with fail
        refine (awake_any _).mono ?_
        rintro e w1 ⟨rfl, hB⟩
        have HB := Hd.mk hB
        clear hB
        go_wp2_with fail
        go_ret
        exact ⟨rfl, HB.out⟩
      · have i1 : (60 : Int) < (l.length : Int) := by omega
        have i2 : ¬ (l.length : Int) ≤ 4096 := by omega
        have d2 : decide ((l.length : Int) ≤ 4096) = false := decide_eq_false i2
        have d3 : decide ((4200 : Int) ≤ (l.length : Int)) = false := decide_eq_false (by omega)
        have hl : l.length ≤ 100000 := by omega
        go_enter Try.func6, Try.ntmps6
        go_wp2_with fail
        refine (plans_any _ l ah h _ HS.out hl).mono ?_
        rintro e w1 ⟨rfl, hB1⟩
        have HB1 := Hd.mk hB1
        clear hB1
        go_wp2_with fail
        refine (awake_any _).mono ?_
        rintro e w2 ⟨rfl, hB⟩
        have HB := Hd.mk (ch4 HB1.out hB)
        clear hB
        go_wp2_with fail
        go_ret
        exact ⟨rfl, HB.out⟩
  · have d1 : decide ((60 : Int) < (l.length : Int)) = false := decide_eq_false (by omega)
    have d3 : decide ((4200 : Int) ≤ (l.length : Int)) = false := decide_eq_false (by omega)
    have hl : l.length ≤ 100000 := by omega
    go_enter Try.func6, Try.ntmps6
    go_wp2_with fail
    refine (plans_any _ l ah h _ HS.out hl).mono ?_
    rintro e w1 ⟨rfl, hB1⟩
    have HB1 := Hd.mk hB1
    clear hB1
    go_wp2_with fail
    refine (awake_any _).mono ?_
    rintro e w2 ⟨rfl, hB⟩
    have HB := Hd.mk (ch4 HB1.out hB)
    clear hB
    go_wp2_with fail
    go_ret
    exact ⟨rfl, HB.out⟩
end Go.Proofs.Ytlblpmadehikgaa
