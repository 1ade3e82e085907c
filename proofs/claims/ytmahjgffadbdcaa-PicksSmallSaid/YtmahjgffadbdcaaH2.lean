/- The law PicksOrder: its walk. -/
import Derived.Test.YtmahjgffadbdcaaH1
namespace Go.Proofs.Ytmahjgffadbdcaa
open Go.RowKit
set_option linter.unusedVariables false

theorem order_many {l ps : List Int} (hr : rightB l = true) (hps : 65536 < ps.length) {v pv : Value} {w : World} (h : SrcI w v l) (hp : SrcI w pv ps) :
    Calls Try.prog 14 #[v, pv] w fun e w' => e = .returned (.tuple #[.slice none 0 0, .int .i64 0, .int .i64 0, .int .i64 5]) ∧ Below w.heap.size w w' := by
  have ho : oE l ps = 5 := by rw [oE, hr, if_pos rfl, if_pos hps]
  have := order_no v pv l ps w h hp (by rw [ho]; decide)
  rw [ho] at this; exact this

set_option maxRecDepth 100000 in
set_option maxHeartbeats 8000000 in
theorem order_law (v pv : Value) (l ps : List Int) (w : World) (h : SrcI w v l) (hp : SrcI w pv ps) :
    Calls Try.prog 4 #[v, pv] w fun e w' => e = .returned (.bool true) ∧ Below w.heap.size w w' := by
  have hsm := h.small
  have hsm2 := hp.small
  have FL := Hd.mk h
  have FM := Hd.mk hp
  obtain ⟨a0, c0, rfl⟩ := h.shape
  obtain ⟨a2, c2, rfl⟩ := hp.shape
  clear h hp
  by_cases h1 : 20 < l.length
  · have i1 : (20 : Int) < (l.length : Int) := by omega
    go_enter Try.func4, Try.ntmps4
    go_wp2_with fail
    refine (awake_any _).mono ?_
    rintro e w1 ⟨rfl, hB⟩
    have HB := Hd.mk hB
    clear hB
    go_wp2_with fail
    go_ret
    exact ⟨rfl, HB.out⟩
  have j1 : (l.length : Int) ≤ 20 := by omega
  by_cases h2 : 60 < ps.length ∧ ps.length ≤ 65536
  · have i1 : (60 : Int) < (ps.length : Int) := by omega
    have i2 : (ps.length : Int) ≤ 65536 := by omega
    clear h2 h1
    go_enter Try.func4, Try.ntmps4
    go_wp2_with fail
    refine (awake_any _).mono ?_
    rintro e w1 ⟨rfl, hB⟩
    have HB := Hd.mk hB
    clear hB
    go_wp2_with fail
    go_ret
    exact ⟨rfl, HB.out⟩
  by_cases h3 : 65600 ≤ ps.length
  · have i1 : (60 : Int) < (ps.length : Int) := by omega
    have i2 : (65536 : Int) < (ps.length : Int) := by omega
    have i3 : (65600 : Int) ≤ (ps.length : Int) := by omega
    clear h2 h1 h3
    go_enter Try.func4, Try.ntmps4
    go_wp2_with fail
    refine (awake_any _).mono ?_
    rintro e w1 ⟨rfl, hB⟩
    have HB := Hd.mk hB
    clear hB
    go_wp2_with fail
    go_ret
    exact ⟨rfl, HB.out⟩
  by_cases h4 : ps.length ≤ 60
  · have i1 : (ps.length : Int) ≤ 60 := by omega
    clear h2 h3
    go_enter Try.func4, Try.ntmps4
    go_wp2_with fail
    refine (orders_any _ _ l ps _ FL.out FM.out (by omega) (by omega) (by omega)).mono ?_
    rintro e w1 ⟨rfl, hB⟩
    have HB := Hd.mk hB
    clear hB
    go_wp2_with fail
    refine (awake_any _).mono ?_
    rintro e w2 ⟨rfl, hB⟩
    have HB2 := Hd.mk (ch4 HB.out hB)
    clear hB
    go_wp2_with fail
    go_ret
    exact ⟨rfl, HB2.out⟩
  have i0 : (60 : Int) < (ps.length : Int) := by omega
  have i1 : (65536 : Int) < (ps.length : Int) := by omega
  have i2 : (ps.length : Int) < 65600 := by omega
  have HM : Hd (65536 < ps.length) := ⟨by omega⟩
  have d1 : decide ((65600 : Int) ≤ (ps.length : Int)) = false := decide_eq_false (by omega)
  have d2 : decide ((ps.length : Int) ≤ 65536) = false := decide_eq_false (by omega)
  have d3 : decide ((ps.length : Int) ≥ (65600 : Int)) = false := decide_eq_false (by omega)
  have H20 : Hd (l.length ≤ 20) := ⟨by omega⟩
  have HPL : Hd (ps.length < 65600) := ⟨by omega⟩
  clear h1 h2 h3 h4 hsm hsm2 i2 i0 d3
  rcases hr : rightB l with _ | _
  · go_enter Try.func4, Try.ntmps4
    go_wp2_with fail
    refine (rright_at hr FL.out).mono ?_
    rintro e w1 ⟨rfl, hB⟩
    have HB := Hd.mk hB
    have FL2 := Hd.mk (FL.out.below hB)
    have FM2 := Hd.mk (FM.out.below hB)
    clear hB
    go_wp2_with fail
    refine (orders_any _ _ l ps _ FL2.out FM2.out (by have := H20.out; omega) (by have := HPL.out; omega) (by rw [hr]; intro h; cases h)).mono ?_
    rintro e w2 ⟨rfl, hB⟩
    have HB2 := Hd.mk (ch4 HB.out hB)
    clear hB HB
    go_wp2_with fail
    refine (awake_any _).mono ?_
    rintro e w3 ⟨rfl, hB⟩
    have HB3 := Hd.mk (ch4 HB2.out hB)
    clear hB
    go_wp2_with fail
    go_ret
    exact ⟨rfl, HB3.out⟩
  · go_enter Try.func4, Try.ntmps4
    go_wp2_with fail
    refine (rright_at hr FL.out).mono ?_
    rintro e w1 ⟨rfl, hB⟩
    have HB := Hd.mk hB
    have FL2 := Hd.mk (FL.out.below hB)
    have FM2 := Hd.mk (FM.out.below hB)
    clear hB
    go_wp2_with fail
    refine (order_many hr HM.out FL2.out FM2.out).mono ?_
    rintro e w2 ⟨rfl, hB⟩
    have HB2 := Hd.mk (ch4 HB.out hB)
    clear hB HB
    go_wp2_with fail
    refine (awake_any _).mono ?_
    rintro e w3 ⟨rfl, hB⟩
    have HB3 := Hd.mk (ch4 HB2.out hB)
    clear hB
    go_wp2_with fail
    go_ret
    exact ⟨rfl, HB3.out⟩
end Go.Proofs.Ytmahjgffadbdcaa
