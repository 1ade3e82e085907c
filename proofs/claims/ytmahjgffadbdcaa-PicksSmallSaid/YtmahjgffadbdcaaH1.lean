/- Order and Right against the reference: orders. -/
import Derived.Test.YtmahjgffadbdcaaF4
import Derived.Test.YtmahjgffadbdcaaF5
import Derived.Test.YtmahjgffadbdcaaG3
namespace Go.Proofs.Ytmahjgffadbdcaa
open Go.RowKit
set_option linter.unusedVariables false

theorem rright_at {l : List Int} {b : Bool} (hl : rightB l = b) {v : Value} {w : World} (h : SrcI w v l) : Calls Try.prog 18 #[v] w fun e w' => e = .returned (.bool b) ∧ Below w.heap.size w w' := by
  have := rright_any v l w h
  rw [hl] at this; exact this
theorem rorder_at {l ps o : List Int} {t u : Nat} (ho : ordV l.length l ps = (o, t, u)) (hl : l.length ≤ 1000) {v pv : Value} {w : World} (h : SrcI w v l) (hp : SrcI w pv ps) :
    Calls Try.prog 37 #[v, pv] w fun e w' => ∃ v', e = .returned (.tuple #[v', .int .i64 (t : Nat), .int .i64 (u : Nat)]) ∧ OwnI w' w.heap.size v' o ∧ Below w.heap.size w w' := by
  have := rorder_any v pv l ps w h hp hl
  rw [ho] at this; exact this

structure Bel (B W : World) : Prop where
  b : Below B.heap.size B W
theorem Bel.below {B W W' : World} (h : Bel B W) (hb : Below W.heap.size W W') : Bel B W' := ⟨ch4 h.b hb⟩
theorem Bel.grown {B W W' : World} {g : Nat} (h : Bel B W) (hg : W.grownBy W' (some g)) (hb : B.heap.size ≤ g) : Bel B W' := ⟨h.b.trans (below_grown hg hb h.b.size)⟩

set_option maxRecDepth 100000 in
set_option maxHeartbeats 8000000 in
theorem orders_any (v pv : Value) (l ps : List Int) (w : World) (h : SrcI w v l) (hp : SrcI w pv ps) (hl : l.length ≤ 1000) (hpl : ps.length ≤ 100000) (hps : rightB l = true → ps.length ≤ 65536) :
    Calls Try.prog 19 #[v, pv] w fun e w' => e = .returned (.bool true) ∧ Below w.heap.size w w' := by
  have FL := Hd.mk h
  have FM := Hd.mk hp
  obtain ⟨a0, c0, rfl⟩ := h.shape
  obtain ⟨a2, c2, rfl⟩ := hp.shape
  clear h hp
  go_enter Try.func19, Try.ntmps19
  go_wp2_with fail
  refine (clone_app _ _ _ FL.out (by omega)).mono ?_
  rintro e w1 ⟨v7, rfl, hO, hB⟩
  have FNo1 := Hd.mk ((OwnI.of hO).src)
  have HB2 := Hd.mk hB
  have Fl_2 := Hd.mk (FL.out.below hB)
  have Fm_2 := Hd.mk (FM.out.below hB)
  clear FL FM
  clear hB hO
  obtain ⟨a3, c3, rfl⟩ := FNo1.out.shape
  go_wp2_with fail
  refine (clone_app _ _ _ Fm_2.out (by omega)).mono ?_
  rintro e w3 ⟨v8, rfl, hO, hB⟩
  have FNg3 := Hd.mk ((OwnI.of hO).src)
  have HB4 := Hd.mk (ch4 HB2.out hB)
  have Fl_4 := Hd.mk (Fl_2.out.below hB)
  have Fm_4 := Hd.mk (Fm_2.out.below hB)
  have Fo_4 := Hd.mk (FNo1.out.below hB)
  clear HB2 Fl_2 Fm_2 FNo1
  clear hB hO
  obtain ⟨a4, c4, rfl⟩ := FNg3.out.shape
  go_wp2_with fail
  rcases hr : rightB l with _ | _
  · refine (order_bad hr Fo_4.out FNg3.out).mono ?_
    rintro e w5 ⟨rfl, hB⟩
    have HB6 := Hd.mk (ch4 HB4.out hB)
    have Fl_6 := Hd.mk (Fl_4.out.below hB)
    have Fm_6 := Hd.mk (Fm_4.out.below hB)
    have Fo_6 := Hd.mk (Fo_4.out.below hB)
    have Fg_6 := Hd.mk (FNg3.out.below hB)
    clear HB4 Fl_4 Fm_4 Fo_4 FNg3
    clear hB
    go_wp2_with fail
    refine (right_at hr Fo_6.out).mono ?_
    rintro e w7 ⟨rfl, hB⟩
    have HB8 := Hd.mk (ch4 HB6.out hB)
    have Fl_8 := Hd.mk (Fl_6.out.below hB)
    have Fm_8 := Hd.mk (Fm_6.out.below hB)
    have Fo_8 := Hd.mk (Fo_6.out.below hB)
    have Fg_8 := Hd.mk (Fg_6.out.below hB)
    clear HB6 Fl_6 Fm_6 Fo_6 Fg_6
    clear hB
    go_wp2_with fail
    refine (rright_at hr Fl_8.out).mono ?_
    rintro e w9 ⟨rfl, hB⟩
    have HB10 := Hd.mk (ch4 HB8.out hB)
    have Fl_10 := Hd.mk (Fl_8.out.below hB)
    have Fm_10 := Hd.mk (Fm_8.out.below hB)
    have Fo_10 := Hd.mk (Fo_8.out.below hB)
    have Fg_10 := Hd.mk (Fg_8.out.below hB)
    clear HB8 Fl_8 Fm_8 Fo_8 Fg_8
    clear hB
    go_wp2_with fail
    refine (equal_at (b := true) (by simp) Fo_10.out Fl_10.out).mono ?_
    rintro e w11 ⟨rfl, hB⟩
    have HB12 := Hd.mk (ch4 HB10.out hB)
    have Fl_12 := Hd.mk (Fl_10.out.below hB)
    have Fm_12 := Hd.mk (Fm_10.out.below hB)
    have Fo_12 := Hd.mk (Fo_10.out.below hB)
    have Fg_12 := Hd.mk (Fg_10.out.below hB)
    clear HB10 Fl_10 Fm_10 Fo_10 Fg_10
    clear hB
    go_wp2_with fail
    refine (equal_at (b := true) (by simp) Fg_12.out Fm_12.out).mono ?_
    rintro e w13 ⟨rfl, hB⟩
    have HB14 := Hd.mk (ch4 HB12.out hB)
    have Fl_14 := Hd.mk (Fl_12.out.below hB)
    have Fm_14 := Hd.mk (Fm_12.out.below hB)
    have Fo_14 := Hd.mk (Fo_12.out.below hB)
    have Fg_14 := Hd.mk (Fg_12.out.below hB)
    clear HB12 Fl_12 Fm_12 Fo_12 Fg_12
    clear hB
    go_wp2_with fail
    refine (rright_at hr Fl_14.out).mono ?_
    rintro e w15 ⟨rfl, hB⟩
    have HB16 := Hd.mk (ch4 HB14.out hB)
    have Fl_16 := Hd.mk (Fl_14.out.below hB)
    have Fm_16 := Hd.mk (Fm_14.out.below hB)
    have Fo_16 := Hd.mk (Fo_14.out.below hB)
    have Fg_16 := Hd.mk (Fg_14.out.below hB)
    clear HB14 Fl_14 Fm_14 Fo_14 Fg_14
    clear hB
    go_wp2_with fail
    go_ret
    exact ⟨rfl, HB16.out⟩
  · obtain ⟨r, hR⟩ : ∃ r, ordV l.length l ps = r := ⟨_, rfl⟩
    obtain ⟨oa, na, wa⟩ := r
    have HLEN : Hd (oa.length = l.length) := ⟨by have h1 := (ord_perm l.length l ps rfl).length_eq; rw [hR] at h1; exact h1⟩
    have HB0 := HB4
    have FOB := Hd.mk Fo_4.out
    have FLB := Hd.mk Fl_4.out
    refine (order_at hr (hps hr) hR Fo_4.out FNg3.out).mono ?_
    rintro e w5 ⟨vo, rfl, hO, hB⟩
    have HB6 := Hd.mk (ch4 HB4.out hB)
    have Fl_6 := Hd.mk (Fl_4.out.below hB)
    have Fm_6 := Hd.mk (Fm_4.out.below hB)
    have Fo_6 := Hd.mk (Fo_4.out.below hB)
    have Fg_6 := Hd.mk (FNg3.out.below hB)
    clear HB4 Fl_4 Fm_4 Fo_4 FNg3
    have FA := Hd.mk hO
    clear hO
    have HBO := Hd.mk (Bel.mk hB)
    clear hB
    have FA2 := Hd.mk FA.out.src
    obtain ⟨a5, c5, rfl⟩ := FA2.out.shape
    go_wp2_with fail
    refine (right_at hr Fo_6.out).mono ?_
    rintro e w7 ⟨rfl, hB⟩
    have HB8 := Hd.mk (ch4 HB6.out hB)
    have Fl_8 := Hd.mk (Fl_6.out.below hB)
    have Fm_8 := Hd.mk (Fm_6.out.below hB)
    have Fo_8 := Hd.mk (Fo_6.out.below hB)
    have Fg_8 := Hd.mk (Fg_6.out.below hB)
    have Fa_8 := Hd.mk (FA2.out.below hB)
    have Fown_8 := Hd.mk (FA.out.below hB)
    have Fbo_8 := Hd.mk (HBO.out.below hB)
    clear HB6 Fl_6 Fm_6 Fo_6 Fg_6 FA2 FA HBO
    clear hB
    go_wp2_with fail
    refine (rright_at hr Fl_8.out).mono ?_
    rintro e w9 ⟨rfl, hB⟩
    have HB10 := Hd.mk (ch4 HB8.out hB)
    have Fl_10 := Hd.mk (Fl_8.out.below hB)
    have Fm_10 := Hd.mk (Fm_8.out.below hB)
    have Fo_10 := Hd.mk (Fo_8.out.below hB)
    have Fg_10 := Hd.mk (Fg_8.out.below hB)
    have Fa_10 := Hd.mk (Fa_8.out.below hB)
    have Fown_10 := Hd.mk (Fown_8.out.below hB)
    have Fbo_10 := Hd.mk (Fbo_8.out.below hB)
    clear HB8 Fl_8 Fm_8 Fo_8 Fg_8 Fa_8 Fown_8 Fbo_8
    clear hB
    go_wp2_with fail
    refine (equal_at (b := true) (by simp) Fo_10.out Fl_10.out).mono ?_
    rintro e w11 ⟨rfl, hB⟩
    have HB12 := Hd.mk (ch4 HB10.out hB)
    have Fl_12 := Hd.mk (Fl_10.out.below hB)
    have Fm_12 := Hd.mk (Fm_10.out.below hB)
    have Fo_12 := Hd.mk (Fo_10.out.below hB)
    have Fg_12 := Hd.mk (Fg_10.out.below hB)
    have Fa_12 := Hd.mk (Fa_10.out.below hB)
    have Fown_12 := Hd.mk (Fown_10.out.below hB)
    have Fbo_12 := Hd.mk (Fbo_10.out.below hB)
    clear HB10 Fl_10 Fm_10 Fo_10 Fg_10 Fa_10 Fown_10 Fbo_10
    clear hB
    go_wp2_with fail
    refine (equal_at (b := true) (by simp) Fg_12.out Fm_12.out).mono ?_
    rintro e w13 ⟨rfl, hB⟩
    have HB14 := Hd.mk (ch4 HB12.out hB)
    have Fl_14 := Hd.mk (Fl_12.out.below hB)
    have Fm_14 := Hd.mk (Fm_12.out.below hB)
    have Fo_14 := Hd.mk (Fo_12.out.below hB)
    have Fg_14 := Hd.mk (Fg_12.out.below hB)
    have Fa_14 := Hd.mk (Fa_12.out.below hB)
    have Fown_14 := Hd.mk (Fown_12.out.below hB)
    have Fbo_14 := Hd.mk (Fbo_12.out.below hB)
    clear HB12 Fl_12 Fm_12 Fo_12 Fg_12 Fa_12 Fown_12 Fbo_12
    clear hB
    go_wp2_with fail
    refine (rright_at hr Fl_14.out).mono ?_
    rintro e w15 ⟨rfl, hB⟩
    have HB16 := Hd.mk (ch4 HB14.out hB)
    have Fl_16 := Hd.mk (Fl_14.out.below hB)
    have Fm_16 := Hd.mk (Fm_14.out.below hB)
    have Fo_16 := Hd.mk (Fo_14.out.below hB)
    have Fg_16 := Hd.mk (Fg_14.out.below hB)
    have Fa_16 := Hd.mk (Fa_14.out.below hB)
    have Fown_16 := Hd.mk (Fown_14.out.below hB)
    have Fbo_16 := Hd.mk (Fbo_14.out.below hB)
    clear HB14 Fl_14 Fm_14 Fo_14 Fg_14 Fa_14 Fown_14 Fbo_14
    clear hB
    go_wp2_with fail
    refine (rorder_at hR hl Fl_16.out Fm_16.out).mono ?_
    rintro e w17 ⟨vw, rfl, hO, hB⟩
    have FNw17 := Hd.mk (hO.src)
    have HB18 := Hd.mk (ch4 HB16.out hB)
    have Fl_18 := Hd.mk (Fl_16.out.below hB)
    have Fm_18 := Hd.mk (Fm_16.out.below hB)
    have Fo_18 := Hd.mk (Fo_16.out.below hB)
    have Fg_18 := Hd.mk (Fg_16.out.below hB)
    have Fa_18 := Hd.mk (Fa_16.out.below hB)
    have Fown_18 := Hd.mk (Fown_16.out.below hB)
    have Fbo_18 := Hd.mk (Fbo_16.out.below hB)
    clear HB16 Fl_16 Fm_16 Fo_16 Fg_16 Fa_16 Fown_16 Fbo_16
    clear hB hO
    obtain ⟨a6, c6, rfl⟩ := FNw17.out.shape
    go_wp2_with fail
    refine (equal_at (b := true) (by simp) Fa_18.out FNw17.out).mono ?_
    rintro e w19 ⟨rfl, hB⟩
    have HB20 := Hd.mk (ch4 HB18.out hB)
    have Fl_20 := Hd.mk (Fl_18.out.below hB)
    have Fm_20 := Hd.mk (Fm_18.out.below hB)
    have Fo_20 := Hd.mk (Fo_18.out.below hB)
    have Fg_20 := Hd.mk (Fg_18.out.below hB)
    have Fa_20 := Hd.mk (Fa_18.out.below hB)
    have Fown_20 := Hd.mk (Fown_18.out.below hB)
    have Fbo_20 := Hd.mk (Fbo_18.out.below hB)
    have Fw_20 := Hd.mk (FNw17.out.below hB)
    clear HB18 Fl_18 Fm_18 Fo_18 Fg_18 Fa_18 Fown_18 Fbo_18 FNw17
    clear hB
    go_wp2_with fail
    have hoa : oa.length ≤ 1000 := by rw [HLEN.out]; exact hl
    have HROW : Hd (0 < oa.length → ∃ g f, a5 = some ⟨g, 0, none⟩ ∧ w3.heap.size ≤ g ∧ RowF w19 g oa.length f) := ⟨fun hn => by
      obtain ⟨g, cap, hv, hg, hR, _, _⟩ := OwnI.row Fown_20.out hn
      simp only [Value.slice.injEq] at hv
      exact ⟨g, _, hv.1, hg, hR⟩⟩
    clear Fl_20 Fm_20 Fo_20 Fg_20 Fa_20 Fown_20 Fw_20
    go_loopw [14, 85] (fun _ i W => ∃ k : Nat, k ≤ oa.length ∧ i = .int .i64 k ∧ Bel w3 W ∧ Hd (0 < oa.length → ∃ g f, a5 = some ⟨g, 0, none⟩ ∧ w3.heap.size ≤ g ∧ RowF W g oa.length f)) (fun _ i _ => oa.length - (intOf i).toNat)
    case atStart => exact ⟨0, by omega, rfl, Fbo_20.out, HROW⟩
    case round =>
      obtain ⟨k, hk, rfl, hBe, hRow⟩ := hrel
      by_cases hlt : k < oa.length
      · obtain ⟨g, f, rfl, hg, hR⟩ := hRow.out (by omega)
        have hx := hR.cell k hlt
        have fx := hR.free k
        have i0 : (0 : Int) ≤ (k : Int) := by omega
        have i1 : (k : Int) < (oa.length : Int) := by omega
        have HR := Hd.mk hR
        have HG := Hd.mk hg
        clear hR hg hRow
        generalize f k = x at hx
        go_wp2_with fail
        go_roundw
        case rel => exact ⟨k + 1, by omega, by go_num, hBe.grown (grown_set _ _ _ _) HG.out, ⟨fun _ => ⟨g, _, rfl, HG.out, HR.out.set k hlt _⟩⟩⟩
        case measure => simp [intOf]; omega
      · have i0 : (oa.length : Int) ≤ (k : Int) := by omega
        have hBe2 := Hd.mk hBe
        clear hBe hRow
        go_wp2_with fail
        refine (equal_at (b := true) (by simp) (FOB.out.below hBe2.out.b) (FLB.out.below hBe2.out.b)).mono ?_
        rintro e wz ⟨rfl, hB⟩
        have HZ := Hd.mk (ch4 (ch4 HB0.out hBe2.out.b) hB)
        clear hB
        go_wp2_with fail
        go_ret
        exact ⟨rfl, HZ.out⟩
end Go.Proofs.Ytmahjgffadbdcaa
