/- Equality of slices of windows; contracts at given results. -/
import Derived.Test.YtlblpmadehikgaaB9
namespace Go.Proofs.Ytlblpmadehikgaa
open Go.RowKit
set_option linter.unusedVariables false

theorem guard28 : Try.prog.eqGuardType Try.prog.depth 28 = false := by kernel_rfl
set_option maxRecDepth 100000 in
set_option maxHeartbeats 400000 in
theorem equalW_any (v1 v2 : Value) (cs ds : List (Int × Int)) (w : World) (h1 : SrcC w v1 cs) (h2 : SrcC w v2 ds) : Calls Try.prog 21 #[v1, v2] w fun e w' => e = .returned (.bool (decide (cs = ds))) ∧ Below w.heap.size w w' := by
  have b1 := h1.small
  have b2 := h2.small
  obtain ⟨a1, c1, rfl⟩ := h1.shape
  obtain ⟨a2, c2, rfl⟩ := h2.shape
  have H1 := Hd.mk h1
  have H2 := Hd.mk h2
  clear h1 h2
  by_cases hl : cs.length = ds.length
  · have HL := Hd.mk hl
    rw [← hl]
    rw [← hl] at H2 b2
    clear hl b2
    go_enter Try.func21, Try.ntmps21
    go_wp2_with fail
    go_loopw [13] (fun i W => ∃ k : Nat, k ≤ cs.length ∧ i = .int .i64 k ∧ Hd (cs.take k = ds.take k) ∧ Below w.heap.size w W) (fun i _ => cs.length - (intOf i).toNat)
    case atStart => exact ⟨0, by omega, rfl, ⟨by simp⟩, Below.refl _ _⟩
    case round =>
      obtain ⟨k, hk, rfl, HK, hB⟩ := hrel
      by_cases hlt : k < cs.length
      · have hlt2 : k < ds.length := by have := HL.out; omega
        obtain ⟨x, offx, rfl, hx, hx1, hx2⟩ := (H1.out.below hB).at k hlt
        obtain ⟨y, offy, rfl, hy, hy1, hy2⟩ := (H2.out.below hB).at k hlt2
        have hnev := fun W => nev_w28 cs[k].1 cs[k].2 ds[k].1 ds[k].2 W
        have hgd := guard28
        have HT : Hd ((cs[k].1 == ds[k].1 && cs[k].2 == ds[k].2) = decide (cs[k] = ds[k])) := ⟨by
          rw [Bool.eq_iff_iff, Bool.and_eq_true, beq_iff_eq, beq_iff_eq, decide_eq_true_eq, Prod.ext_iff]⟩
        rw [HT.out] at hnev
        obtain ⟨p, hp⟩ : ∃ p, cs[k].1 = p := ⟨_, rfl⟩
        obtain ⟨q, hq⟩ : ∃ p, cs[k].2 = p := ⟨_, rfl⟩
        obtain ⟨p', hp'⟩ : ∃ p, ds[k].1 = p := ⟨_, rfl⟩
        obtain ⟨q', hq'⟩ : ∃ p, ds[k].2 = p := ⟨_, rfl⟩
        rw [hp] at hx1 hnev
        rw [hq] at hx2 hnev
        rw [hp'] at hy1 hnev
        rw [hq'] at hy2 hnev
        clear hp hq hp' hq' HT
        by_cases he : cs[k] = ds[k]
        · rw [decide_eq_true he] at hnev
          have HN : Hd (cs.take (k + 1) = ds.take (k + 1)) := ⟨by rw [List.take_succ_eq_append_getElem hlt, List.take_succ_eq_append_getElem hlt2, HK.out, he]⟩
          clear he HK
          go_wp2_with fail
          go_quiet (fail)
          go_wp2_with fail
          go_roundw
          case rel => exact ⟨k + 1, by omega, by go_num, HN, below_drewN hB _⟩
          case measure => simp [intOf]; omega
        · rw [decide_eq_false he] at hnev
          have HN : Hd (decide (cs = ds) = false) := ⟨decide_eq_false fun h => he (by subst h; rfl)⟩
          clear he HK
          go_wp2_with fail
          go_quiet (fail)
          go_wp2_with fail
          go_ret
          exact ⟨by rw [HN.out]; rfl, below_drewN hB _⟩
      · obtain rfl : k = cs.length := by omega
        have HN : Hd (decide (cs = ds) = true) := ⟨decide_eq_true (by have := HK.out; rw [List.take_length, HL.out, List.take_length] at this; exact this)⟩
        clear HK
        go_wp2_with fail
        go_ret
        exact ⟨by rw [HN.out]; rfl, hB⟩
  · have HN : Hd (decide (cs = ds) = false) := ⟨decide_eq_false fun h => hl (by rw [h])⟩
    go_enter Try.func21, Try.ntmps21
    go_wp2_with fail
    go_ret
    exact ⟨by rw [HN.out]; rfl, Below.refl _ _⟩


/-- A block that stands as it is. -/
def BoxF (W : World) (b : Nat) (o : Obj) : Prop := W.heap[b]? = some o
theorem BoxF.below {W W' : World} {b : Nat} {o : Obj} (h : BoxF W b o) (hb : Below W.heap.size W W') : BoxF W' b o := (hb.block b (lt_of_heap h)).trans h
theorem equalW_at {l m : List (Int × Int)} {b : Bool} (hb : decide (l = m) = b) {v pv : Value} {w : World} (h : SrcC w v l) (hp : SrcC w pv m) :
    Calls Try.prog 21 #[v, pv] w fun e w' => e = .returned (.bool b) ∧ Below w.heap.size w w' := by
  have := equalW_any v pv l m w h hp
  rw [hb] at this; exact this
theorem winsV_eq {ah h : Int} {l S : List Int} {X : List (Int × Int)} (hs : S.Pairwise (· ≤ ·)) (hp : l.Perm S) (hx : winsL ah h none S = X) : winsV ah h l = X := by
  rw [winsV, sort_eq hs hp, hx]
theorem plan_at {l : List Int} {ah h : Int} {X : List (Int × Int)} (hz : wrE l ah h = 0) (hx : winsV ah h l = X) {v : Value} {w : World} (hs : SrcI w v l) : Calls Try.prog 17 #[v, .int .i64 ah, .int .i64 h] w fun e w' =>
    ∃ v', e = .returned (.tuple #[v', .int .i64 0]) ∧ OwnC w' w.heap.size 28 v' X ∧ Below w.heap.size w w' := by
  have := plan_any v l ah h w hs
  rw [plV, if_pos hz, hz, hx] at this; exact this
theorem count_at {l : List Int} {ah h : Int} {X : List (Int × Int)} {n : Nat} (hz : wrE l ah h = 0) (hx : winsV ah h l = X) (hn : X.length = n) {v : Value} {w : World} (hs : SrcI w v l) : Calls Try.prog 18 #[v, .int .i64 ah, .int .i64 h] w fun e w' =>
    e = .returned (.tuple #[.int .i64 (n : Nat), .int .i64 0]) ∧ Below w.heap.size w w' := by
  have := count_any v l ah h w hs
  rw [plV, if_pos hz, hz, hx, hn] at this; exact this
theorem next_some {l : List Int} {ah h : Int} {X : List (Int × Int)} {a b : Int} {I : List Int} (hz : wrE l ah h = 0) (hx : winsV ah h l = (a, b) :: X) (hi : inL l b l.length = I) {v : Value} {w : World} (hs : SrcI w v l) : Calls Try.prog 14 #[v, .int .i64 ah, .int .i64 h] w fun e w' =>
    ∃ v', e = .returned (.tuple #[.agg #[.int .i64 a, .int .i64 b], v', .int .i64 0]) ∧ OwnI w' w.heap.size v' I ∧ Below w.heap.size w w' := by
  have := next_ok v l ah h w hs hz
  have h1 : nxE ah h l = 0 := by rw [nxE, if_pos hz, hx, if_neg (by simp)]
  have h2 : nxW ah h l = (a, b) := by rw [nxW, if_pos hz, hx]; rfl
  rw [nxI, h1, if_pos rfl, h2, hi] at this; exact this
theorem next_none {l : List Int} {ah h : Int} (hz : wrE l ah h = 0) (hx : winsV ah h l = []) {v : Value} {w : World} (hs : SrcI w v l) : Calls Try.prog 14 #[v, .int .i64 ah, .int .i64 h] w fun e w' =>
    ∃ v', e = .returned (.tuple #[.agg #[.int .i64 0, .int .i64 0], v', .int .i64 6]) ∧ OwnI w' w.heap.size v' [] ∧ Below w.heap.size w w' := by
  have := next_ok v l ah h w hs hz
  have h1 : nxE ah h l = 6 := by rw [nxE, if_pos hz, hx, if_pos rfl]
  have h2 : nxW ah h l = (0, 0) := by rw [nxW, if_pos hz, hx]; rfl
  rw [nxI, h1, if_neg (by decide), h2] at this; exact this
theorem emit_at {a b ah t d v E : Int} (hE : emE a b ah t d = E) (hV : emV a b ah t d = v) (w : World) : Calls Try.prog 15 #[.agg #[.int .i64 a, .int .i64 b], .int .i64 ah, .int .i64 t, .int .i64 d] w fun e w' =>
    e = .returned (.tuple #[.int .i64 v, .int .i64 E]) ∧ Below w.heap.size w w' := by
  have := emit_any a b ah t d w
  rw [hE, hV] at this; exact this
end Go.Proofs.Ytlblpmadehikgaa
