/- Walks of quota.way and of what it returns. -/
import Derived.Test.YtppfhcocmpmadaaA3
import Derived.BigRegionIn
namespace Go.Proofs.Ytppfhcocmpmadaa
open Go.RowKit Go.Shelf
attribute [local go_sem] Oper.semAt_some
set_option linter.unusedVariables false

theorem way_any (U : Nat → Int) (a : Option Addr) (n c : Nat) (w : World) : Calls Try.prog 28 #[.agg (ar U), .slice a n c] w fun e w' =>
    e = .returned (.func (.func 44) #[] #[.pointer (some ⟨w.heap.size + 1, 0, none⟩), .pointer (some ⟨w.heap.size, 0, none⟩)]) ∧ w' = (w.alloc (.cells (ar U) 25)).alloc (.cells #[.slice a n c] 28) := by
  go_enter Try.func28, Try.ntmps28
  go_wp2_with fail
  go_ret
  exact ⟨rfl, rfl⟩

theorem only_drew {a w : World} {row : Option Nat} (h : a.grownBy w row) : a.grownBy w.drew row := ⟨h.os, h.tape, h.output, h.size, h.block⟩
theorem only_drewN {a w : World} {row : Option Nat} (h : a.grownBy w row) (n : Nat) : a.grownBy (w.drewN n) row := ⟨h.os, h.tape, h.output, h.size, h.block⟩
theorem only_alloc {a w : World} {row : Option Nat} (h : a.grownBy w row) (o : Obj) : a.grownBy (w.alloc o) row :=
  ⟨h.os, h.tape, h.output, Nat.le_trans h.size (by simp), fun i hi hne => (Below.heap_alloc w o i (Nat.lt_of_lt_of_le hi h.size)).trans (h.block i hi hne)⟩
theorem only_setCell {a w : World} {g : Nat} (h : a.grownBy w (some g)) {p : Addr} (hp : p.block = g ∨ a.heap.size ≤ p.block) (u : Value) : a.grownBy (w.setCell p u) (some g) :=
  ⟨h.os, h.tape, h.output, by simpa [World.setCell] using h.size, fun i hi hne => (Below.heap_setCell w p u i (by
    rintro rfl
    rcases hp with hp | hp
    · exact hne (by rw [hp])
    · omega)).trans (h.block i hi hne)⟩

/-- What is used after the first k charges. -/
def useK (U : Nat → Int) (cs : List (Int × Int)) (k : Nat) : Nat → Int := fun j => U j + ((cs.take k).map fun x => if x.1 = (j : Int) then x.2 else 0).sum

set_option maxRecDepth 100000 in
set_option maxHeartbeats 4000000 in
theorem way1 (G B L : Nat) (a : Option Addr) (c : Nat) (cs : List (Int × Int)) (U : Nat → Nat → Int) (I : Nat → World → Prop) (J : World → Prop)
    (hI : ∀ k W, I k W → W.heap[G]? = some (.cells (ar (U k)) 25 (0, 0)) ∧ W.heap[B]? = some (.cells #[.slice a cs.length c] 28 (0, 0)) ∧ SrcC W (.slice a cs.length c) cs)
    (hok : ∀ x ∈ cs, okC x = true) (hlen : cs.length ≤ 4096) (hU : ∀ k j, k ≤ cs.length → j < 4 → -9007199254740992 ≤ U k j ∧ U k j ≤ 9007199254740992)
    (hstep : ∀ k (h : k < cs.length) (j : Nat), j < 4 → cs[k].1 = j → upd (U k) j (U k j + cs[k].2) = U (k + 1))
    (hY : ∀ k W W', k < cs.length → I k W → W.grownBy W' (some G) → W'.heap[G]? = some (.cells (ar (U (k + 1))) 25 (0, 0)) →
      YieldAt Fence.wide 0 Try.prog L #[.int .i64 k, .agg (ar (U (k + 1)))] W' (fun e W'' => (e = .returned (.bool true) ∧ I (k + 1) W'') ∨ (e = .returned (.bool false) ∧ J W'')))
    (W0 : World) (h0 : I 0 W0) :
    Calls Try.prog 44 #[.func (.yield L) #[] #[], .pointer (some ⟨B, 0, none⟩), .pointer (some ⟨G, 0, none⟩)] W0 fun e W' => (∃ v, e = .returned v) ∧ (I cs.length W' ∨ J W') := by
  have HI := Hd.mk hI
  have HOK := Hd.mk hok
  have HU := Hd.mk hU
  have HS := Hd.mk hstep
  have HY := Hd.mk hY
  have H0 := Hd.mk h0
  clear hI hok hU hstep hY h0
  refine (callsIn_wide (n := 0)).1 ?_
  refine callsIn_of_wp Try.func44 rfl trivial ?_
  simp only [Try.ntmps44, List.size_toArray, List.length_cons, List.length_nil, Nat.reduceAdd, Nat.reduceSub, Array.replicate_succ, Array.replicate_zero, List.push_toArray, List.append_toArray, List.nil_append, List.cons_append]
  have hb0 := cells_cell (HI.out 0 W0 H0.out).2.1 0
  gi_wp2_with fail
  clear hb0
  gi_loopw [8] (fun i W => ∃ k : Nat, k ≤ cs.length ∧ i = .int .i64 k ∧ Hd (I k W)) (fun i _ => cs.length - (intOf i).toNat)
  case atStart => exact ⟨0, by omega, rfl, H0⟩
  case round =>
    obtain ⟨k, hk, rfl, HK⟩ := hrel
    by_cases hlt : k < cs.length
    · obtain ⟨b, off, rfl, hb, hc1, hc2⟩ := (HI.out k wr HK.out).2.2.at k hlt
      have hx := (okC_iff cs[k]).1 (HOK.out _ (List.getElem_mem hlt))
      obtain ⟨q, hq⟩ : ∃ q : Nat, cs[k].1 = q := ⟨cs[k].1.toNat, by omega⟩
      obtain ⟨m, hm⟩ : ∃ m, cs[k].2 = m := ⟨_, rfl⟩
      have hq4 : q < 4 := by omega
      have hq4i : (q : Int) < 4 := by omega
      have hq0 : 0 ≤ (q : Int) := by omega
      have hG := (HI.out k wr HK.out).1
      have hgc := (cells_cell hG q).trans (ar_get _ q hq4)
      have hgf := cells_free hG q
      have HST := Hd.mk (HS.out k hlt q hq4 hq)
      have hub := HU.out k q (by omega) hq4
      obtain ⟨x, hx'⟩ : ∃ x, U k q = x := ⟨_, rfl⟩
      rw [hq] at hc1
      rw [hm] at hc2 hx HST
      rw [hx'] at hgc hub HST
      have hx1 := hx.2.2.1
      have hx2 := hx.2.2.2
      have hub1 := hub.1
      have hub2 := hub.2
      have HG := Hd.mk hG
      have hGl : G < wr.heap.size := World.block_lt_of_cell? wr _ hgc
      have hBl := (Below.refl wr.heap.size wr).alloc (Nat.le_refl _) (.cells #[.int .i64 q, .int .i64 m] 32)
      have hgc2 := (hBl.cell (p := ⟨G, q, none⟩) hGl).trans hgc
      have hgf2 := (hBl.frozen (p := ⟨G, q, none⟩) hGl).trans hgf
      clear hx hub hq hm hx' hG hBl
      have hw : IntKind.i64.wrap (x + m) = x + m := IntWalk.i64_in _ ⟨by omega, by omega⟩
      gi_wp2_with fail
      gi_region
      obtain ⟨W', hW'⟩ : ∃ W', W' = ((wr.setCell ⟨G, q, none⟩ (.int .i64 (x + m))).alloc (.cells #[.int .i64 q, .int .i64 m] 32)).drew := ⟨_, rfl⟩
      have hg : wr.grownBy W' (some G) := by rw [hW']; exact only_drew (only_alloc (only_setCell ⟨rfl, rfl, rfl, Nat.le_refl _, fun _ _ _ => rfl⟩ (.inl rfl) _) _)
      have hGn : W'.heap[G]? = some (.cells (ar (U (k + 1))) 25 (0, 0)) := by
        rw [hW', ← HST.out, ← ar_set _ _ hq4]
        refine Eq.trans ?_ (cells_set HG.out _)
        exact Below.heap_alloc _ _ _ (by simpa [World.setCell] using hGl)
      rw [← hW']
      have g0 := (cells_cell hGn 0).trans (ar_get _ 0 (by decide))
      have g1 := (cells_cell hGn 1).trans (ar_get _ 1 (by decide))
      have g2 := (cells_cell hGn 2).trans (ar_get _ 2 (by decide))
      have g3 := (cells_cell hGn 3).trans (ar_get _ 3 (by decide))
      obtain ⟨fn, tmps, asg, body, hy, hR⟩ := HY.out k wr W' hlt HK.out hg hGn
      have HRR := Hd.mk hR
      simp only [ar] at hy
      clear hR hW' hg hGn hgc hgf hgc2 hgf2 hc1 hc2 hw HG hGl hb
      gi_wp2_with fail
      refine HRR.out.mono ?_
      rintro e W2 (⟨rfl, hI2⟩ | ⟨rfl, hJ2⟩)
      · have HI2 := Hd.mk hI2
        clear hI2 HRR hy
        gi_wp2_with fail
        go_roundw
        case rel => exact ⟨k + 1, by omega, by go_num, HI2⟩
        case measure => simp [intOf]; omega
      · have HJ2 := Hd.mk hJ2
        clear hJ2 HRR hy
        gi_wp2_with fail
        refine bodyPost_ret (results_none rfl _ _ _) rfl ?_
        exact ⟨⟨_, rfl⟩, .inr HJ2.out⟩
    · obtain rfl : k = cs.length := by omega
      gi_wp2_with fail
      go_end0
      exact ⟨⟨_, rfl⟩, .inl HK.out⟩
end Go.Proofs.Ytppfhcocmpmadaa
