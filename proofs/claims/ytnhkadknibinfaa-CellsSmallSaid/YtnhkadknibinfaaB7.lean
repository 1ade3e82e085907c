/- Equality of changes. -/
import Derived.Test.YtnhkadknibinfaaB6
namespace Go.Proofs.Ytnhkadknibinfaa
open Go.RowKit
set_option linter.unusedVariables false

theorem plain3 : Try.prog.plainKey 3 = true := by kernel_rfl
theorem plain2 : Try.prog.plainKey 2 = true := by kernel_rfl
theorem fields39 : ∃ a b c d : Field, (Try.prog.fieldsOf 39).toList = [a, b, c, d] ∧ a.name = "Owner" ∧ b.name = "Index" ∧ c.name = "Old" ∧ d.name = "New" ∧ a.type = 3 ∧ b.type = 3 ∧ c.type = 2 ∧ d.type = 2 ∧ a.offset = 0 ∧ b.offset = 1 ∧ c.offset = 2 ∧ d.offset = 3 :=
  ⟨(Try.prog.fieldsOf 39)[0]!, (Try.prog.fieldsOf 39)[1]!, (Try.prog.fieldsOf 39)[2]!, (Try.prog.fieldsOf 39)[3]!, by kernel_rfl, by kernel_rfl, by kernel_rfl, by kernel_rfl, by kernel_rfl, by kernel_rfl, by kernel_rfl, by kernel_rfl, by kernel_rfl, by kernel_rfl, by kernel_rfl, by kernel_rfl, by kernel_rfl⟩
theorem fields102 : ∃ a b c d : Field, (Try.prog.fieldsOf 102).toList = [a, b, c, d] ∧ a.name = "Owner" ∧ b.name = "Index" ∧ c.name = "Old" ∧ d.name = "New" ∧ a.type = 3 ∧ b.type = 3 ∧ c.type = 2 ∧ d.type = 2 ∧ a.offset = 0 ∧ b.offset = 1 ∧ c.offset = 2 ∧ d.offset = 3 :=
  ⟨(Try.prog.fieldsOf 102)[0]!, (Try.prog.fieldsOf 102)[1]!, (Try.prog.fieldsOf 102)[2]!, (Try.prog.fieldsOf 102)[3]!, by kernel_rfl, by kernel_rfl, by kernel_rfl, by kernel_rfl, by kernel_rfl, by kernel_rfl, by kernel_rfl, by kernel_rfl, by kernel_rfl, by kernel_rfl, by kernel_rfl, by kernel_rfl, by kernel_rfl⟩
def chV (c : Ch) : Value := .agg #[.int .i64 c.1, .int .i64 c.2.1, .int .i64 c.2.2.1, .int .i64 c.2.2.2]
def eqC (c d : Ch) : Bool := c.1 == d.1 && (c.2.1 == d.2.1 && (c.2.2.1 == d.2.2.1 && c.2.2.2 == d.2.2.2))
theorem eqC_eq (c d : Ch) : eqC c d = decide (c = d) := by
  unfold eqC
  rw [Bool.eq_iff_iff, Bool.and_eq_true, Bool.and_eq_true, Bool.and_eq_true, beq_iff_eq, beq_iff_eq, beq_iff_eq, beq_iff_eq, decide_eq_true_eq, Prod.ext_iff, Prod.ext_iff, Prod.ext_iff]
theorem eq_ch_of (t : TypeId) (ht : Try.prog.underlying t = some (.struct (Try.prog.fieldsOf t))) (hp : Try.prog.stoodInHeld t = false)
    (hf : ∃ a b c d : Field, (Try.prog.fieldsOf t).toList = [a, b, c, d] ∧ a.name = "Owner" ∧ b.name = "Index" ∧ c.name = "Old" ∧ d.name = "New" ∧ a.type = 3 ∧ b.type = 3 ∧ c.type = 2 ∧ d.type = 2 ∧ a.offset = 0 ∧ b.offset = 1 ∧ c.offset = 2 ∧ d.offset = 3) (d : Nat) (x y : Ch) (w : World) :
    (Op.equalIn (d + 2) t (.agg #[.int .i64 x.1, .int .i64 x.2.1, .int .i64 x.2.2.1, .int .i64 x.2.2.2]) (.agg #[.int .i64 y.1, .int .i64 y.2.1, .int .i64 y.2.2.1, .int .i64 y.2.2.2])).run Try.prog w = .ok (eqC x y) w := by
  obtain ⟨a, b, c, e, E, n1, n2, n3, n4, t1, t2, t3, t4, o1, o2, o3, o4⟩ := hf
  have h1 : a.name ≠ "_" := by rw [n1]; decide
  have h2 : b.name ≠ "_" := by rw [n2]; decide
  have h3 : c.name ≠ "_" := by rw [n3]; decide
  have h4 : e.name ≠ "_" := by rw [n4]; decide
  have pa : ∀ (x : Ch) W, (part 3 #[.int .i64 x.1, .int .i64 x.2.1, .int .i64 x.2.2.1, .int .i64 x.2.2.2] 0).run Try.prog W = .ok (.int .i64 x.1) W := fun x W => run_part_plain W plain3 rfl
  have pb : ∀ (x : Ch) W, (part 3 #[.int .i64 x.1, .int .i64 x.2.1, .int .i64 x.2.2.1, .int .i64 x.2.2.2] 1).run Try.prog W = .ok (.int .i64 x.2.1) W := fun x W => run_part_plain W plain3 rfl
  have pc : ∀ (x : Ch) W, (part 2 #[.int .i64 x.1, .int .i64 x.2.1, .int .i64 x.2.2.1, .int .i64 x.2.2.2] 2).run Try.prog W = .ok (.int .i64 x.2.2.1) W := fun x W => run_part_plain W plain2 rfl
  have pd : ∀ (x : Ch) W, (part 2 #[.int .i64 x.1, .int .i64 x.2.1, .int .i64 x.2.2.1, .int .i64 x.2.2.2] 3).run Try.prog W = .ok (.int .i64 x.2.2.2) W := fun x W => run_part_plain W plain2 rfl
  have qf : ∀ (a b : Int) W, (Op.equalIn (d + 1) 3 (.int .i64 a) (.int .i64 b)).run Try.prog W = .ok (a == b) W := fun a b W => run_equalIn_int W d 3 .i64 .i64 a b Try.underlying3
  have qg : ∀ (a b : Int) W, (Op.equalIn (d + 1) 2 (.int .i64 a) (.int .i64 b)).run Try.prog W = .ok (a == b) W := fun a b W => run_equalIn_int W d 2 .i64 .i64 a b Try.underlying2
  rw [run_equalIn_struct w (d + 1) t _ _ ht hp, E]
  simp only [Op.eqFields, if_pos h1, if_pos h2, if_pos h3, if_pos h4, t1, t2, t3, t4, o1, o2, o3, o4, Sem.run_bind, pa, pb, pc, pd, qf, qg, Result.andThen_ok, Sem.run_ite, Sem.run_pure, eqC]
  cases x.1 == y.1 <;> cases x.2.1 == y.2.1 <;> cases x.2.2.1 == y.2.2.1 <;> cases x.2.2.2 == y.2.2.2 <;> simp
theorem eqv_ch39 (x y : Ch) (w : World) : (binOp .eql 39 (chV x) (chV y)).run Try.prog w = .ok (.bool (eqC x y)) w := by
  unfold chV
  rw [run_eql_struct, eq_ch_of 39 (by kernel_rfl) (by kernel_rfl) fields39 9998 x y]; rfl
theorem nev_ch39 (x y : Ch) (w : World) : (binOp .neq 39 (chV x) (chV y)).run Try.prog w = .ok (.bool (!eqC x y)) w := by
  unfold chV
  rw [run_neq_struct, eq_ch_of 39 (by kernel_rfl) (by kernel_rfl) fields39 9998 x y]; rfl
theorem guard39 : Try.prog.eqGuardType Try.prog.depth 39 = false := by kernel_rfl
theorem eqv_ch102 (x y : Ch) (w : World) : (binOp .eql 102 (chV x) (chV y)).run Try.prog w = .ok (.bool (eqC x y)) w := by
  unfold chV
  rw [run_eql_struct, eq_ch_of 102 (by kernel_rfl) (by kernel_rfl) fields102 9998 x y]; rfl
theorem nev_ch102 (x y : Ch) (w : World) : (binOp .neq 102 (chV x) (chV y)).run Try.prog w = .ok (.bool (!eqC x y)) w := by
  unfold chV
  rw [run_neq_struct, eq_ch_of 102 (by kernel_rfl) (by kernel_rfl) fields102 9998 x y]; rfl
theorem guard102 : Try.prog.eqGuardType Try.prog.depth 102 = false := by kernel_rfl
set_option maxRecDepth 100000 in
set_option maxHeartbeats 400000 in
theorem equalD_any (v1 v2 : Value) (cs ds : List Ch) (w : World) (h1 : SrcD w v1 cs) (h2 : SrcD w v2 ds) : Calls Try.prog 19 #[v1, v2] w fun e w' => e = .returned (.bool (decide (cs = ds))) ∧ Below w.heap.size w w' := by
  have b1 := h1.small
  have b2 := h2.small
  obtain ⟨a1, c1, rfl⟩ := h1.shape
  obtain ⟨a2, c2, rfl⟩ := h2.shape
  have H1 := Hd.mk h1
  have H2 := Hd.mk h2
  clear h1 h2
  by_cases hl : cs.length = ds.length
  · have HL := Hd.mk hl
    rw [← hl]
    rw [← hl] at H2 b2
    clear hl b2
    go_enter Try.func19, Try.ntmps19
    go_wp2_with fail
    go_loopw [13] (fun i W => ∃ k : Nat, k ≤ cs.length ∧ i = .int .i64 k ∧ Hd (cs.take k = ds.take k) ∧ Below w.heap.size w W) (fun i _ => cs.length - (intOf i).toNat)
    case atStart => exact ⟨0, by omega, rfl, ⟨by simp⟩, Below.refl _ _⟩
    case round =>
      obtain ⟨k, hk, rfl, HK, hB⟩ := hrel
      by_cases hlt : k < cs.length
      · have hlt2 : k < ds.length := by have := HL.out; omega
        obtain ⟨x, offx, rfl, hx, hx1, hx2, hx3, hx4⟩ := (H1.out.below hB).at k hlt
        obtain ⟨y, offy, rfl, hy, hy1, hy2, hy3, hy4⟩ := (H2.out.below hB).at k hlt2
        have hnev := fun W => nev_ch39 cs[k] ds[k] W
        have hgd := guard39
        have HT : Hd (eqC cs[k] ds[k] = decide (cs[k] = ds[k])) := ⟨eqC_eq _ _⟩
        rw [HT.out] at hnev
        simp only [chV] at hnev
        obtain ⟨p, hp⟩ : ∃ p, cs[k].1 = p := ⟨_, rfl⟩
        rw [hp] at hx1 hnev
        obtain ⟨p', hp'⟩ : ∃ p, ds[k].1 = p := ⟨_, rfl⟩
        rw [hp'] at hy1 hnev
        obtain ⟨q, hq⟩ : ∃ p, cs[k].2.1 = p := ⟨_, rfl⟩
        rw [hq] at hx2 hnev
        obtain ⟨q', hq'⟩ : ∃ p, ds[k].2.1 = p := ⟨_, rfl⟩
        rw [hq'] at hy2 hnev
        obtain ⟨r, hr⟩ : ∃ p, cs[k].2.2.1 = p := ⟨_, rfl⟩
        rw [hr] at hx3 hnev
        obtain ⟨r', hr'⟩ : ∃ p, ds[k].2.2.1 = p := ⟨_, rfl⟩
        rw [hr'] at hy3 hnev
        obtain ⟨s, hs⟩ : ∃ p, cs[k].2.2.2 = p := ⟨_, rfl⟩
        rw [hs] at hx4 hnev
        obtain ⟨s', hs'⟩ : ∃ p, ds[k].2.2.2 = p := ⟨_, rfl⟩
        rw [hs'] at hy4 hnev
        clear hp hq hr hs hp' hq' hr' hs' HT
        by_cases he : cs[k] = ds[k]
        · rw [decide_eq_true he] at hnev
          have HN : Hd (cs.take (k + 1) = ds.take (k + 1)) := ⟨by rw [List.take_succ_eq_append_getElem hlt, List.take_succ_eq_append_getElem hlt2, HK.out, he]⟩
          clear he HK
          go_wp2_with fail
          go_quiet (fail)
          go_wp2_with fail
          go_roundw
          case rel => exact ⟨k + 1, by omega, by go_num, HN, below_drewN hB _⟩
          case measure => simp [intOf]; omega
        · rw [decide_eq_false he] at hnev
          have HN : Hd (decide (cs = ds) = false) := ⟨decide_eq_false fun h => he (by subst h; rfl)⟩
          clear he HK
          go_wp2_with fail
          go_quiet (fail)
          go_wp2_with fail
          go_ret
          exact ⟨by rw [HN.out]; rfl, below_drewN hB _⟩
      · obtain rfl : k = cs.length := by omega
        have HN : Hd (decide (cs = ds) = true) := ⟨decide_eq_true (by have := HK.out; rw [List.take_length, HL.out, List.take_length] at this; exact this)⟩
        clear HK
        go_wp2_with fail
        go_ret
        exact ⟨by rw [HN.out]; rfl, hB⟩
  · have HN : Hd (decide (cs = ds) = false) := ⟨decide_eq_false fun h => hl (by rw [h])⟩
    go_enter Try.func19, Try.ntmps19
    go_wp2_with fail
    go_ret
    exact ⟨by rw [HN.out]; rfl, Below.refl _ _⟩
theorem equalD_at {l m : List Ch} {b : Bool} (hb : decide (l = m) = b) {v pv : Value} {w : World} (h : SrcD w v l) (hp : SrcD w pv m) :
    Calls Try.prog 19 #[v, pv] w fun e w' => e = .returned (.bool b) ∧ Below w.heap.size w w' := by
  have := equalD_any v pv l m w h hp
  rw [hb] at this; exact this
/-- A literal slice of changes. -/
theorem srcLitD (w : World) (l : List Ch) (hl : l.length ≤ 100000) : SrcD (w.alloc (.cells (flat4 l).toArray 39)) (.slice (some ⟨w.heap.size, 0, none⟩) l.length l.length) l :=
  .inr ⟨w.heap.size, 0, l.length, rfl, Nat.le_refl _, by simp only [maxLen]; omega, by simp, fun j hj r hr => by
    rw [cells_cell (World.alloc_heap_new w _), Nat.zero_add]
    simpa using flat4_get l j hj r hr⟩
end Go.Proofs.Ytnhkadknibinfaa
