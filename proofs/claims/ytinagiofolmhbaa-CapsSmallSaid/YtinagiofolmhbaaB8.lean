/- Equality of handles, of their slices, of slices of integers. -/
import Derived.Test.YtinagiofolmhbaaB7
namespace Go.Proofs.Ytinagiofolmhbaa
open Go.RowKit
set_option linter.unusedVariables false
set_option linter.unusedSimpArgs false

theorem plain3 : Try.prog.plainKey 3 = true := by kernel_rfl
theorem plain32 : Try.prog.plainKey 32 = true := by kernel_rfl
theorem fields34 : ∃ a b c d e : Field, (Try.prog.fieldsOf 34).toList = [a, b, c, d, e] ∧ a.name = "Serial" ∧ b.name = "Parent" ∧ c.name = "Port" ∧ d.name = "Holder" ∧ e.name = "Rights" ∧ a.type = 3 ∧ b.type = 3 ∧ c.type = 3 ∧ d.type = 3 ∧ e.type = 32 ∧ a.offset = 0 ∧ b.offset = 1 ∧ c.offset = 2 ∧ d.offset = 3 ∧ e.offset = 4 :=
  ⟨(Try.prog.fieldsOf 34)[0]!, (Try.prog.fieldsOf 34)[1]!, (Try.prog.fieldsOf 34)[2]!, (Try.prog.fieldsOf 34)[3]!, (Try.prog.fieldsOf 34)[4]!, by kernel_rfl, by kernel_rfl, by kernel_rfl, by kernel_rfl, by kernel_rfl, by kernel_rfl, by kernel_rfl, by kernel_rfl, by kernel_rfl, by kernel_rfl, by kernel_rfl, by kernel_rfl, by kernel_rfl, by kernel_rfl, by kernel_rfl, by kernel_rfl⟩
def eqH (x y : Hn) : Bool := x.ser == y.ser && (x.par == y.par && (x.port == y.port && (x.hol == y.hol && ((x.rts.toNat : Int) == (y.rts.toNat : Int)))))
theorem eqH_eq (x y : Hn) : eqH x y = decide (x = y) := by
  obtain ⟨a, b, c, d, e⟩ := x
  obtain ⟨a', b', c', d', e'⟩ := y
  unfold eqH
  rw [Bool.eq_iff_iff, Bool.and_eq_true, Bool.and_eq_true, Bool.and_eq_true, Bool.and_eq_true, beq_iff_eq, beq_iff_eq, beq_iff_eq, beq_iff_eq, beq_iff_eq, decide_eq_true_eq, Hn.mk.injEq]
  constructor
  · rintro ⟨h1, h2, h3, h4, h5⟩
    exact ⟨h1, h2, h3, h4, BitVec.eq_of_toNat_eq (by exact_mod_cast h5)⟩
  · rintro ⟨h1, h2, h3, h4, h5⟩
    subst h5
    exact ⟨h1, h2, h3, h4, rfl⟩
theorem eq_h34 (d : Nat) (x y : Hn) (w : World) : (Op.equalIn (d + 2) 34 (.agg #[.int .i64 x.ser, .int .i64 x.par, .int .i64 x.port, .int .i64 x.hol, h8 x.rts]) (.agg #[.int .i64 y.ser, .int .i64 y.par, .int .i64 y.port, .int .i64 y.hol, h8 y.rts])).run Try.prog w = .ok (eqH x y) w := by
  obtain ⟨a, b, c, e, f, E, n1, n2, n3, n4, n5, t1, t2, t3, t4, t5, o1, o2, o3, o4, o5⟩ := fields34
  have h1 : a.name ≠ "_" := by rw [n1]; decide
  have h2 : b.name ≠ "_" := by rw [n2]; decide
  have h3 : c.name ≠ "_" := by rw [n3]; decide
  have h4 : e.name ≠ "_" := by rw [n4]; decide
  have h5 : f.name ≠ "_" := by rw [n5]; decide
  have p0 : ∀ (x : Hn) W, (part 3 #[.int .i64 x.ser, .int .i64 x.par, .int .i64 x.port, .int .i64 x.hol, .int .u8 (x.rts.toNat : Int)] 0).run Try.prog W = .ok (.int .i64 x.ser) W := fun x W => run_part_plain W plain3 rfl
  have p1 : ∀ (x : Hn) W, (part 3 #[.int .i64 x.ser, .int .i64 x.par, .int .i64 x.port, .int .i64 x.hol, .int .u8 (x.rts.toNat : Int)] 1).run Try.prog W = .ok (.int .i64 x.par) W := fun x W => run_part_plain W plain3 rfl
  have p2 : ∀ (x : Hn) W, (part 3 #[.int .i64 x.ser, .int .i64 x.par, .int .i64 x.port, .int .i64 x.hol, .int .u8 (x.rts.toNat : Int)] 2).run Try.prog W = .ok (.int .i64 x.port) W := fun x W => run_part_plain W plain3 rfl
  have p3 : ∀ (x : Hn) W, (part 3 #[.int .i64 x.ser, .int .i64 x.par, .int .i64 x.port, .int .i64 x.hol, .int .u8 (x.rts.toNat : Int)] 3).run Try.prog W = .ok (.int .i64 x.hol) W := fun x W => run_part_plain W plain3 rfl
  have p4 : ∀ (x : Hn) W, (part 32 #[.int .i64 x.ser, .int .i64 x.par, .int .i64 x.port, .int .i64 x.hol, .int .u8 (x.rts.toNat : Int)] 4).run Try.prog W = .ok (.int .u8 (x.rts.toNat : Int)) W := fun x W => run_part_plain W plain32 rfl
  have qf : ∀ (a b : Int) W, (Op.equalIn (d + 1) 3 (.int .i64 a) (.int .i64 b)).run Try.prog W = .ok (a == b) W := fun a b W => run_equalIn_int W d 3 .i64 .i64 a b Try.underlying3
  have qg : ∀ (a b : Int) W, (Op.equalIn (d + 1) 32 (.int .u8 a) (.int .u8 b)).run Try.prog W = .ok (a == b) W := fun a b W => run_equalIn_int W d 32 .u8 .u8 a b Try.underlying32
  unfold h8
  rw [run_equalIn_struct w (d + 1) 34 _ _ (by kernel_rfl) (by kernel_rfl), E]
  simp only [Op.eqFields, if_pos h1, if_pos h2, if_pos h3, if_pos h4, if_pos h5, t1, t2, t3, t4, t5, o1, o2, o3, o4, o5, Sem.run_bind, p0, p1, p2, p3, p4, qf, qg, Result.andThen_ok, Sem.run_ite, Sem.run_pure, eqH]
  cases x.ser == y.ser <;> cases x.par == y.par <;> cases x.port == y.port <;> cases x.hol == y.hol <;> cases ((x.rts.toNat : Int) == (y.rts.toNat : Int)) <;> simp
theorem eqv_h34 (x y : Hn) (w : World) : (binOp .eql 34 (hV x) (hV y)).run Try.prog w = .ok (.bool (decide (x = y))) w := by
  unfold hV
  rw [run_eql_struct, eq_h34 9998 x y, eqH_eq]; rfl
theorem nev_h34 (x y : Hn) (w : World) : (binOp .neq 34 (hV x) (hV y)).run Try.prog w = .ok (.bool (!decide (x = y))) w := by
  unfold hV
  rw [run_neq_struct, eq_h34 9998 x y, eqH_eq]; rfl
theorem guard34 : Try.prog.eqGuardType Try.prog.depth 34 = false := by kernel_rfl
set_option maxRecDepth 100000 in
set_option maxHeartbeats 400000 in
theorem equalH_any (v1 v2 : Value) (cs ds : List Hn) (w : World) (h1 : SrcN hL w v1 cs) (h2 : SrcN hL w v2 ds) : Calls Try.prog 19 #[v1, v2] w fun e w' => e = .returned (.bool (decide (cs = ds))) ∧ Below w.heap.size w w' := by
  have b1 := h1.small
  have b2 := h2.small
  obtain ⟨a1, c1, rfl⟩ := h1.shape
  obtain ⟨a2, c2, rfl⟩ := h2.shape
  have H1 := Hd.mk h1
  have H2 := Hd.mk h2
  clear h1 h2
  by_cases hl : cs.length = ds.length
  · have HL := Hd.mk hl
    rw [← hl]
    rw [← hl] at H2 b2
    clear hl b2
    go_enter Try.func19, Try.ntmps19
    go_wp2_with fail
    go_loopw [13] (fun i W => ∃ k : Nat, k ≤ cs.length ∧ i = .int .i64 k ∧ Hd (cs.take k = ds.take k) ∧ Below w.heap.size w W) (fun i _ => cs.length - (intOf i).toNat)
    case atStart => exact ⟨0, by omega, rfl, ⟨by simp⟩, Below.refl _ _⟩
    case round =>
      obtain ⟨k, hk, rfl, HK, hB⟩ := hrel
      by_cases hlt : k < cs.length
      · have hlt2 : k < ds.length := by have := HL.out; omega
        obtain ⟨x, offx, rfl, hx, hxc⟩ := (H1.out.below hB).at k hlt
        obtain ⟨y, offy, rfl, hy, hyc⟩ := (H2.out.below hB).at k hlt2
        have hnev := fun W => nev_h34 cs[k] ds[k] W
        have hgd := guard34
        have hx0 : wr.cell? ⟨x, offx + k * 5, none⟩ = some (.int .i64 cs[k].ser) := hxc 0 _ rfl
        have hy0 : wr.cell? ⟨y, offy + k * 5, none⟩ = some (.int .i64 ds[k].ser) := hyc 0 _ rfl
        have hx1 : wr.cell? ⟨x, offx + k * 5 + 1, none⟩ = some (.int .i64 cs[k].par) := hxc 1 _ rfl
        have hy1 : wr.cell? ⟨y, offy + k * 5 + 1, none⟩ = some (.int .i64 ds[k].par) := hyc 1 _ rfl
        have hx2 : wr.cell? ⟨x, offx + k * 5 + 2, none⟩ = some (.int .i64 cs[k].port) := hxc 2 _ rfl
        have hy2 : wr.cell? ⟨y, offy + k * 5 + 2, none⟩ = some (.int .i64 ds[k].port) := hyc 2 _ rfl
        have hx3 : wr.cell? ⟨x, offx + k * 5 + 3, none⟩ = some (.int .i64 cs[k].hol) := hxc 3 _ rfl
        have hy3 : wr.cell? ⟨y, offy + k * 5 + 3, none⟩ = some (.int .i64 ds[k].hol) := hyc 3 _ rfl
        have hx4 : wr.cell? ⟨x, offx + k * 5 + 4, none⟩ = some (h8 cs[k].rts) := hxc 4 _ rfl
        have hy4 : wr.cell? ⟨y, offy + k * 5 + 4, none⟩ = some (h8 ds[k].rts) := hyc 4 _ rfl
        simp only [hV] at hnev
        obtain ⟨q, hq⟩ : ∃ q, (decide (cs[k] = ds[k])) = q := ⟨_, rfl⟩
        rw [hq] at hnev
        obtain ⟨p0, hp⟩ : ∃ p, cs[k].ser = p := ⟨_, rfl⟩
        rw [hp] at hx0 hnev
        clear hp
        obtain ⟨r0, hp⟩ : ∃ p, ds[k].ser = p := ⟨_, rfl⟩
        rw [hp] at hy0 hnev
        clear hp
        obtain ⟨p1, hp⟩ : ∃ p, cs[k].par = p := ⟨_, rfl⟩
        rw [hp] at hx1 hnev
        clear hp
        obtain ⟨r1, hp⟩ : ∃ p, ds[k].par = p := ⟨_, rfl⟩
        rw [hp] at hy1 hnev
        clear hp
        obtain ⟨p2, hp⟩ : ∃ p, cs[k].port = p := ⟨_, rfl⟩
        rw [hp] at hx2 hnev
        clear hp
        obtain ⟨r2, hp⟩ : ∃ p, ds[k].port = p := ⟨_, rfl⟩
        rw [hp] at hy2 hnev
        clear hp
        obtain ⟨p3, hp⟩ : ∃ p, cs[k].hol = p := ⟨_, rfl⟩
        rw [hp] at hx3 hnev
        clear hp
        obtain ⟨r3, hp⟩ : ∃ p, ds[k].hol = p := ⟨_, rfl⟩
        rw [hp] at hy3 hnev
        clear hp
        obtain ⟨p4, hp⟩ : ∃ p, cs[k].rts = p := ⟨_, rfl⟩
        rw [hp] at hx4 hnev
        clear hp
        obtain ⟨r4, hp⟩ : ∃ p, ds[k].rts = p := ⟨_, rfl⟩
        rw [hp] at hy4 hnev
        clear hp
        have HQ := Hd.mk hq
        clear hxc hyc hq
        cases q with
        | true =>
          have he := of_decide_eq_true HQ.out
          have HN : Hd (cs.take (k + 1) = ds.take (k + 1)) := ⟨by rw [List.take_succ_eq_append_getElem hlt, List.take_succ_eq_append_getElem hlt2, HK.out, he]⟩
          clear he HK
          go_wp2_with fail
          go_quiet (fail)
          go_wp2_with fail
          go_roundw
          case rel => exact ⟨k + 1, by omega, by go_num, HN, below_drewN hB _⟩
          case measure => simp [intOf]; omega
        | false =>
          have he := of_decide_eq_false HQ.out
          have HN : Hd (decide (cs = ds) = false) := ⟨decide_eq_false fun h => he (by subst h; rfl)⟩
          clear he HK
          go_wp2_with fail
          go_quiet (fail)
          go_wp2_with fail
          go_ret
          exact ⟨by rw [HN.out]; rfl, below_drewN hB _⟩
      · obtain rfl : k = cs.length := by omega
        have HN : Hd (decide (cs = ds) = true) := ⟨decide_eq_true (by have := HK.out; rw [List.take_length, HL.out, List.take_length] at this; exact this)⟩
        clear HK
        go_wp2_with fail
        go_ret
        exact ⟨by rw [HN.out]; rfl, hB⟩
  · have HN : Hd (decide (cs = ds) = false) := ⟨decide_eq_false fun h => hl (by rw [h])⟩
    have hne : ¬ (cs.length : Int) = (ds.length : Int) := by omega
    go_enter Try.func19, Try.ntmps19
    go_wp2_with fail
    go_ret
    exact ⟨by rw [HN.out]; rfl, Below.refl _ _⟩
theorem equalH_at {l m : List Hn} {b : Bool} (hb : decide (l = m) = b) {v pv : Value} {w : World} (h : SrcN hL w v l) (hp : SrcN hL w pv m) :
    Calls Try.prog 19 #[v, pv] w fun e w' => e = .returned (.bool b) ∧ Below w.heap.size w w' := by
  have := equalH_any v pv l m w h hp
  rw [hb] at this; exact this
set_option maxRecDepth 100000 in
set_option maxHeartbeats 400000 in
theorem same_any (v1 v2 : Value) (l m : List Int) (w : World) (h1 : SrcI w v1 l) (h2 : SrcI w v2 m) : Calls Try.prog 34 #[v1, v2] w fun e w' => e = .returned (.bool (decide (l = m))) ∧ Below w.heap.size w w' := by
  have b1 := h1.small
  have b2 := h2.small
  obtain ⟨a1, c1, rfl⟩ := h1.shape
  obtain ⟨a2, c2, rfl⟩ := h2.shape
  have H1 := Hd.mk h1
  have H2 := Hd.mk h2
  clear h1 h2
  by_cases hl : l.length = m.length
  · have HL := Hd.mk hl
    rw [← hl]
    rw [← hl] at H2 b2
    clear hl b2
    go_enter Try.func34, Try.ntmps34
    go_wp2_with fail
    go_loopw [5] (fun i W => ∃ k : Nat, k ≤ l.length ∧ i = .int .i64 k ∧ Hd (l.take k = m.take k) ∧ Below w.heap.size w W) (fun i _ => l.length - (intOf i).toNat)
    case atStart => exact ⟨0, by omega, rfl, ⟨by simp⟩, Below.refl _ _⟩
    case round =>
      obtain ⟨k, hk, rfl, HK, hB⟩ := hrel
      by_cases hlt : k < l.length
      · have hlt2 : k < m.length := by have := HL.out; omega
        obtain ⟨x, offx, rfl, hx, hx1⟩ := (H1.out.below hB).at k hlt
        obtain ⟨y, offy, rfl, hy, hy1⟩ := (H2.out.below hB).at k hlt2
        have HN0 : Hd (l[k] = m[k] → l.take (k + 1) = m.take (k + 1)) := ⟨fun he => by rw [List.take_succ_eq_append_getElem hlt, List.take_succ_eq_append_getElem hlt2, HK.out, he]⟩
        have HN1 : Hd (l[k] ≠ m[k] → decide (l = m) = false) := ⟨fun he => decide_eq_false fun h => he (by subst h; rfl)⟩
        obtain ⟨p, hp⟩ : ∃ p, l[k] = p := ⟨_, rfl⟩
        obtain ⟨q, hq⟩ : ∃ p, m[k] = p := ⟨_, rfl⟩
        rw [hp, hq] at HN0 HN1
        rw [hp] at hx1
        rw [hq] at hy1
        clear hp hq
        have i0 : (0 : Int) ≤ (k : Int) := by omega
        have i1 : (k : Int) < (l.length : Int) := by omega
        by_cases he : p = q
        · have HN := Hd.mk (HN0.out he)
          subst he
          clear HK HN0 HN1
          go_wp2_with fail
          go_quiet (fail)
          go_wp2_with fail
          go_roundw
          case rel => exact ⟨k + 1, by omega, by go_num, HN, below_drewN hB _⟩
          case measure => simp [intOf]; omega
        · have HN := Hd.mk (HN1.out he)
          have hd : decide (p = q) = false := decide_eq_false he
          clear HK HN0 HN1
          go_wp2_with fail
          go_quiet (fail)
          go_wp2_with fail
          go_ret
          exact ⟨by rw [HN.out]; rfl, below_drewN hB _⟩
      · obtain rfl : k = l.length := by omega
        have HN : Hd (decide (l = m) = true) := ⟨decide_eq_true (by have := HK.out; rw [List.take_length, HL.out, List.take_length] at this; exact this)⟩
        clear HK
        go_wp2_with fail
        go_ret
        exact ⟨by rw [HN.out]; rfl, hB⟩
  · have hne : ¬ (l.length : Int) = (m.length : Int) := by omega
    have HN : Hd (decide (l = m) = false) := ⟨decide_eq_false fun h => hl (by rw [h])⟩
    go_enter Try.func34, Try.ntmps34
    go_wp2_with fail
    go_ret
    exact ⟨by rw [HN.out]; rfl, Below.refl _ _⟩
theorem same_at {l m : List Int} {b : Bool} (hb : decide (l = m) = b) {v pv : Value} {w : World} (h : SrcI w v l) (hp : SrcI w pv m) :
    Calls Try.prog 34 #[v, pv] w fun e w' => e = .returned (.bool b) ∧ Below w.heap.size w w' := by
  have := same_any v pv l m w h hp
  rw [hb] at this; exact this
end Go.Proofs.Ytinagiofolmhbaa
