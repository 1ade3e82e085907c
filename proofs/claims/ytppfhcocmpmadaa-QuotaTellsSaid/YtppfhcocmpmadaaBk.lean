/- A book by value (a struct of two arrays of four integers): taken and given back. -/
import Derived.Test.YtppfhcocmpmadaaArr4
import Derived.WideShapes
import Derived.ChangeArms
import Derived.OpenShut
namespace Go.Proofs.Ytppfhcocmpmadaa
open Go.ChangeShapes Go.WideShapes Go.WideMaps
set_option linter.unusedVariables false
section
variable {H : Type} {enc : TypeId × Value → H} {P : Program} {k e : TypeId} {q : IntKind} {W : World} {base : Nat} {sp : Nat → Bool} {held : Bool}

theorem four_of_trod (A : ArrKey P k e 4) (he : P.underlying e = some (.int q)) {c0 c1 c2 c3 : Value} {fuel : Nat} {x : DataW H × List MemPlace} (hf : DataW.trod enc P W base sp held fuel k [c0, c1, c2, c3] = some x) :
    ∃ f : Nat → Int, c0 = .int q (f 0) ∧ c1 = .int q (f 1) ∧ c2 = .int q (f 2) ∧ c3 = .int q (f 3) ∧ x = (.agg [.lit (.int q (f 0)), .lit (.int q (f 1)), .lit (.int q (f 2)), .lit (.int q (f 3))], []) ∧ ∀ j, j < 4 → (Lit.int q (f j)).wf = true := by
  cases fuel with
  | zero => simp [DataW.trod] at hf
  | succ n =>
    rw [DataW.trod_step] at hf
    unfold DataW.trodStep at hf
    simp only [A.hu] at hf
    rw [if_pos (by rw [A.size]; rfl)] at hf
    simp only [Option.map_eq_some_iff] at hf
    obtain ⟨xs, hx, e1⟩ := hf
    rw [show List.range 4 = [0, 1, 2, 3] from rfl, List.mapM_cons, List.mapM_cons, List.mapM_cons, List.mapM_cons, List.mapM_nil] at hx
    simp only [bind, Option.bind_eq_some_iff, pure, Option.some.injEq, A.one] at hx
    obtain ⟨y0, h0, _, ⟨y1, h1, _, ⟨y2, h2, _, ⟨y3, h3, _, rfl, rfl⟩, rfl⟩, rfl⟩, rfl⟩ := hx
    obtain ⟨a, ea, rfl, wa⟩ := DataW.trod_int he h0
    obtain ⟨b, eb, rfl, wb⟩ := DataW.trod_int he h1
    obtain ⟨c, ec, rfl, wc⟩ := DataW.trod_int he h2
    obtain ⟨g, eg, rfl, wg⟩ := DataW.trod_int he h3
    simp at ea eb ec eg
    subst ea; subst eb; subst ec; subst eg
    refine ⟨fun j => if j = 0 then a else if j = 1 then b else if j = 2 then c else g, rfl, rfl, rfl, rfl, by rw [← e1]; rfl, fun j hj => ?_⟩
    have : j = 0 ∨ j = 1 ∨ j = 2 ∨ j = 3 := by omega
    rcases this with rfl | rfl | rfl | rfl
    · exact wa
    · exact wb
    · exact wc
    · exact wg
theorem four_trod (A : ArrKey P k e 4) (he : P.underlying e = some (.int q)) {f : Nat → Int} (w : ∀ j, j < 4 → (Lit.int q (f j)).wf = true) (n : Nat) :
    DataW.trod enc P W base sp held (n + 2) k [.int q (f 0), .int q (f 1), .int q (f 2), .int q (f 3)] = some (.agg [.lit (.int q (f 0)), .lit (.int q (f 1)), .lit (.int q (f 2)), .lit (.int q (f 3))], []) := by
  show DataW.trod enc P W base sp held ((n + 1) + 1) k [.int q (f 0), .int q (f 1), .int q (f 2), .int q (f 3)] = _
  rw [DataW.trod_step]
  unfold DataW.trodStep
  simp only [A.hu]
  rw [if_pos (by rw [A.size]; rfl), show List.range 4 = [0, 1, 2, 3] from rfl, List.mapM_cons, List.mapM_cons, List.mapM_cons, List.mapM_cons, List.mapM_nil]
  simp [A.one, DataW.trod, he, w 0 (by decide), w 1 (by decide), w 2 (by decide), w 3 (by decide)]
end
theorem arr25 : ArrKey Try.prog 25 3 4 := ⟨by kernel_rfl, by kernel_rfl, by kernel_rfl, by kernel_rfl⟩
theorem under3 : Try.prog.underlying 3 = some (.int .i64) := by kernel_rfl
theorem under27 : Try.prog.underlying 27 = some (.struct (Try.prog.fieldsOf 27)) := by kernel_rfl
theorem cells27 : Try.prog.cellsOf 27 = 8 := by kernel_rfl
theorem cells25 : Try.prog.cellsOf 25 = 4 := by kernel_rfl
theorem bookFields : ∃ a b : Field, Try.prog.fieldsOf 27 = #[a, b] ∧ a.type = 25 ∧ b.type = 25 ∧ a.offset = 0 ∧ b.offset = 4 :=
  ⟨(Try.prog.fieldsOf 27)[0]!, (Try.prog.fieldsOf 27)[1]!, by kernel_rfl, by kernel_rfl, by kernel_rfl, by kernel_rfl, by kernel_rfl⟩
section
variable {H : Type} {enc : TypeId × Value → H} {W : World} {base : Nat} {sp : Nat → Bool} {held : Bool}
@[reducible] def bkLit (L U : Nat → Int) : Value := .agg #[.int .i64 (L 0), .int .i64 (L 1), .int .i64 (L 2), .int .i64 (L 3), .int .i64 (U 0), .int .i64 (U 1), .int .i64 (U 2), .int .i64 (U 3)]
@[reducible] def bkData (H : Type) (L U : Nat → Int) : DataW H := .agg [.agg [.lit (.int .i64 (L 0)), .lit (.int .i64 (L 1)), .lit (.int .i64 (L 2)), .lit (.int .i64 (L 3))], .agg [.lit (.int .i64 (U 0)), .lit (.int .i64 (U 1)), .lit (.int .i64 (U 2)), .lit (.int .i64 (U 3))]]
theorem open_book {r : Reach} {b0 : Nat} {v : Value} {d : DataW H} {ps : List MemPlace} (hval : Value.okWide Try.prog W r b0 27 v) (hd : DataW.Trod enc Try.prog W base sp held 27 v d ps) :
    ∃ L U : Nat → Int, v = bkLit L U ∧ d = bkData H L U ∧ ps = [] ∧ (∀ j, j < 4 → (Lit.int .i64 (L j)).wf = true) ∧ ∀ j, j < 4 → (Lit.int .i64 (U j)).wf = true := by
  obtain ⟨cs, rfl, hsz⟩ := okWide_struct under27 hval
  rw [cells27] at hsz
  obtain ⟨l⟩ := cs
  match l, hsz with
  | [c0, c1, c2, c3, c4, c5, c6, c7], _ =>
    obtain ⟨fuel, hf⟩ := hd
    obtain ⟨xs, n, -, hx, -, hl, hat⟩ := DataW.trod_struct under27 hf
    obtain ⟨a, b, hfs, t1, t2, o1, o2⟩ := bookFields
    rw [hfs] at hl hat
    have h0 := hat 0 a rfl
    have h1 := hat 1 b rfl
    rw [t1, o1, cells25] at h0
    rw [t2, o2, cells25] at h1
    match xs, hl with
    | [x, y], _ =>
      obtain ⟨L, rfl, rfl, rfl, rfl, rfl, wL⟩ := four_of_trod arr25 under3 (c0 := c0) (c1 := c1) (c2 := c2) (c3 := c3) (x := x) h0
      obtain ⟨U, rfl, rfl, rfl, rfl, rfl, wU⟩ := four_of_trod arr25 under3 (c0 := c4) (c1 := c5) (c2 := c6) (c3 := c7) (x := y) h1
      simp only [Prod.mk.injEq] at hx
      exact ⟨L, U, rfl, hx.1, hx.2, wL, wU⟩
theorem shut_book {L U : Nat → Int} (wL : ∀ j, j < 4 → (Lit.int .i64 (L j)).wf = true) (wU : ∀ j, j < 4 → (Lit.int .i64 (U j)).wf = true) :
    DataW.Trod enc Try.prog W base sp held 27 (bkLit L U) (bkData H L U) [] := by
  refine ⟨3, ?_⟩
  obtain ⟨a, b, hfs, t1, t2, o1, o2⟩ := bookFields
  show DataW.trod enc Try.prog W base sp held (2 + 1) 27 [.int .i64 (L 0), .int .i64 (L 1), .int .i64 (L 2), .int .i64 (L 3), .int .i64 (U 0), .int .i64 (U 1), .int .i64 (U 2), .int .i64 (U 3)] = _
  rw [DataW.trod_step]
  unfold DataW.trodStep
  simp only [under27, hfs]
  rw [if_pos (by rw [cells27]; rfl), List.mapM_cons, List.mapM_cons, List.mapM_nil]
  have h0 := four_trod (enc := enc) (W := W) (base := base) (sp := sp) (held := held) arr25 under3 wL 0
  have h1 := four_trod (enc := enc) (W := W) (base := base) (sp := sp) (held := held) arr25 under3 wU 0
  simp only [t1, t2, o1, o2, cells25, List.drop_zero, List.take_succ_cons, List.take_zero, List.drop_succ_cons, h0, h1, bind, Option.bind_some, pure, Option.map_some, List.map_cons, List.map_nil, List.flatMap_cons, List.flatMap_nil, List.append_nil]
end
end Go.Proofs.Ytppfhcocmpmadaa
