/- Arrays of four integers by value: taken and given back. -/
import Derived.Test.YtppfhcocmpmadaaRows
import Derived.WideKeyPair
import Derived.WideKeyArr2
namespace Go.Proofs.Ytppfhcocmpmadaa
open Go.ChangeShapes Go.WideShapes Go.WideMaps
set_option linter.unusedVariables false
section
variable {H : Type} {enc : TypeId × Value → H} {P : Program} {k e : TypeId} {q : IntKind} {W : World} {base : Nat} {sp : Nat → Bool} {held : Bool}

theorem okWide_four (A : ArrKey P k e 4) {r : Reach} {b0 : Nat} {v : Value} (h : Value.okWide P W r b0 k v) : ∃ c0 c1 c2 c3, v = .agg #[c0, c1, c2, c3] := by
  obtain ⟨xs, rfl, hn⟩ := okWide_arr A h
  obtain ⟨l⟩ := xs
  match l, hn with
  | [c0, c1, c2, c3], _ => exact ⟨c0, c1, c2, c3, rfl⟩

theorem open_four (A : ArrKey P k e 4) (he : P.underlying e = some (.int q)) {r : Reach} {b0 : Nat} {v : Value} {d : DataW H} {ps : List MemPlace} (hval : Value.okWide P W r b0 k v) (hd : DataW.Trod enc P W base sp held k v d ps) :
    ∃ f : Nat → Int, v = .agg #[.int q (f 0), .int q (f 1), .int q (f 2), .int q (f 3)] ∧ d = .agg [.lit (.int q (f 0)), .lit (.int q (f 1)), .lit (.int q (f 2)), .lit (.int q (f 3))] ∧ ps = [] ∧ ∀ j, j < 4 → (Lit.int q (f j)).wf = true := by
  obtain ⟨c0, c1, c2, c3, rfl⟩ := okWide_four A hval
  obtain ⟨fuel, hf⟩ := hd
  cases fuel with
  | zero => simp [DataW.trod] at hf
  | succ n =>
    rw [DataW.trod_step] at hf
    unfold DataW.trodStep at hf
    simp only [A.hu, Value.cells] at hf
    rw [if_pos (by rw [A.size]; rfl)] at hf
    simp only [Option.map_eq_some_iff] at hf
    obtain ⟨xs, hx, e1⟩ := hf
    rw [show List.range 4 = [0, 1, 2, 3] from rfl, List.mapM_cons, List.mapM_cons, List.mapM_cons, List.mapM_cons, List.mapM_nil] at hx
    simp only [bind, Option.bind_eq_some_iff, pure, Option.some.injEq, A.one] at hx
    obtain ⟨y0, h0, _, ⟨y1, h1, _, ⟨y2, h2, _, ⟨y3, h3, _, rfl, rfl⟩, rfl⟩, rfl⟩, rfl⟩ := hx
    obtain ⟨a, ea, rfl, wa⟩ := DataW.trod_int he h0
    obtain ⟨b, eb, rfl, wb⟩ := DataW.trod_int he h1
    obtain ⟨c, ec, rfl, wc⟩ := DataW.trod_int he h2
    obtain ⟨g, eg, rfl, wg⟩ := DataW.trod_int he h3
    simp at ea eb ec eg
    subst ea; subst eb; subst ec; subst eg
    simp only [Prod.mk.injEq] at e1
    refine ⟨fun j => if j = 0 then a else if j = 1 then b else if j = 2 then c else g, rfl, by rw [← e1.1]; rfl, by rw [← e1.2]; rfl, fun j hj => ?_⟩
    have : j = 0 ∨ j = 1 ∨ j = 2 ∨ j = 3 := by omega
    rcases this with rfl | rfl | rfl | rfl
    · exact wa
    · exact wb
    · exact wc
    · exact wg

theorem shut_four (A : ArrKey P k e 4) (he : P.underlying e = some (.int q)) {f : Nat → Int} (w : ∀ j, j < 4 → (Lit.int q (f j)).wf = true) :
    DataW.Trod enc P W base sp held k (.agg #[.int q (f 0), .int q (f 1), .int q (f 2), .int q (f 3)]) (.agg [.lit (.int q (f 0)), .lit (.int q (f 1)), .lit (.int q (f 2)), .lit (.int q (f 3))]) [] :=
  ⟨2, by
    show DataW.trod enc P W base sp held (1 + 1) k [.int q (f 0), .int q (f 1), .int q (f 2), .int q (f 3)] = _
    rw [DataW.trod_step]
    unfold DataW.trodStep
    simp only [A.hu]
    rw [if_pos (by rw [A.size]; rfl), show List.range 4 = [0, 1, 2, 3] from rfl, List.mapM_cons, List.mapM_cons, List.mapM_cons, List.mapM_cons, List.mapM_nil]
    simp [A.one, DataW.trod, he, w 0 (by decide), w 1 (by decide), w 2 (by decide), w 3 (by decide)]⟩
theorem arr22 : ArrKey Try.prog 22 5 4 := ⟨by kernel_rfl, by kernel_rfl, by kernel_rfl, by kernel_rfl⟩
theorem under5 : Try.prog.underlying 5 = some (.int .u8) := by kernel_rfl
end
end Go.Proofs.Ytppfhcocmpmadaa
