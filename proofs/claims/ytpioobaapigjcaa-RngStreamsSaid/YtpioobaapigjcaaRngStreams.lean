/- The law RngStreams: the row's proof, out of the walk. -/
import Derived.Test.YtpioobaapigjcaaRows
import Derived.Test.YtpioobaapigjcaaD2
import Derived.WalkKit
import Derived.ProofKit
import Derived.OpenShut
import Derived.ShutString
import Derived.ChangeOld
import Derived.Below
import Derived.Test.YtpioobaapigjcaaStructs
namespace Go.Proofs.Ytpioobaapigjcaa.rngStreams
open Go.ChangeShapes Go.WideShapes Go.ChangeAt Go.RowKit
open Go.ChangeMaps (open_string shut_string)
set_option linter.unusedVariables false

theorem own : ownKnob Try.prog.godebug = none := by kernel_rfl
theorem laidOut : laidOutB Try.prog = true := by kernel_rfl

theorem kinds2 : ∀ (j : Nat) (k : IntKind), ([.u8, .i64] : List IntKind)[j]? = some k → ∃ f, (#[{ name := "Kind", type := 5, offset := 0, embedded := false, tag := "", pkgPath := "", byteOffset := 0 }, { name := "N", type := 2, offset := 1, embedded := false, tag := "", pkgPath := "", byteOffset := 8 }] : Array Field)[j]? = some f ∧ Try.prog.underlying f.type = some (.int k) := by
  intro j k hj
  match j with
  | 0 => simp at hj; subst hj; exact ⟨_, rfl, by kernel_rfl⟩
  | 1 => simp at hj; subst hj; exact ⟨_, rfl, by kernel_rfl⟩
  | _ + 2 => simp at hj

theorem walk (a0 : Int) (a1 : Int) (a2 : Option Addr) (len2 cap2 : Nat) (w : World) (w0 : (Lit.int .u64 a0).wf = true) (w1 : (Lit.int .i64 a1).wf = true) (w2 : IsRowS [.u8, .i64] w a2 len2 cap2) :
    Calls Try.prog 8 #[.int .u64 a0, .int .i64 a1, .slice a2 len2 cap2] w fun e w' => e = .returned (.bool true) ∧ Below w.heap.size w w' := by
  obtain ⟨x, hx⟩ := u_open w0
  rw [hx]
  by_cases hp : a1 < 0 ∨ 65536 < a1
  · exact streams_no x a1 hp a2 len2 cap2 w
  have hb : 0 ≤ a1 ∧ a1 ≤ 65536 := by omega
  by_cases hl : 100 < len2
  · exact streams_long x a1 hb.1 hb.2 a2 len2 cap2 hl w
  by_cases h0 : len2 = 0
  · subst h0
    exact streams_empty x a1 hb.1 hb.2 a2 cap2 w
  rcases w2 with ⟨_, h, _⟩ | ⟨y, rfl, hlc, hm, hc⟩
  · exact absurd h h0
  obtain ⟨b, off, rfl, hbw, hcells⟩ := IsRowS.plain (len := len2) (cap := cap2) (.inr ⟨y, rfl, hlc, hm, hc⟩) (by omega) ⟨_, rfl⟩
  refine streams_yes x a1 hb.1 hb.2 b off len2 cap2 (by omega) w (.inr ⟨b, off, cap2, rfl, hbw, fun i hi => ?_⟩)
  obtain ⟨k, hk, wk⟩ := hcells i (by omega) 0 _ rfl
  obtain ⟨m, hm, wm⟩ := hcells i (by omega) 1 _ rfl
  have b1 := bounds_u8 wk
  have b2 := bounds_i64 wm
  exact ⟨k, m, hk, hm, by omega, by omega, by omega, by omega⟩

set_option maxRecDepth 100000 in
theorem lifted (os : Os) (started : os.Started) (H : Type) (enc : TypeId × Value → H) :
    ReturnsInHanded {} Try.checked os 8 .any (Rows.rngStreamsSpec.pre6 enc Try.prog Try.f8 Rows.rngStreamsRow.domain false) (Rows.rngStreamsSpec.post enc Try.prog Try.f8 false true false false) := by
  refine returnsInHanded_of_change (C := Try.checked) own started (by kernel_rfl) Try.func8
    (ChangeSpec.witness6 (enc := enc) (C := Try.checked) false ⟨#[], #[.int .u64 0, .int .i64 0, .slice none 0 0], []⟩ 8 (by kernel_rfl) (by kernel_rfl) (by kernel_rfl) (by kernel_rfl)) ?_
  intro W base args ds gs before hval0 hW hcnd _
  have hval : ∀ (j : Nat) t v, Try.f8.params[j]? = some t → args[j]? = some v → Value.okWide Try.prog W .any base t v := hval0
  have hW' := hW
  obtain ⟨p, q, hA0, hV, rfl, hfz, hnd⟩ := hW
  have hA : DataW.TrodAll enc Try.prog W 0 (fun _ => true) true Try.f8.params.toList args.toList ds p := hA0
  rw [Try.params8] at hA hval
  obtain ⟨v0, vs0, d0, ds0, p0, q0, hargs, rfl, rfl, h0, r0⟩ := trodAll_cons hA
  obtain ⟨v1, vs1, d1, ds1, p1, q1, rfl, rfl, rfl, h1, r1⟩ := trodAll_cons r0
  obtain ⟨v2, vs2, d2, ds2, p2, q2, rfl, rfl, rfl, h2, r2⟩ := trodAll_cons r1
  obtain ⟨rfl, rfl, rfl⟩ := trodAll_nil r2
  obtain rfl : args = #[v0, v1, v2] := by cases args; simp_all
  obtain ⟨rfl, rfl⟩ := trodVars_none hV
  obtain ⟨a0, rfl, rfl, rfl, w0⟩ := open_int Try.underlying22 (hval 0 22 v0 rfl rfl) h0
  obtain ⟨a1, rfl, rfl, rfl, w1⟩ := open_int Try.underlying3 (hval 1 3 v1 rfl rfl) h1
  obtain ⟨a2, len2, cap2, rfl⟩ := okWide_slice Try.underlying41 (hval 2 41 v2 rfl rfl)
  have k2 := h2
  have lt2 : ∀ x ∈ p2, x.block < W.heap.size := by obtain ⟨m, hm⟩ := k2; exact DataW.trod_lt m _ _ _ hm
  have w2 : IsRowS [.u8, .i64] W a2 len2 cap2 := open_rowS _ Try.underlying41 Try.underlying47 (by kernel_rfl) (by kernel_rfl) (by kernel_rfl) (kinds2) rfl h2
  clear hA0 hval0
  refine (walk a0 a1 a2 len2 cap2 W w0 w1 w2).mono fun e W' ⟨he, bel⟩ => ?_
  subst he
  exact ⟨_, rfl, _, _, _, [], _, [], hW', trodAll_mk1 (shut_bool Try.underlying4 _), (trodAll_cons_mk (shut_int Try.underlying22 w0) (trodAll_cons_mk (shut_int Try.underlying3 w1) (trodAll_cons_mk (Below.trod laidOut (by kernel_rfl) (of_decide_eq_true (by kernel_rfl)) k2 bel lt2) trodAll_mk0))), rfl, bel.frame _, fun h => by cases h⟩

theorem over : Rows.rngStreamsRow.holds Try.pinned (OpenSpec.ofChange Rows.rngStreamsSpec) :=
  OpenClaim.holds_of_wide 8 Try.f8 rfl rfl rfl rfl rfl rfl rfl ⟨rfl, rfl, rfl, rfl, rfl⟩ rfl rfl rfl rfl rfl (by kernel_rfl) Try.func8 (by kernel_rfl)
    (of_decide_eq_true (by kernel_rfl)) (by unfold Func.isWrapper; first | (rw [if_pos (by decide +kernel)]; kernel_rfl) | (rw [if_neg (by decide +kernel)]; exact ⟨rfl, rfl⟩))
    (fun os started H enc _ => lifted os started H enc)

theorem proved : Rows.RngStreamsSaid := over
end Go.Proofs.Ytpioobaapigjcaa.rngStreams
