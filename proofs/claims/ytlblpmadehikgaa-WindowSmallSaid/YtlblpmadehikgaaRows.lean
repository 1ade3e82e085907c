/-
  No cell of these rows narrows 'for every input' (looked for: loops, veiled, ifaces, maps, wideKeys, modest, calm, conditions, laid).
  DERIVED. THE GIVEN ROWS OF THIS SEAT. 8 by the template 'for every input the law returns true; each argument reads behind the call as it read before'; 0 by the template 'total and deterministic' (their statements: YtlblpmadehikgaaTotals.lean).
  GIVEN WITH THE SEED: the statements are not yours to turn. If you find one false, say at which input.
  Laid BY PROGRAM, IN A SANDBOX (cutbox-rows.mjs): the forced cells as the released guide's own fill.sh prints them over the translation 0839f572327b5fdc… (all of the seat's roots in one cut). By AI agents, Wed Nov 11 2026. No macro, syntax, notation, axiom, sorry.
-/
import Derived.Test.YtlblpmadehikgaaChecked
import GoSem.Claim
import GoSem.ClaimJoined
import GoSem.ClaimMapViews
import Derived.JoinedTies
import Derived.KernelRfl
namespace Go.Proofs.Ytlblpmadehikgaa
/- THE CELL 'sum', in the pinned program and in every row, IS THE sha256 OF THE DUMP (.gsa) THAT YtlblpmadehikgaaProg.lean LOADS. Nothing in Lean hashes anything: it is a label: what it is worth is what the hold of that sum in a sandbox is worth. -/
noncomputable def Try.pinned : Pinned := { name := "ytlblpmadehikgaa", sum := "0839f572327b5fdcaea6514849c3531e9b65b69c50ba02ea68257bdebcda1eeb", checked := Try.checked }
namespace Rows
def none {H : Type} : Left H := { results := [], args := [] }

/-- 'fermatalaw27.WindowWrong': WHATEVER THE INPUT: true; the input reads as it did. -/
def windowWrongSpec : ChangeSpec := { name := "windowWrong", fn := fun _ => fun
  | [d1, d2, d3, d4, d5] => { results := [.lit (.bool true)], args := [d1, d2, d3, d4, d5] }
  | _ => none }
def windowWrongRow : OpenClaim := { program := "ytlblpmadehikgaa", sum := "0839f572327b5fdcaea6514849c3531e9b65b69c50ba02ea68257bdebcda1eeb", func := "fermata/fermatalaw27.WindowWrong", spec := "windowWrong", unfollowed := true, recurses := true, apart := false }
def WindowWrongSaid : Prop := windowWrongRow.holds Try.pinned (OpenSpec.ofChange windowWrongSpec)

/-- ITS FALSE NEIGHBOUR: 'it returns false'. Refute it at one input. -/
def windowWrongWrong : ChangeSpec := { name := "windowWrong", fn := fun _ => fun
  | [d1, d2, d3, d4, d5] => { results := [.lit (.bool false)], args := [d1, d2, d3, d4, d5] }
  | _ => none }
def WindowWrongWrongFalsely : Prop := windowWrongRow.holds Try.pinned (OpenSpec.ofChange windowWrongWrong)

/-- 'fermatalaw27.WindowTells': WHATEVER THE INPUT: true; the input reads as it did. -/
def windowTellsSpec : ChangeSpec := { name := "windowTells", fn := fun _ => fun
  | [d1, d2, d3, d4] => { results := [.lit (.bool true)], args := [d1, d2, d3, d4] }
  | _ => none }
def windowTellsRow : OpenClaim := { program := "ytlblpmadehikgaa", sum := "0839f572327b5fdcaea6514849c3531e9b65b69c50ba02ea68257bdebcda1eeb", func := "fermata/fermatalaw27.WindowTells", spec := "windowTells", unfollowed := true, recurses := true, apart := false }
def WindowTellsSaid : Prop := windowTellsRow.holds Try.pinned (OpenSpec.ofChange windowTellsSpec)

/-- ITS FALSE NEIGHBOUR: 'it returns false'. Refute it at one input. -/
def windowTellsWrong : ChangeSpec := { name := "windowTells", fn := fun _ => fun
  | [d1, d2, d3, d4] => { results := [.lit (.bool false)], args := [d1, d2, d3, d4] }
  | _ => none }
def WindowTellsWrongFalsely : Prop := windowTellsRow.holds Try.pinned (OpenSpec.ofChange windowTellsWrong)

/-- 'fermatalaw27.WindowOrder': WHATEVER THE INPUT: true; the input reads as it did. -/
def windowOrderSpec : ChangeSpec := { name := "windowOrder", fn := fun _ => fun
  | [d1, d2, d3, d4, d5] => { results := [.lit (.bool true)], args := [d1, d2, d3, d4, d5] }
  | _ => none }
def windowOrderRow : OpenClaim := { program := "ytlblpmadehikgaa", sum := "0839f572327b5fdcaea6514849c3531e9b65b69c50ba02ea68257bdebcda1eeb", func := "fermata/fermatalaw27.WindowOrder", spec := "windowOrder", unfollowed := true, recurses := true, apart := false }
def WindowOrderSaid : Prop := windowOrderRow.holds Try.pinned (OpenSpec.ofChange windowOrderSpec)

/-- ITS FALSE NEIGHBOUR: 'it returns false'. Refute it at one input. -/
def windowOrderWrong : ChangeSpec := { name := "windowOrder", fn := fun _ => fun
  | [d1, d2, d3, d4, d5] => { results := [.lit (.bool false)], args := [d1, d2, d3, d4, d5] }
  | _ => none }
def WindowOrderWrongFalsely : Prop := windowOrderRow.holds Try.pinned (OpenSpec.ofChange windowOrderWrong)

/-- 'fermatalaw27.WindowPlans': WHATEVER THE INPUT: true; the input reads as it did. -/
def windowPlansSpec : ChangeSpec := { name := "windowPlans", fn := fun _ => fun
  | [d1, d2, d3] => { results := [.lit (.bool true)], args := [d1, d2, d3] }
  | _ => none }
def windowPlansRow : OpenClaim := { program := "ytlblpmadehikgaa", sum := "0839f572327b5fdcaea6514849c3531e9b65b69c50ba02ea68257bdebcda1eeb", func := "fermata/fermatalaw27.WindowPlans", spec := "windowPlans", unfollowed := true, recurses := true, apart := false }
def WindowPlansSaid : Prop := windowPlansRow.holds Try.pinned (OpenSpec.ofChange windowPlansSpec)

/-- ITS FALSE NEIGHBOUR: 'it returns false'. Refute it at one input. -/
def windowPlansWrong : ChangeSpec := { name := "windowPlans", fn := fun _ => fun
  | [d1, d2, d3] => { results := [.lit (.bool false)], args := [d1, d2, d3] }
  | _ => none }
def WindowPlansWrongFalsely : Prop := windowPlansRow.holds Try.pinned (OpenSpec.ofChange windowPlansWrong)

/-- 'fermatalaw27.WindowSmall': WHATEVER THE INPUT: true; the input reads as it did. -/
def windowSmallSpec : ChangeSpec := { name := "windowSmall", fn := fun _ => fun
  | [] => { results := [.lit (.bool true)], args := [] }
  | _ => none }
def windowSmallRow : OpenClaim := { program := "ytlblpmadehikgaa", sum := "0839f572327b5fdcaea6514849c3531e9b65b69c50ba02ea68257bdebcda1eeb", func := "fermata/fermatalaw27.WindowSmall", spec := "windowSmall", unfollowed := true, recurses := true, apart := false }
def WindowSmallSaid : Prop := windowSmallRow.holds Try.pinned (OpenSpec.ofChange windowSmallSpec)

/-- ITS FALSE NEIGHBOUR: 'it returns false'. Refute it at one input. -/
def windowSmallWrong : ChangeSpec := { name := "windowSmall", fn := fun _ => fun
  | [] => { results := [.lit (.bool false)], args := [] }
  | _ => none }
def WindowSmallWrongFalsely : Prop := windowSmallRow.holds Try.pinned (OpenSpec.ofChange windowSmallWrong)

/-- 'fermatalaw27.WindowSafe': WHATEVER THE INPUT: true; the input reads as it did. -/
def windowSafeSpec : ChangeSpec := { name := "windowSafe", fn := fun _ => fun
  | [d1, d2, d3, d4, d5] => { results := [.lit (.bool true)], args := [d1, d2, d3, d4, d5] }
  | _ => none }
def windowSafeRow : OpenClaim := { program := "ytlblpmadehikgaa", sum := "0839f572327b5fdcaea6514849c3531e9b65b69c50ba02ea68257bdebcda1eeb", func := "fermata/fermatalaw27.WindowSafe", spec := "windowSafe", unfollowed := true, recurses := true, apart := false }
def WindowSafeSaid : Prop := windowSafeRow.holds Try.pinned (OpenSpec.ofChange windowSafeSpec)

/-- ITS FALSE NEIGHBOUR: 'it returns false'. Refute it at one input. -/
def windowSafeWrong : ChangeSpec := { name := "windowSafe", fn := fun _ => fun
  | [d1, d2, d3, d4, d5] => { results := [.lit (.bool false)], args := [d1, d2, d3, d4, d5] }
  | _ => none }
def WindowSafeWrongFalsely : Prop := windowSafeRow.holds Try.pinned (OpenSpec.ofChange windowSafeWrong)

/-- 'fermatalaw27.WindowCovers': WHATEVER THE INPUT: true; the input reads as it did. -/
def windowCoversSpec : ChangeSpec := { name := "windowCovers", fn := fun _ => fun
  | [d1, d2, d3] => { results := [.lit (.bool true)], args := [d1, d2, d3] }
  | _ => none }
def windowCoversRow : OpenClaim := { program := "ytlblpmadehikgaa", sum := "0839f572327b5fdcaea6514849c3531e9b65b69c50ba02ea68257bdebcda1eeb", func := "fermata/fermatalaw27.WindowCovers", spec := "windowCovers", unfollowed := true, recurses := true, apart := false }
def WindowCoversSaid : Prop := windowCoversRow.holds Try.pinned (OpenSpec.ofChange windowCoversSpec)

/-- ITS FALSE NEIGHBOUR: 'it returns false'. Refute it at one input. -/
def windowCoversWrong : ChangeSpec := { name := "windowCovers", fn := fun _ => fun
  | [d1, d2, d3] => { results := [.lit (.bool false)], args := [d1, d2, d3] }
  | _ => none }
def WindowCoversWrongFalsely : Prop := windowCoversRow.holds Try.pinned (OpenSpec.ofChange windowCoversWrong)

/-- 'fermatalaw27.WindowLater': WHATEVER THE INPUT: true; the input reads as it did. -/
def windowLaterSpec : ChangeSpec := { name := "windowLater", fn := fun _ => fun
  | [d1, d2, d3, d4] => { results := [.lit (.bool true)], args := [d1, d2, d3, d4] }
  | _ => none }
def windowLaterRow : OpenClaim := { program := "ytlblpmadehikgaa", sum := "0839f572327b5fdcaea6514849c3531e9b65b69c50ba02ea68257bdebcda1eeb", func := "fermata/fermatalaw27.WindowLater", spec := "windowLater", unfollowed := true, recurses := true, apart := false }
def WindowLaterSaid : Prop := windowLaterRow.holds Try.pinned (OpenSpec.ofChange windowLaterSpec)

/-- ITS FALSE NEIGHBOUR: 'it returns false'. Refute it at one input. -/
def windowLaterWrong : ChangeSpec := { name := "windowLater", fn := fun _ => fun
  | [d1, d2, d3, d4] => { results := [.lit (.bool false)], args := [d1, d2, d3, d4] }
  | _ => none }
def WindowLaterWrongFalsely : Prop := windowLaterRow.holds Try.pinned (OpenSpec.ofChange windowLaterWrong)

/- THE SECOND FORM. 'bulk': how many values and letters a reading holds, each counted each time it is reached (what is shared counts as often as it is met; a slice's spare places count too). A statement '..UptoSaid' is the law's where the arguments, and the package variables that the reading takes, are together of bulk at most 1048576: NARROWER than '..Said'. Prove '..Said' where nothing that the law and all that it calls make is longer than what came in: it says more and counts as full. Else prove '..UptoSaid'. A law counts once. -/
mutual
def uptoBulk {H : Type} : DataW H → Nat
  | .lit (.string bytes) => bytes.length + 1
  | .lit _ => 1
  | .nil => 1
  | .ptr d => uptoBulk d + 1
  | .slice elems spare => uptoBulkAll elems + uptoBulkAll spare + 1
  | .agg parts => uptoBulkAll parts + 1
  | .iface _ d => uptoBulk d + 1
  | .map entries => uptoBulkEntries entries + 1
  | .held _ => 1
def uptoBulkAll {H : Type} : List (DataW H) → Nat
  | [] => 0
  | d :: r => uptoBulk d + uptoBulkAll r
def uptoBulkEntries {H : Type} : List (Lit × DataW H) → Nat
  | [] => 0
  | x :: r => uptoBulkEntry x + uptoBulkEntries r
def uptoBulkEntry {H : Type} : Lit × DataW H → Nat
  | (.string bytes, d) => bytes.length + uptoBulk d + 1
  | (_, d) => uptoBulk d + 1
 end
def uptoSmall : (H : Type) → List (DataW H) → Bool := fun _ ds => decide (uptoBulkAll ds ≤ 1048576)
def OpenSpec.upto (s : _root_.Go.ChangeSpec) : _root_.Go.OpenSpec := { _root_.Go.OpenSpec.ofChange s with cond := some uptoSmall }

/-- 'fermatalaw27.WindowWrong', WHERE WHAT IT READS IS OF BULK AT MOST 1048576: true; the input reads as it did. -/
def windowWrongUptoRow : OpenClaim := { program := "ytlblpmadehikgaa", sum := "0839f572327b5fdcaea6514849c3531e9b65b69c50ba02ea68257bdebcda1eeb", func := "fermata/fermatalaw27.WindowWrong", spec := "windowWrong", unfollowed := true, recurses := true, apart := false, narrowed := true }
def WindowWrongUptoSaid : Prop := windowWrongUptoRow.holds Try.pinned (OpenSpec.upto windowWrongSpec)

/-- 'fermatalaw27.WindowTells', WHERE WHAT IT READS IS OF BULK AT MOST 1048576: true; the input reads as it did. -/
def windowTellsUptoRow : OpenClaim := { program := "ytlblpmadehikgaa", sum := "0839f572327b5fdcaea6514849c3531e9b65b69c50ba02ea68257bdebcda1eeb", func := "fermata/fermatalaw27.WindowTells", spec := "windowTells", unfollowed := true, recurses := true, apart := false, narrowed := true }
def WindowTellsUptoSaid : Prop := windowTellsUptoRow.holds Try.pinned (OpenSpec.upto windowTellsSpec)

/-- 'fermatalaw27.WindowOrder', WHERE WHAT IT READS IS OF BULK AT MOST 1048576: true; the input reads as it did. -/
def windowOrderUptoRow : OpenClaim := { program := "ytlblpmadehikgaa", sum := "0839f572327b5fdcaea6514849c3531e9b65b69c50ba02ea68257bdebcda1eeb", func := "fermata/fermatalaw27.WindowOrder", spec := "windowOrder", unfollowed := true, recurses := true, apart := false, narrowed := true }
def WindowOrderUptoSaid : Prop := windowOrderUptoRow.holds Try.pinned (OpenSpec.upto windowOrderSpec)

/-- 'fermatalaw27.WindowPlans', WHERE WHAT IT READS IS OF BULK AT MOST 1048576: true; the input reads as it did. -/
def windowPlansUptoRow : OpenClaim := { program := "ytlblpmadehikgaa", sum := "0839f572327b5fdcaea6514849c3531e9b65b69c50ba02ea68257bdebcda1eeb", func := "fermata/fermatalaw27.WindowPlans", spec := "windowPlans", unfollowed := true, recurses := true, apart := false, narrowed := true }
def WindowPlansUptoSaid : Prop := windowPlansUptoRow.holds Try.pinned (OpenSpec.upto windowPlansSpec)

/-- 'fermatalaw27.WindowSmall', WHERE WHAT IT READS IS OF BULK AT MOST 1048576: true; the input reads as it did. -/
def windowSmallUptoRow : OpenClaim := { program := "ytlblpmadehikgaa", sum := "0839f572327b5fdcaea6514849c3531e9b65b69c50ba02ea68257bdebcda1eeb", func := "fermata/fermatalaw27.WindowSmall", spec := "windowSmall", unfollowed := true, recurses := true, apart := false, narrowed := true }
def WindowSmallUptoSaid : Prop := windowSmallUptoRow.holds Try.pinned (OpenSpec.upto windowSmallSpec)

/-- 'fermatalaw27.WindowSafe', WHERE WHAT IT READS IS OF BULK AT MOST 1048576: true; the input reads as it did. -/
def windowSafeUptoRow : OpenClaim := { program := "ytlblpmadehikgaa", sum := "0839f572327b5fdcaea6514849c3531e9b65b69c50ba02ea68257bdebcda1eeb", func := "fermata/fermatalaw27.WindowSafe", spec := "windowSafe", unfollowed := true, recurses := true, apart := false, narrowed := true }
def WindowSafeUptoSaid : Prop := windowSafeUptoRow.holds Try.pinned (OpenSpec.upto windowSafeSpec)

/-- 'fermatalaw27.WindowCovers', WHERE WHAT IT READS IS OF BULK AT MOST 1048576: true; the input reads as it did. -/
def windowCoversUptoRow : OpenClaim := { program := "ytlblpmadehikgaa", sum := "0839f572327b5fdcaea6514849c3531e9b65b69c50ba02ea68257bdebcda1eeb", func := "fermata/fermatalaw27.WindowCovers", spec := "windowCovers", unfollowed := true, recurses := true, apart := false, narrowed := true }
def WindowCoversUptoSaid : Prop := windowCoversUptoRow.holds Try.pinned (OpenSpec.upto windowCoversSpec)

/-- 'fermatalaw27.WindowLater', WHERE WHAT IT READS IS OF BULK AT MOST 1048576: true; the input reads as it did. -/
def windowLaterUptoRow : OpenClaim := { program := "ytlblpmadehikgaa", sum := "0839f572327b5fdcaea6514849c3531e9b65b69c50ba02ea68257bdebcda1eeb", func := "fermata/fermatalaw27.WindowLater", spec := "windowLater", unfollowed := true, recurses := true, apart := false, narrowed := true }
def WindowLaterUptoSaid : Prop := windowLaterUptoRow.holds Try.pinned (OpenSpec.upto windowLaterSpec)

end Rows
end Go.Proofs.Ytlblpmadehikgaa
