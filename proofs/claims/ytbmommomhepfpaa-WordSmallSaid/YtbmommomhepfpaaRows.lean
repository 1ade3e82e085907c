/-
  No cell of these rows narrows 'for every input' (looked for: loops, veiled, ifaces, maps, wideKeys, modest, calm, conditions, laid).
  DERIVED. THE GIVEN ROWS OF THIS SEAT. 11 by the template 'for every input the law returns true; each argument reads behind the call as it read before'; 0 by the template 'total and deterministic' (their statements: YtbmommomhepfpaaTotals.lean).
  GIVEN WITH THE SEED: the statements are not yours to turn. If you find one false, say at which input.
  Laid BY PROGRAM, IN A SANDBOX (cutbox-rows.mjs): the forced cells as the released guide's own fill.sh prints them over the translation 4fd0a1ed5fd2af6a… (all of the seat's roots in one cut). By AI agents, Wed Nov 11 2026. No macro, syntax, notation, axiom, sorry.
-/
import Derived.Test.YtbmommomhepfpaaChecked
import GoSem.Claim
import GoSem.ClaimJoined
import GoSem.ClaimMapViews
import Derived.JoinedTies
import Derived.KernelRfl
namespace Go.Proofs.Ytbmommomhepfpaa
/- THE CELL 'sum', in the pinned program and in every row, IS THE sha256 OF THE DUMP (.gsa) THAT YtbmommomhepfpaaProg.lean LOADS. Nothing in Lean hashes anything: it is a label: what it is worth is what the hold of that sum in a sandbox is worth. -/
noncomputable def Try.pinned : Pinned := { name := "ytbmommomhepfpaa", sum := "4fd0a1ed5fd2af6aa3fdc4ab18147f1be811ee125e18d53a44a73c83ea58b03c", checked := Try.checked }
namespace Rows
def none {H : Type} : Left H := { results := [], args := [] }

/-- 'fermatalaw13.WordWides': WHATEVER THE INPUT: true; the input reads as it did. -/
def wordWidesSpec : ChangeSpec := { name := "wordWides", fn := fun _ => fun
  | [d1, d2] => { results := [.lit (.bool true)], args := [d1, d2] }
  | _ => none }
def wordWidesRow : OpenClaim := { program := "ytbmommomhepfpaa", sum := "4fd0a1ed5fd2af6aa3fdc4ab18147f1be811ee125e18d53a44a73c83ea58b03c", func := "fermata/fermatalaw13.WordWides", spec := "wordWides", apart := false }
def WordWidesSaid : Prop := wordWidesRow.holds Try.pinned (OpenSpec.ofChange wordWidesSpec)

/-- ITS FALSE NEIGHBOUR: 'it returns false'. Refute it at one input. -/
def wordWidesWrong : ChangeSpec := { name := "wordWides", fn := fun _ => fun
  | [d1, d2] => { results := [.lit (.bool false)], args := [d1, d2] }
  | _ => none }
def WordWidesWrongFalsely : Prop := wordWidesRow.holds Try.pinned (OpenSpec.ofChange wordWidesWrong)

/-- 'fermatalaw13.WordDivides': WHATEVER THE INPUT: true; the input reads as it did. -/
def wordDividesSpec : ChangeSpec := { name := "wordDivides", fn := fun _ => fun
  | [d1, d2] => { results := [.lit (.bool true)], args := [d1, d2] }
  | _ => none }
def wordDividesRow : OpenClaim := { program := "ytbmommomhepfpaa", sum := "4fd0a1ed5fd2af6aa3fdc4ab18147f1be811ee125e18d53a44a73c83ea58b03c", func := "fermata/fermatalaw13.WordDivides", spec := "wordDivides", apart := false }
def WordDividesSaid : Prop := wordDividesRow.holds Try.pinned (OpenSpec.ofChange wordDividesSpec)

/-- ITS FALSE NEIGHBOUR: 'it returns false'. Refute it at one input. -/
def wordDividesWrong : ChangeSpec := { name := "wordDivides", fn := fun _ => fun
  | [d1, d2] => { results := [.lit (.bool false)], args := [d1, d2] }
  | _ => none }
def WordDividesWrongFalsely : Prop := wordDividesRow.holds Try.pinned (OpenSpec.ofChange wordDividesWrong)

/-- 'fermatalaw13.WordRing': WHATEVER THE INPUT: true; the input reads as it did. -/
def wordRingSpec : ChangeSpec := { name := "wordRing", fn := fun _ => fun
  | [d1, d2, d3] => { results := [.lit (.bool true)], args := [d1, d2, d3] }
  | _ => none }
def wordRingRow : OpenClaim := { program := "ytbmommomhepfpaa", sum := "4fd0a1ed5fd2af6aa3fdc4ab18147f1be811ee125e18d53a44a73c83ea58b03c", func := "fermata/fermatalaw13.WordRing", spec := "wordRing", apart := false }
def WordRingSaid : Prop := wordRingRow.holds Try.pinned (OpenSpec.ofChange wordRingSpec)

/-- ITS FALSE NEIGHBOUR: 'it returns false'. Refute it at one input. -/
def wordRingWrong : ChangeSpec := { name := "wordRing", fn := fun _ => fun
  | [d1, d2, d3] => { results := [.lit (.bool false)], args := [d1, d2, d3] }
  | _ => none }
def WordRingWrongFalsely : Prop := wordRingRow.holds Try.pinned (OpenSpec.ofChange wordRingWrong)

/-- 'fermatalaw13.WordShifts': WHATEVER THE INPUT: true; the input reads as it did. -/
def wordShiftsSpec : ChangeSpec := { name := "wordShifts", fn := fun _ => fun
  | [d1, d2] => { results := [.lit (.bool true)], args := [d1, d2] }
  | _ => none }
def wordShiftsRow : OpenClaim := { program := "ytbmommomhepfpaa", sum := "4fd0a1ed5fd2af6aa3fdc4ab18147f1be811ee125e18d53a44a73c83ea58b03c", func := "fermata/fermatalaw13.WordShifts", spec := "wordShifts", apart := false }
def WordShiftsSaid : Prop := wordShiftsRow.holds Try.pinned (OpenSpec.ofChange wordShiftsSpec)

/-- ITS FALSE NEIGHBOUR: 'it returns false'. Refute it at one input. -/
def wordShiftsWrong : ChangeSpec := { name := "wordShifts", fn := fun _ => fun
  | [d1, d2] => { results := [.lit (.bool false)], args := [d1, d2] }
  | _ => none }
def WordShiftsWrongFalsely : Prop := wordShiftsRow.holds Try.pinned (OpenSpec.ofChange wordShiftsWrong)

/-- 'fermatalaw13.WordOrders': WHATEVER THE INPUT: true; the input reads as it did. -/
def wordOrdersSpec : ChangeSpec := { name := "wordOrders", fn := fun _ => fun
  | [d1, d2, d3] => { results := [.lit (.bool true)], args := [d1, d2, d3] }
  | _ => none }
def wordOrdersRow : OpenClaim := { program := "ytbmommomhepfpaa", sum := "4fd0a1ed5fd2af6aa3fdc4ab18147f1be811ee125e18d53a44a73c83ea58b03c", func := "fermata/fermatalaw13.WordOrders", spec := "wordOrders", apart := false }
def WordOrdersSaid : Prop := wordOrdersRow.holds Try.pinned (OpenSpec.ofChange wordOrdersSpec)

/-- ITS FALSE NEIGHBOUR: 'it returns false'. Refute it at one input. -/
def wordOrdersWrong : ChangeSpec := { name := "wordOrders", fn := fun _ => fun
  | [d1, d2, d3] => { results := [.lit (.bool false)], args := [d1, d2, d3] }
  | _ => none }
def WordOrdersWrongFalsely : Prop := wordOrdersRow.holds Try.pinned (OpenSpec.ofChange wordOrdersWrong)

/-- 'fermatalaw13.WordFoldsOn': WHATEVER THE INPUT: true; the input reads as it did. -/
def wordFoldsOnSpec : ChangeSpec := { name := "wordFoldsOn", fn := fun _ => fun
  | [d1, d2, d3] => { results := [.lit (.bool true)], args := [d1, d2, d3] }
  | _ => none }
def wordFoldsOnRow : OpenClaim := { program := "ytbmommomhepfpaa", sum := "4fd0a1ed5fd2af6aa3fdc4ab18147f1be811ee125e18d53a44a73c83ea58b03c", func := "fermata/fermatalaw13.WordFoldsOn", spec := "wordFoldsOn", apart := false }
def WordFoldsOnSaid : Prop := wordFoldsOnRow.holds Try.pinned (OpenSpec.ofChange wordFoldsOnSpec)

/-- ITS FALSE NEIGHBOUR: 'it returns false'. Refute it at one input. -/
def wordFoldsOnWrong : ChangeSpec := { name := "wordFoldsOn", fn := fun _ => fun
  | [d1, d2, d3] => { results := [.lit (.bool false)], args := [d1, d2, d3] }
  | _ => none }
def WordFoldsOnWrongFalsely : Prop := wordFoldsOnRow.holds Try.pinned (OpenSpec.ofChange wordFoldsOnWrong)

/-- 'fermatalaw13.WordWhole': WHATEVER THE INPUT: true; the input reads as it did. -/
def wordWholeSpec : ChangeSpec := { name := "wordWhole", fn := fun _ => fun
  | [d1, d2, d3] => { results := [.lit (.bool true)], args := [d1, d2, d3] }
  | _ => none }
def wordWholeRow : OpenClaim := { program := "ytbmommomhepfpaa", sum := "4fd0a1ed5fd2af6aa3fdc4ab18147f1be811ee125e18d53a44a73c83ea58b03c", func := "fermata/fermatalaw13.WordWhole", spec := "wordWhole", apart := false }
def WordWholeSaid : Prop := wordWholeRow.holds Try.pinned (OpenSpec.ofChange wordWholeSpec)

/-- ITS FALSE NEIGHBOUR: 'it returns false'. Refute it at one input. -/
def wordWholeWrong : ChangeSpec := { name := "wordWhole", fn := fun _ => fun
  | [d1, d2, d3] => { results := [.lit (.bool false)], args := [d1, d2, d3] }
  | _ => none }
def WordWholeWrongFalsely : Prop := wordWholeRow.holds Try.pinned (OpenSpec.ofChange wordWholeWrong)

/-- 'fermatalaw13.WordTells': WHATEVER THE INPUT: true; the input reads as it did. -/
def wordTellsSpec : ChangeSpec := { name := "wordTells", fn := fun _ => fun
  | [d1, d2, d3] => { results := [.lit (.bool true)], args := [d1, d2, d3] }
  | _ => none }
def wordTellsRow : OpenClaim := { program := "ytbmommomhepfpaa", sum := "4fd0a1ed5fd2af6aa3fdc4ab18147f1be811ee125e18d53a44a73c83ea58b03c", func := "fermata/fermatalaw13.WordTells", spec := "wordTells", apart := false }
def WordTellsSaid : Prop := wordTellsRow.holds Try.pinned (OpenSpec.ofChange wordTellsSpec)

/-- ITS FALSE NEIGHBOUR: 'it returns false'. Refute it at one input. -/
def wordTellsWrong : ChangeSpec := { name := "wordTells", fn := fun _ => fun
  | [d1, d2, d3] => { results := [.lit (.bool false)], args := [d1, d2, d3] }
  | _ => none }
def WordTellsWrongFalsely : Prop := wordTellsRow.holds Try.pinned (OpenSpec.ofChange wordTellsWrong)

/-- 'fermatalaw13.WordWrong': WHATEVER THE INPUT: true; the input reads as it did. -/
def wordWrongSpec : ChangeSpec := { name := "wordWrong", fn := fun _ => fun
  | [d1, d2, d3, d4] => { results := [.lit (.bool true)], args := [d1, d2, d3, d4] }
  | _ => none }
def wordWrongRow : OpenClaim := { program := "ytbmommomhepfpaa", sum := "4fd0a1ed5fd2af6aa3fdc4ab18147f1be811ee125e18d53a44a73c83ea58b03c", func := "fermata/fermatalaw13.WordWrong", spec := "wordWrong", apart := false }
def WordWrongSaid : Prop := wordWrongRow.holds Try.pinned (OpenSpec.ofChange wordWrongSpec)

/-- ITS FALSE NEIGHBOUR: 'it returns false'. Refute it at one input. -/
def wordWrongWrong : ChangeSpec := { name := "wordWrong", fn := fun _ => fun
  | [d1, d2, d3, d4] => { results := [.lit (.bool false)], args := [d1, d2, d3, d4] }
  | _ => none }
def WordWrongWrongFalsely : Prop := wordWrongRow.holds Try.pinned (OpenSpec.ofChange wordWrongWrong)

/-- 'fermatalaw13.WordFolds': WHATEVER THE INPUT: true; the input reads as it did. -/
def wordFoldsSpec : ChangeSpec := { name := "wordFolds", fn := fun _ => fun
  | [d1, d2, d3] => { results := [.lit (.bool true)], args := [d1, d2, d3] }
  | _ => none }
def wordFoldsRow : OpenClaim := { program := "ytbmommomhepfpaa", sum := "4fd0a1ed5fd2af6aa3fdc4ab18147f1be811ee125e18d53a44a73c83ea58b03c", func := "fermata/fermatalaw13.WordFolds", spec := "wordFolds", apart := false }
def WordFoldsSaid : Prop := wordFoldsRow.holds Try.pinned (OpenSpec.ofChange wordFoldsSpec)

/-- ITS FALSE NEIGHBOUR: 'it returns false'. Refute it at one input. -/
def wordFoldsWrong : ChangeSpec := { name := "wordFolds", fn := fun _ => fun
  | [d1, d2, d3] => { results := [.lit (.bool false)], args := [d1, d2, d3] }
  | _ => none }
def WordFoldsWrongFalsely : Prop := wordFoldsRow.holds Try.pinned (OpenSpec.ofChange wordFoldsWrong)

/-- 'fermatalaw13.WordSmall': WHATEVER THE INPUT: true; the input reads as it did. -/
def wordSmallSpec : ChangeSpec := { name := "wordSmall", fn := fun _ => fun
  | [] => { results := [.lit (.bool true)], args := [] }
  | _ => none }
def wordSmallRow : OpenClaim := { program := "ytbmommomhepfpaa", sum := "4fd0a1ed5fd2af6aa3fdc4ab18147f1be811ee125e18d53a44a73c83ea58b03c", func := "fermata/fermatalaw13.WordSmall", spec := "wordSmall", apart := false }
def WordSmallSaid : Prop := wordSmallRow.holds Try.pinned (OpenSpec.ofChange wordSmallSpec)

/-- ITS FALSE NEIGHBOUR: 'it returns false'. Refute it at one input. -/
def wordSmallWrong : ChangeSpec := { name := "wordSmall", fn := fun _ => fun
  | [] => { results := [.lit (.bool false)], args := [] }
  | _ => none }
def WordSmallWrongFalsely : Prop := wordSmallRow.holds Try.pinned (OpenSpec.ofChange wordSmallWrong)

/- THE SECOND FORM. 'bulk': how many values and letters a reading holds, each counted each time it is reached (what is shared counts as often as it is met; a slice's spare places count too). A statement '..UptoSaid' is the law's where the arguments, and the package variables that the reading takes, are together of bulk at most 1048576: NARROWER than '..Said'. Prove '..Said' where nothing that the law and all that it calls make is longer than what came in: it says more and counts as full. Else prove '..UptoSaid'. A law counts once. -/
mutual
def uptoBulk {H : Type} : DataW H → Nat
  | .lit (.string bytes) => bytes.length + 1
  | .lit _ => 1
  | .nil => 1
  | .ptr d => uptoBulk d + 1
  | .slice elems spare => uptoBulkAll elems + uptoBulkAll spare + 1
  | .agg parts => uptoBulkAll parts + 1
  | .iface _ d => uptoBulk d + 1
  | .map entries => uptoBulkEntries entries + 1
  | .held _ => 1
def uptoBulkAll {H : Type} : List (DataW H) → Nat
  | [] => 0
  | d :: r => uptoBulk d + uptoBulkAll r
def uptoBulkEntries {H : Type} : List (Lit × DataW H) → Nat
  | [] => 0
  | x :: r => uptoBulkEntry x + uptoBulkEntries r
def uptoBulkEntry {H : Type} : Lit × DataW H → Nat
  | (.string bytes, d) => bytes.length + uptoBulk d + 1
  | (_, d) => uptoBulk d + 1
 end
def uptoSmall : (H : Type) → List (DataW H) → Bool := fun _ ds => decide (uptoBulkAll ds ≤ 1048576)
def OpenSpec.upto (s : _root_.Go.ChangeSpec) : _root_.Go.OpenSpec := { _root_.Go.OpenSpec.ofChange s with cond := some uptoSmall }

/-- 'fermatalaw13.WordWides', WHERE WHAT IT READS IS OF BULK AT MOST 1048576: true; the input reads as it did. -/
def wordWidesUptoRow : OpenClaim := { program := "ytbmommomhepfpaa", sum := "4fd0a1ed5fd2af6aa3fdc4ab18147f1be811ee125e18d53a44a73c83ea58b03c", func := "fermata/fermatalaw13.WordWides", spec := "wordWides", apart := false, narrowed := true }
def WordWidesUptoSaid : Prop := wordWidesUptoRow.holds Try.pinned (OpenSpec.upto wordWidesSpec)

/-- 'fermatalaw13.WordDivides', WHERE WHAT IT READS IS OF BULK AT MOST 1048576: true; the input reads as it did. -/
def wordDividesUptoRow : OpenClaim := { program := "ytbmommomhepfpaa", sum := "4fd0a1ed5fd2af6aa3fdc4ab18147f1be811ee125e18d53a44a73c83ea58b03c", func := "fermata/fermatalaw13.WordDivides", spec := "wordDivides", apart := false, narrowed := true }
def WordDividesUptoSaid : Prop := wordDividesUptoRow.holds Try.pinned (OpenSpec.upto wordDividesSpec)

/-- 'fermatalaw13.WordRing', WHERE WHAT IT READS IS OF BULK AT MOST 1048576: true; the input reads as it did. -/
def wordRingUptoRow : OpenClaim := { program := "ytbmommomhepfpaa", sum := "4fd0a1ed5fd2af6aa3fdc4ab18147f1be811ee125e18d53a44a73c83ea58b03c", func := "fermata/fermatalaw13.WordRing", spec := "wordRing", apart := false, narrowed := true }
def WordRingUptoSaid : Prop := wordRingUptoRow.holds Try.pinned (OpenSpec.upto wordRingSpec)

/-- 'fermatalaw13.WordShifts', WHERE WHAT IT READS IS OF BULK AT MOST 1048576: true; the input reads as it did. -/
def wordShiftsUptoRow : OpenClaim := { program := "ytbmommomhepfpaa", sum := "4fd0a1ed5fd2af6aa3fdc4ab18147f1be811ee125e18d53a44a73c83ea58b03c", func := "fermata/fermatalaw13.WordShifts", spec := "wordShifts", apart := false, narrowed := true }
def WordShiftsUptoSaid : Prop := wordShiftsUptoRow.holds Try.pinned (OpenSpec.upto wordShiftsSpec)

/-- 'fermatalaw13.WordOrders', WHERE WHAT IT READS IS OF BULK AT MOST 1048576: true; the input reads as it did. -/
def wordOrdersUptoRow : OpenClaim := { program := "ytbmommomhepfpaa", sum := "4fd0a1ed5fd2af6aa3fdc4ab18147f1be811ee125e18d53a44a73c83ea58b03c", func := "fermata/fermatalaw13.WordOrders", spec := "wordOrders", apart := false, narrowed := true }
def WordOrdersUptoSaid : Prop := wordOrdersUptoRow.holds Try.pinned (OpenSpec.upto wordOrdersSpec)

/-- 'fermatalaw13.WordFoldsOn', WHERE WHAT IT READS IS OF BULK AT MOST 1048576: true; the input reads as it did. -/
def wordFoldsOnUptoRow : OpenClaim := { program := "ytbmommomhepfpaa", sum := "4fd0a1ed5fd2af6aa3fdc4ab18147f1be811ee125e18d53a44a73c83ea58b03c", func := "fermata/fermatalaw13.WordFoldsOn", spec := "wordFoldsOn", apart := false, narrowed := true }
def WordFoldsOnUptoSaid : Prop := wordFoldsOnUptoRow.holds Try.pinned (OpenSpec.upto wordFoldsOnSpec)

/-- 'fermatalaw13.WordWhole', WHERE WHAT IT READS IS OF BULK AT MOST 1048576: true; the input reads as it did. -/
def wordWholeUptoRow : OpenClaim := { program := "ytbmommomhepfpaa", sum := "4fd0a1ed5fd2af6aa3fdc4ab18147f1be811ee125e18d53a44a73c83ea58b03c", func := "fermata/fermatalaw13.WordWhole", spec := "wordWhole", apart := false, narrowed := true }
def WordWholeUptoSaid : Prop := wordWholeUptoRow.holds Try.pinned (OpenSpec.upto wordWholeSpec)

/-- 'fermatalaw13.WordTells', WHERE WHAT IT READS IS OF BULK AT MOST 1048576: true; the input reads as it did. -/
def wordTellsUptoRow : OpenClaim := { program := "ytbmommomhepfpaa", sum := "4fd0a1ed5fd2af6aa3fdc4ab18147f1be811ee125e18d53a44a73c83ea58b03c", func := "fermata/fermatalaw13.WordTells", spec := "wordTells", apart := false, narrowed := true }
def WordTellsUptoSaid : Prop := wordTellsUptoRow.holds Try.pinned (OpenSpec.upto wordTellsSpec)

/-- 'fermatalaw13.WordWrong', WHERE WHAT IT READS IS OF BULK AT MOST 1048576: true; the input reads as it did. -/
def wordWrongUptoRow : OpenClaim := { program := "ytbmommomhepfpaa", sum := "4fd0a1ed5fd2af6aa3fdc4ab18147f1be811ee125e18d53a44a73c83ea58b03c", func := "fermata/fermatalaw13.WordWrong", spec := "wordWrong", apart := false, narrowed := true }
def WordWrongUptoSaid : Prop := wordWrongUptoRow.holds Try.pinned (OpenSpec.upto wordWrongSpec)

/-- 'fermatalaw13.WordFolds', WHERE WHAT IT READS IS OF BULK AT MOST 1048576: true; the input reads as it did. -/
def wordFoldsUptoRow : OpenClaim := { program := "ytbmommomhepfpaa", sum := "4fd0a1ed5fd2af6aa3fdc4ab18147f1be811ee125e18d53a44a73c83ea58b03c", func := "fermata/fermatalaw13.WordFolds", spec := "wordFolds", apart := false, narrowed := true }
def WordFoldsUptoSaid : Prop := wordFoldsUptoRow.holds Try.pinned (OpenSpec.upto wordFoldsSpec)

/-- 'fermatalaw13.WordSmall', WHERE WHAT IT READS IS OF BULK AT MOST 1048576: true; the input reads as it did. -/
def wordSmallUptoRow : OpenClaim := { program := "ytbmommomhepfpaa", sum := "4fd0a1ed5fd2af6aa3fdc4ab18147f1be811ee125e18d53a44a73c83ea58b03c", func := "fermata/fermatalaw13.WordSmall", spec := "wordSmall", apart := false, narrowed := true }
def WordSmallUptoSaid : Prop := wordSmallUptoRow.holds Try.pinned (OpenSpec.upto wordSmallSpec)

end Rows
end Go.Proofs.Ytbmommomhepfpaa
