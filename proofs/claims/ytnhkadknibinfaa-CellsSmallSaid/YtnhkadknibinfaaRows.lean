/-
  No cell of these rows narrows 'for every input' (looked for: loops, veiled, ifaces, maps, wideKeys, modest, calm, conditions, laid).
  DERIVED. THE GIVEN ROWS OF THIS SEAT. 7 by the template 'for every input the law returns true; each argument reads behind the call as it read before'; 0 by the template 'total and deterministic' (their statements: YtnhkadknibinfaaTotals.lean).
  GIVEN WITH THE SEED: the statements are not yours to turn. If you find one false, say at which input.
  Laid BY PROGRAM, IN A SANDBOX (cutbox-rows.mjs): the forced cells as the released guide's own fill.sh prints them over the translation 0e7930a6f8ebbeea… (all of the seat's roots in one cut). By AI agents, Wed Nov 11 2026. No macro, syntax, notation, axiom, sorry.
-/
import Derived.Test.YtnhkadknibinfaaChecked
import GoSem.Claim
import GoSem.ClaimJoined
import GoSem.ClaimMapViews
import Derived.JoinedTies
import Derived.KernelRfl
namespace Go.Proofs.Ytnhkadknibinfaa
/- THE CELL 'sum', in the pinned program and in every row, IS THE sha256 OF THE DUMP (.gsa) THAT YtnhkadknibinfaaProg.lean LOADS. Nothing in Lean hashes anything: it is a label: what it is worth is what the hold of that sum in a sandbox is worth. -/
noncomputable def Try.pinned : Pinned := { name := "ytnhkadknibinfaa", sum := "0e7930a6f8ebbeea6c656e5a9491bdcb15a938032c83b0692040c1dd2b07a626", checked := Try.checked }
namespace Rows
def none {H : Type} : Left H := { results := [], args := [] }

/-- 'fermatalaw21.CellsBack': WHATEVER THE INPUT: true; the input reads as it did. -/
def cellsBackSpec : ChangeSpec := { name := "cellsBack", fn := fun _ => fun
  | [d1, d2] => { results := [.lit (.bool true)], args := [d1, d2] }
  | _ => none }
def cellsBackRow : OpenClaim := { program := "ytnhkadknibinfaa", sum := "0e7930a6f8ebbeea6c656e5a9491bdcb15a938032c83b0692040c1dd2b07a626", func := "fermata/fermatalaw21.CellsBack", spec := "cellsBack", unfollowed := true, recurses := true, plainKeys := false, apart := false }
def CellsBackSaid : Prop := cellsBackRow.holds Try.pinned (OpenSpec.ofChange cellsBackSpec)

/-- ITS FALSE NEIGHBOUR: 'it returns false'. Refute it at one input. -/
def cellsBackWrong : ChangeSpec := { name := "cellsBack", fn := fun _ => fun
  | [d1, d2] => { results := [.lit (.bool false)], args := [d1, d2] }
  | _ => none }
def CellsBackWrongFalsely : Prop := cellsBackRow.holds Try.pinned (OpenSpec.ofChange cellsBackWrong)

/-- 'fermatalaw21.CellsKeep': WHATEVER THE INPUT: true; the input reads as it did. -/
def cellsKeepSpec : ChangeSpec := { name := "cellsKeep", fn := fun _ => fun
  | [d1, d2, d3] => { results := [.lit (.bool true)], args := [d1, d2, d3] }
  | _ => none }
def cellsKeepRow : OpenClaim := { program := "ytnhkadknibinfaa", sum := "0e7930a6f8ebbeea6c656e5a9491bdcb15a938032c83b0692040c1dd2b07a626", func := "fermata/fermatalaw21.CellsKeep", spec := "cellsKeep", unfollowed := true, recurses := true, plainKeys := false, apart := false }
def CellsKeepSaid : Prop := cellsKeepRow.holds Try.pinned (OpenSpec.ofChange cellsKeepSpec)

/-- ITS FALSE NEIGHBOUR: 'it returns false'. Refute it at one input. -/
def cellsKeepWrong : ChangeSpec := { name := "cellsKeep", fn := fun _ => fun
  | [d1, d2, d3] => { results := [.lit (.bool false)], args := [d1, d2, d3] }
  | _ => none }
def CellsKeepWrongFalsely : Prop := cellsKeepRow.holds Try.pinned (OpenSpec.ofChange cellsKeepWrong)

/-- 'fermatalaw21.CellsAlone': WHATEVER THE INPUT: true; the input reads as it did. -/
def cellsAloneSpec : ChangeSpec := { name := "cellsAlone", fn := fun _ => fun
  | [d1, d2, d3, d4] => { results := [.lit (.bool true)], args := [d1, d2, d3, d4] }
  | _ => none }
def cellsAloneRow : OpenClaim := { program := "ytnhkadknibinfaa", sum := "0e7930a6f8ebbeea6c656e5a9491bdcb15a938032c83b0692040c1dd2b07a626", func := "fermata/fermatalaw21.CellsAlone", spec := "cellsAlone", unfollowed := true, recurses := true, plainKeys := false, apart := false }
def CellsAloneSaid : Prop := cellsAloneRow.holds Try.pinned (OpenSpec.ofChange cellsAloneSpec)

/-- ITS FALSE NEIGHBOUR: 'it returns false'. Refute it at one input. -/
def cellsAloneWrong : ChangeSpec := { name := "cellsAlone", fn := fun _ => fun
  | [d1, d2, d3, d4] => { results := [.lit (.bool false)], args := [d1, d2, d3, d4] }
  | _ => none }
def CellsAloneWrongFalsely : Prop := cellsAloneRow.holds Try.pinned (OpenSpec.ofChange cellsAloneWrong)

/-- 'fermatalaw21.CellsWrong': WHATEVER THE INPUT: true; the input reads as it did. -/
def cellsWrongSpec : ChangeSpec := { name := "cellsWrong", fn := fun _ => fun
  | [d1, d2, d3, d4] => { results := [.lit (.bool true)], args := [d1, d2, d3, d4] }
  | _ => none }
def cellsWrongRow : OpenClaim := { program := "ytnhkadknibinfaa", sum := "0e7930a6f8ebbeea6c656e5a9491bdcb15a938032c83b0692040c1dd2b07a626", func := "fermata/fermatalaw21.CellsWrong", spec := "cellsWrong", unfollowed := true, recurses := true, plainKeys := false, apart := false }
def CellsWrongSaid : Prop := cellsWrongRow.holds Try.pinned (OpenSpec.ofChange cellsWrongSpec)

/-- ITS FALSE NEIGHBOUR: 'it returns false'. Refute it at one input. -/
def cellsWrongWrong : ChangeSpec := { name := "cellsWrong", fn := fun _ => fun
  | [d1, d2, d3, d4] => { results := [.lit (.bool false)], args := [d1, d2, d3, d4] }
  | _ => none }
def CellsWrongWrongFalsely : Prop := cellsWrongRow.holds Try.pinned (OpenSpec.ofChange cellsWrongWrong)

/-- 'fermatalaw21.CellsActs': WHATEVER THE INPUT: true; the input reads as it did. -/
def cellsActsSpec : ChangeSpec := { name := "cellsActs", fn := fun _ => fun
  | [d1, d2] => { results := [.lit (.bool true)], args := [d1, d2] }
  | _ => none }
def cellsActsRow : OpenClaim := { program := "ytnhkadknibinfaa", sum := "0e7930a6f8ebbeea6c656e5a9491bdcb15a938032c83b0692040c1dd2b07a626", func := "fermata/fermatalaw21.CellsActs", spec := "cellsActs", inPlace := ["maps.clone"], unfollowed := true, recurses := true, plainKeys := false, apart := false }
def CellsActsSaid : Prop := cellsActsRow.holds Try.pinned (OpenSpec.ofChange cellsActsSpec)

/-- ITS FALSE NEIGHBOUR: 'it returns false'. Refute it at one input. -/
def cellsActsWrong : ChangeSpec := { name := "cellsActs", fn := fun _ => fun
  | [d1, d2] => { results := [.lit (.bool false)], args := [d1, d2] }
  | _ => none }
def CellsActsWrongFalsely : Prop := cellsActsRow.holds Try.pinned (OpenSpec.ofChange cellsActsWrong)

/-- 'fermatalaw21.CellsSmall': WHATEVER THE INPUT: true; the input reads as it did. -/
def cellsSmallSpec : ChangeSpec := { name := "cellsSmall", fn := fun _ => fun
  | [] => { results := [.lit (.bool true)], args := [] }
  | _ => none }
def cellsSmallRow : OpenClaim := { program := "ytnhkadknibinfaa", sum := "0e7930a6f8ebbeea6c656e5a9491bdcb15a938032c83b0692040c1dd2b07a626", func := "fermata/fermatalaw21.CellsSmall", spec := "cellsSmall", inPlace := ["maps.clone"], unfollowed := true, recurses := true, plainKeys := false, apart := false }
def CellsSmallSaid : Prop := cellsSmallRow.holds Try.pinned (OpenSpec.ofChange cellsSmallSpec)

/-- ITS FALSE NEIGHBOUR: 'it returns false'. Refute it at one input. -/
def cellsSmallWrong : ChangeSpec := { name := "cellsSmall", fn := fun _ => fun
  | [] => { results := [.lit (.bool false)], args := [] }
  | _ => none }
def CellsSmallWrongFalsely : Prop := cellsSmallRow.holds Try.pinned (OpenSpec.ofChange cellsSmallWrong)

/-- 'fermatalaw21.CellsCopies': WHATEVER THE INPUT: true; the input reads as it did. -/
def cellsCopiesSpec : ChangeSpec := { name := "cellsCopies", fn := fun _ => fun
  | [d1, d2] => { results := [.lit (.bool true)], args := [d1, d2] }
  | _ => none }
def cellsCopiesRow : OpenClaim := { program := "ytnhkadknibinfaa", sum := "0e7930a6f8ebbeea6c656e5a9491bdcb15a938032c83b0692040c1dd2b07a626", func := "fermata/fermatalaw21.CellsCopies", spec := "cellsCopies", inPlace := ["maps.clone"], unfollowed := true, recurses := true, plainKeys := false, apart := false }
def CellsCopiesSaid : Prop := cellsCopiesRow.holds Try.pinned (OpenSpec.ofChange cellsCopiesSpec)

/-- ITS FALSE NEIGHBOUR: 'it returns false'. Refute it at one input. -/
def cellsCopiesWrong : ChangeSpec := { name := "cellsCopies", fn := fun _ => fun
  | [d1, d2] => { results := [.lit (.bool false)], args := [d1, d2] }
  | _ => none }
def CellsCopiesWrongFalsely : Prop := cellsCopiesRow.holds Try.pinned (OpenSpec.ofChange cellsCopiesWrong)

/- THE SECOND FORM. 'bulk': how many values and letters a reading holds, each counted each time it is reached (what is shared counts as often as it is met; a slice's spare places count too). A statement '..UptoSaid' is the law's where the arguments, and the package variables that the reading takes, are together of bulk at most 1048576: NARROWER than '..Said'. Prove '..Said' where nothing that the law and all that it calls make is longer than what came in: it says more and counts as full. Else prove '..UptoSaid'. A law counts once. -/
mutual
def uptoBulk {H : Type} : DataW H → Nat
  | .lit (.string bytes) => bytes.length + 1
  | .lit _ => 1
  | .nil => 1
  | .ptr d => uptoBulk d + 1
  | .slice elems spare => uptoBulkAll elems + uptoBulkAll spare + 1
  | .agg parts => uptoBulkAll parts + 1
  | .iface _ d => uptoBulk d + 1
  | .map entries => uptoBulkEntries entries + 1
  | .held _ => 1
def uptoBulkAll {H : Type} : List (DataW H) → Nat
  | [] => 0
  | d :: r => uptoBulk d + uptoBulkAll r
def uptoBulkEntries {H : Type} : List (Lit × DataW H) → Nat
  | [] => 0
  | x :: r => uptoBulkEntry x + uptoBulkEntries r
def uptoBulkEntry {H : Type} : Lit × DataW H → Nat
  | (.string bytes, d) => bytes.length + uptoBulk d + 1
  | (_, d) => uptoBulk d + 1
 end
def uptoSmall : (H : Type) → List (DataW H) → Bool := fun _ ds => decide (uptoBulkAll ds ≤ 1048576)
def OpenSpec.upto (s : _root_.Go.ChangeSpec) : _root_.Go.OpenSpec := { _root_.Go.OpenSpec.ofChange s with cond := some uptoSmall }

/-- 'fermatalaw21.CellsBack', WHERE WHAT IT READS IS OF BULK AT MOST 1048576: true; the input reads as it did. -/
def cellsBackUptoRow : OpenClaim := { program := "ytnhkadknibinfaa", sum := "0e7930a6f8ebbeea6c656e5a9491bdcb15a938032c83b0692040c1dd2b07a626", func := "fermata/fermatalaw21.CellsBack", spec := "cellsBack", unfollowed := true, recurses := true, plainKeys := false, apart := false, narrowed := true }
def CellsBackUptoSaid : Prop := cellsBackUptoRow.holds Try.pinned (OpenSpec.upto cellsBackSpec)

/-- 'fermatalaw21.CellsKeep', WHERE WHAT IT READS IS OF BULK AT MOST 1048576: true; the input reads as it did. -/
def cellsKeepUptoRow : OpenClaim := { program := "ytnhkadknibinfaa", sum := "0e7930a6f8ebbeea6c656e5a9491bdcb15a938032c83b0692040c1dd2b07a626", func := "fermata/fermatalaw21.CellsKeep", spec := "cellsKeep", unfollowed := true, recurses := true, plainKeys := false, apart := false, narrowed := true }
def CellsKeepUptoSaid : Prop := cellsKeepUptoRow.holds Try.pinned (OpenSpec.upto cellsKeepSpec)

/-- 'fermatalaw21.CellsAlone', WHERE WHAT IT READS IS OF BULK AT MOST 1048576: true; the input reads as it did. -/
def cellsAloneUptoRow : OpenClaim := { program := "ytnhkadknibinfaa", sum := "0e7930a6f8ebbeea6c656e5a9491bdcb15a938032c83b0692040c1dd2b07a626", func := "fermata/fermatalaw21.CellsAlone", spec := "cellsAlone", unfollowed := true, recurses := true, plainKeys := false, apart := false, narrowed := true }
def CellsAloneUptoSaid : Prop := cellsAloneUptoRow.holds Try.pinned (OpenSpec.upto cellsAloneSpec)

/-- 'fermatalaw21.CellsWrong', WHERE WHAT IT READS IS OF BULK AT MOST 1048576: true; the input reads as it did. -/
def cellsWrongUptoRow : OpenClaim := { program := "ytnhkadknibinfaa", sum := "0e7930a6f8ebbeea6c656e5a9491bdcb15a938032c83b0692040c1dd2b07a626", func := "fermata/fermatalaw21.CellsWrong", spec := "cellsWrong", unfollowed := true, recurses := true, plainKeys := false, apart := false, narrowed := true }
def CellsWrongUptoSaid : Prop := cellsWrongUptoRow.holds Try.pinned (OpenSpec.upto cellsWrongSpec)

/-- 'fermatalaw21.CellsActs', WHERE WHAT IT READS IS OF BULK AT MOST 1048576: true; the input reads as it did. -/
def cellsActsUptoRow : OpenClaim := { program := "ytnhkadknibinfaa", sum := "0e7930a6f8ebbeea6c656e5a9491bdcb15a938032c83b0692040c1dd2b07a626", func := "fermata/fermatalaw21.CellsActs", spec := "cellsActs", inPlace := ["maps.clone"], unfollowed := true, recurses := true, plainKeys := false, apart := false, narrowed := true }
def CellsActsUptoSaid : Prop := cellsActsUptoRow.holds Try.pinned (OpenSpec.upto cellsActsSpec)

/-- 'fermatalaw21.CellsSmall', WHERE WHAT IT READS IS OF BULK AT MOST 1048576: true; the input reads as it did. -/
def cellsSmallUptoRow : OpenClaim := { program := "ytnhkadknibinfaa", sum := "0e7930a6f8ebbeea6c656e5a9491bdcb15a938032c83b0692040c1dd2b07a626", func := "fermata/fermatalaw21.CellsSmall", spec := "cellsSmall", inPlace := ["maps.clone"], unfollowed := true, recurses := true, plainKeys := false, apart := false, narrowed := true }
def CellsSmallUptoSaid : Prop := cellsSmallUptoRow.holds Try.pinned (OpenSpec.upto cellsSmallSpec)

/-- 'fermatalaw21.CellsCopies', WHERE WHAT IT READS IS OF BULK AT MOST 1048576: true; the input reads as it did. -/
def cellsCopiesUptoRow : OpenClaim := { program := "ytnhkadknibinfaa", sum := "0e7930a6f8ebbeea6c656e5a9491bdcb15a938032c83b0692040c1dd2b07a626", func := "fermata/fermatalaw21.CellsCopies", spec := "cellsCopies", inPlace := ["maps.clone"], unfollowed := true, recurses := true, plainKeys := false, apart := false, narrowed := true }
def CellsCopiesUptoSaid : Prop := cellsCopiesUptoRow.holds Try.pinned (OpenSpec.upto cellsCopiesSpec)

end Rows
end Go.Proofs.Ytnhkadknibinfaa
