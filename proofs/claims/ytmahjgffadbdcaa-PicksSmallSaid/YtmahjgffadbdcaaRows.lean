/-
  No cell of these rows narrows 'for every input' (looked for: loops, veiled, ifaces, maps, wideKeys, modest, calm, conditions, laid).
  DERIVED. THE GIVEN ROWS OF THIS SEAT. 8 by the template 'for every input the law returns true; each argument reads behind the call as it read before'; 0 by the template 'total and deterministic' (their statements: YtmahjgffadbdcaaTotals.lean).
  GIVEN WITH THE SEED: the statements are not yours to turn. If you find one false, say at which input.
  Laid BY PROGRAM, IN A SANDBOX (cutbox-rows.mjs): the forced cells as the released guide's own fill.sh prints them over the translation 91802cdd50b47904… (all of the seat's roots in one cut). By AI agents, Wed Nov 11 2026. No macro, syntax, notation, axiom, sorry.
-/
import Derived.Test.YtmahjgffadbdcaaChecked
import GoSem.Claim
import GoSem.ClaimJoined
import GoSem.ClaimMapViews
import Derived.JoinedTies
import Derived.KernelRfl
namespace Go.Proofs.Ytmahjgffadbdcaa
/- THE CELL 'sum', in the pinned program and in every row, IS THE sha256 OF THE DUMP (.gsa) THAT YtmahjgffadbdcaaProg.lean LOADS. Nothing in Lean hashes anything: it is a label: what it is worth is what the hold of that sum in a sandbox is worth. -/
noncomputable def Try.pinned : Pinned := { name := "ytmahjgffadbdcaa", sum := "91802cdd50b47904c7eb2ff5ad19c2702fdc9beab359f7b042f126f60062c797", checked := Try.checked }
namespace Rows
def none {H : Type} : Left H := { results := [], args := [] }

/-- 'fermatalaw30.PicksAll': WHATEVER THE INPUT: true; the input reads as it did. -/
def picksAllSpec : ChangeSpec := { name := "picksAll", fn := fun _ => fun
  | [d1, d2, d3] => { results := [.lit (.bool true)], args := [d1, d2, d3] }
  | _ => none }
def picksAllRow : OpenClaim := { program := "ytmahjgffadbdcaa", sum := "91802cdd50b47904c7eb2ff5ad19c2702fdc9beab359f7b042f126f60062c797", func := "fermata/fermatalaw30.PicksAll", spec := "picksAll", unfollowed := true, recurses := true, apart := false }
def PicksAllSaid : Prop := picksAllRow.holds Try.pinned (OpenSpec.ofChange picksAllSpec)

/-- ITS FALSE NEIGHBOUR: 'it returns false'. Refute it at one input. -/
def picksAllWrong : ChangeSpec := { name := "picksAll", fn := fun _ => fun
  | [d1, d2, d3] => { results := [.lit (.bool false)], args := [d1, d2, d3] }
  | _ => none }
def PicksAllWrongFalsely : Prop := picksAllRow.holds Try.pinned (OpenSpec.ofChange picksAllWrong)

/-- 'fermatalaw30.PicksOrder': WHATEVER THE INPUT: true; the input reads as it did. -/
def picksOrderSpec : ChangeSpec := { name := "picksOrder", fn := fun _ => fun
  | [d1, d2] => { results := [.lit (.bool true)], args := [d1, d2] }
  | _ => none }
def picksOrderRow : OpenClaim := { program := "ytmahjgffadbdcaa", sum := "91802cdd50b47904c7eb2ff5ad19c2702fdc9beab359f7b042f126f60062c797", func := "fermata/fermatalaw30.PicksOrder", spec := "picksOrder", unfollowed := true, recurses := true, apart := false }
def PicksOrderSaid : Prop := picksOrderRow.holds Try.pinned (OpenSpec.ofChange picksOrderSpec)

/-- ITS FALSE NEIGHBOUR: 'it returns false'. Refute it at one input. -/
def picksOrderWrong : ChangeSpec := { name := "picksOrder", fn := fun _ => fun
  | [d1, d2] => { results := [.lit (.bool false)], args := [d1, d2] }
  | _ => none }
def PicksOrderWrongFalsely : Prop := picksOrderRow.holds Try.pinned (OpenSpec.ofChange picksOrderWrong)

/-- 'fermatalaw30.PicksTells': WHATEVER THE INPUT: true; the input reads as it did. -/
def picksTellsSpec : ChangeSpec := { name := "picksTells", fn := fun _ => fun
  | [d1, d2, d3] => { results := [.lit (.bool true)], args := [d1, d2, d3] }
  | _ => none }
def picksTellsRow : OpenClaim := { program := "ytmahjgffadbdcaa", sum := "91802cdd50b47904c7eb2ff5ad19c2702fdc9beab359f7b042f126f60062c797", func := "fermata/fermatalaw30.PicksTells", spec := "picksTells", unfollowed := true, recurses := true, apart := false }
def PicksTellsSaid : Prop := picksTellsRow.holds Try.pinned (OpenSpec.ofChange picksTellsSpec)

/-- ITS FALSE NEIGHBOUR: 'it returns false'. Refute it at one input. -/
def picksTellsWrong : ChangeSpec := { name := "picksTells", fn := fun _ => fun
  | [d1, d2, d3] => { results := [.lit (.bool false)], args := [d1, d2, d3] }
  | _ => none }
def PicksTellsWrongFalsely : Prop := picksTellsRow.holds Try.pinned (OpenSpec.ofChange picksTellsWrong)

/-- 'fermatalaw30.PicksSmall': WHATEVER THE INPUT: true; the input reads as it did. -/
def picksSmallSpec : ChangeSpec := { name := "picksSmall", fn := fun _ => fun
  | [] => { results := [.lit (.bool true)], args := [] }
  | _ => none }
def picksSmallRow : OpenClaim := { program := "ytmahjgffadbdcaa", sum := "91802cdd50b47904c7eb2ff5ad19c2702fdc9beab359f7b042f126f60062c797", func := "fermata/fermatalaw30.PicksSmall", spec := "picksSmall", unfollowed := true, recurses := true, apart := false }
def PicksSmallSaid : Prop := picksSmallRow.holds Try.pinned (OpenSpec.ofChange picksSmallSpec)

/-- ITS FALSE NEIGHBOUR: 'it returns false'. Refute it at one input. -/
def picksSmallWrong : ChangeSpec := { name := "picksSmall", fn := fun _ => fun
  | [] => { results := [.lit (.bool false)], args := [] }
  | _ => none }
def PicksSmallWrongFalsely : Prop := picksSmallRow.holds Try.pinned (OpenSpec.ofChange picksSmallWrong)

/-- 'fermatalaw30.PicksBehind': WHATEVER THE INPUT: true; the input reads as it did. -/
def picksBehindSpec : ChangeSpec := { name := "picksBehind", fn := fun _ => fun
  | [d1, d2, d3] => { results := [.lit (.bool true)], args := [d1, d2, d3] }
  | _ => none }
def picksBehindRow : OpenClaim := { program := "ytmahjgffadbdcaa", sum := "91802cdd50b47904c7eb2ff5ad19c2702fdc9beab359f7b042f126f60062c797", func := "fermata/fermatalaw30.PicksBehind", spec := "picksBehind", unfollowed := true, recurses := true, apart := false }
def PicksBehindSaid : Prop := picksBehindRow.holds Try.pinned (OpenSpec.ofChange picksBehindSpec)

/-- ITS FALSE NEIGHBOUR: 'it returns false'. Refute it at one input. -/
def picksBehindWrong : ChangeSpec := { name := "picksBehind", fn := fun _ => fun
  | [d1, d2, d3] => { results := [.lit (.bool false)], args := [d1, d2, d3] }
  | _ => none }
def PicksBehindWrongFalsely : Prop := picksBehindRow.holds Try.pinned (OpenSpec.ofChange picksBehindWrong)

/-- 'fermatalaw30.PicksSwaps': WHATEVER THE INPUT: true; the input reads as it did. -/
def picksSwapsSpec : ChangeSpec := { name := "picksSwaps", fn := fun _ => fun
  | [d1, d2, d3, d4, d5] => { results := [.lit (.bool true)], args := [d1, d2, d3, d4, d5] }
  | _ => none }
def picksSwapsRow : OpenClaim := { program := "ytmahjgffadbdcaa", sum := "91802cdd50b47904c7eb2ff5ad19c2702fdc9beab359f7b042f126f60062c797", func := "fermata/fermatalaw30.PicksSwaps", spec := "picksSwaps", unfollowed := true, recurses := true, apart := false }
def PicksSwapsSaid : Prop := picksSwapsRow.holds Try.pinned (OpenSpec.ofChange picksSwapsSpec)

/-- ITS FALSE NEIGHBOUR: 'it returns false'. Refute it at one input. -/
def picksSwapsWrong : ChangeSpec := { name := "picksSwaps", fn := fun _ => fun
  | [d1, d2, d3, d4, d5] => { results := [.lit (.bool false)], args := [d1, d2, d3, d4, d5] }
  | _ => none }
def PicksSwapsWrongFalsely : Prop := picksSwapsRow.holds Try.pinned (OpenSpec.ofChange picksSwapsWrong)

/-- 'fermatalaw30.PicksWrong': WHATEVER THE INPUT: true; the input reads as it did. -/
def picksWrongSpec : ChangeSpec := { name := "picksWrong", fn := fun _ => fun
  | [d1, d2, d3, d4] => { results := [.lit (.bool true)], args := [d1, d2, d3, d4] }
  | _ => none }
def picksWrongRow : OpenClaim := { program := "ytmahjgffadbdcaa", sum := "91802cdd50b47904c7eb2ff5ad19c2702fdc9beab359f7b042f126f60062c797", func := "fermata/fermatalaw30.PicksWrong", spec := "picksWrong", unfollowed := true, recurses := true, apart := false }
def PicksWrongSaid : Prop := picksWrongRow.holds Try.pinned (OpenSpec.ofChange picksWrongSpec)

/-- ITS FALSE NEIGHBOUR: 'it returns false'. Refute it at one input. -/
def picksWrongWrong : ChangeSpec := { name := "picksWrong", fn := fun _ => fun
  | [d1, d2, d3, d4] => { results := [.lit (.bool false)], args := [d1, d2, d3, d4] }
  | _ => none }
def PicksWrongWrongFalsely : Prop := picksWrongRow.holds Try.pinned (OpenSpec.ofChange picksWrongWrong)

/-- 'fermatalaw30.PicksRanks': WHATEVER THE INPUT: true; the input reads as it did. -/
def picksRanksSpec : ChangeSpec := { name := "picksRanks", fn := fun _ => fun
  | [d1, d2, d3, d4] => { results := [.lit (.bool true)], args := [d1, d2, d3, d4] }
  | _ => none }
def picksRanksRow : OpenClaim := { program := "ytmahjgffadbdcaa", sum := "91802cdd50b47904c7eb2ff5ad19c2702fdc9beab359f7b042f126f60062c797", func := "fermata/fermatalaw30.PicksRanks", spec := "picksRanks", unfollowed := true, recurses := true, apart := false }
def PicksRanksSaid : Prop := picksRanksRow.holds Try.pinned (OpenSpec.ofChange picksRanksSpec)

/-- ITS FALSE NEIGHBOUR: 'it returns false'. Refute it at one input. -/
def picksRanksWrong : ChangeSpec := { name := "picksRanks", fn := fun _ => fun
  | [d1, d2, d3, d4] => { results := [.lit (.bool false)], args := [d1, d2, d3, d4] }
  | _ => none }
def PicksRanksWrongFalsely : Prop := picksRanksRow.holds Try.pinned (OpenSpec.ofChange picksRanksWrong)

/- THE SECOND FORM. 'bulk': how many values and letters a reading holds, each counted each time it is reached (what is shared counts as often as it is met; a slice's spare places count too). A statement '..UptoSaid' is the law's where the arguments, and the package variables that the reading takes, are together of bulk at most 1048576: NARROWER than '..Said'. Prove '..Said' where nothing that the law and all that it calls make is longer than what came in: it says more and counts as full. Else prove '..UptoSaid'. A law counts once. -/
mutual
def uptoBulk {H : Type} : DataW H → Nat
  | .lit (.string bytes) => bytes.length + 1
  | .lit _ => 1
  | .nil => 1
  | .ptr d => uptoBulk d + 1
  | .slice elems spare => uptoBulkAll elems + uptoBulkAll spare + 1
  | .agg parts => uptoBulkAll parts + 1
  | .iface _ d => uptoBulk d + 1
  | .map entries => uptoBulkEntries entries + 1
  | .held _ => 1
def uptoBulkAll {H : Type} : List (DataW H) → Nat
  | [] => 0
  | d :: r => uptoBulk d + uptoBulkAll r
def uptoBulkEntries {H : Type} : List (Lit × DataW H) → Nat
  | [] => 0
  | x :: r => uptoBulkEntry x + uptoBulkEntries r
def uptoBulkEntry {H : Type} : Lit × DataW H → Nat
  | (.string bytes, d) => bytes.length + uptoBulk d + 1
  | (_, d) => uptoBulk d + 1
 end
def uptoSmall : (H : Type) → List (DataW H) → Bool := fun _ ds => decide (uptoBulkAll ds ≤ 1048576)
def OpenSpec.upto (s : _root_.Go.ChangeSpec) : _root_.Go.OpenSpec := { _root_.Go.OpenSpec.ofChange s with cond := some uptoSmall }

/-- 'fermatalaw30.PicksAll', WHERE WHAT IT READS IS OF BULK AT MOST 1048576: true; the input reads as it did. -/
def picksAllUptoRow : OpenClaim := { program := "ytmahjgffadbdcaa", sum := "91802cdd50b47904c7eb2ff5ad19c2702fdc9beab359f7b042f126f60062c797", func := "fermata/fermatalaw30.PicksAll", spec := "picksAll", unfollowed := true, recurses := true, apart := false, narrowed := true }
def PicksAllUptoSaid : Prop := picksAllUptoRow.holds Try.pinned (OpenSpec.upto picksAllSpec)

/-- 'fermatalaw30.PicksOrder', WHERE WHAT IT READS IS OF BULK AT MOST 1048576: true; the input reads as it did. -/
def picksOrderUptoRow : OpenClaim := { program := "ytmahjgffadbdcaa", sum := "91802cdd50b47904c7eb2ff5ad19c2702fdc9beab359f7b042f126f60062c797", func := "fermata/fermatalaw30.PicksOrder", spec := "picksOrder", unfollowed := true, recurses := true, apart := false, narrowed := true }
def PicksOrderUptoSaid : Prop := picksOrderUptoRow.holds Try.pinned (OpenSpec.upto picksOrderSpec)

/-- 'fermatalaw30.PicksTells', WHERE WHAT IT READS IS OF BULK AT MOST 1048576: true; the input reads as it did. -/
def picksTellsUptoRow : OpenClaim := { program := "ytmahjgffadbdcaa", sum := "91802cdd50b47904c7eb2ff5ad19c2702fdc9beab359f7b042f126f60062c797", func := "fermata/fermatalaw30.PicksTells", spec := "picksTells", unfollowed := true, recurses := true, apart := false, narrowed := true }
def PicksTellsUptoSaid : Prop := picksTellsUptoRow.holds Try.pinned (OpenSpec.upto picksTellsSpec)

/-- 'fermatalaw30.PicksSmall', WHERE WHAT IT READS IS OF BULK AT MOST 1048576: true; the input reads as it did. -/
def picksSmallUptoRow : OpenClaim := { program := "ytmahjgffadbdcaa", sum := "91802cdd50b47904c7eb2ff5ad19c2702fdc9beab359f7b042f126f60062c797", func := "fermata/fermatalaw30.PicksSmall", spec := "picksSmall", unfollowed := true, recurses := true, apart := false, narrowed := true }
def PicksSmallUptoSaid : Prop := picksSmallUptoRow.holds Try.pinned (OpenSpec.upto picksSmallSpec)

/-- 'fermatalaw30.PicksBehind', WHERE WHAT IT READS IS OF BULK AT MOST 1048576: true; the input reads as it did. -/
def picksBehindUptoRow : OpenClaim := { program := "ytmahjgffadbdcaa", sum := "91802cdd50b47904c7eb2ff5ad19c2702fdc9beab359f7b042f126f60062c797", func := "fermata/fermatalaw30.PicksBehind", spec := "picksBehind", unfollowed := true, recurses := true, apart := false, narrowed := true }
def PicksBehindUptoSaid : Prop := picksBehindUptoRow.holds Try.pinned (OpenSpec.upto picksBehindSpec)

/-- 'fermatalaw30.PicksSwaps', WHERE WHAT IT READS IS OF BULK AT MOST 1048576: true; the input reads as it did. -/
def picksSwapsUptoRow : OpenClaim := { program := "ytmahjgffadbdcaa", sum := "91802cdd50b47904c7eb2ff5ad19c2702fdc9beab359f7b042f126f60062c797", func := "fermata/fermatalaw30.PicksSwaps", spec := "picksSwaps", unfollowed := true, recurses := true, apart := false, narrowed := true }
def PicksSwapsUptoSaid : Prop := picksSwapsUptoRow.holds Try.pinned (OpenSpec.upto picksSwapsSpec)

/-- 'fermatalaw30.PicksWrong', WHERE WHAT IT READS IS OF BULK AT MOST 1048576: true; the input reads as it did. -/
def picksWrongUptoRow : OpenClaim := { program := "ytmahjgffadbdcaa", sum := "91802cdd50b47904c7eb2ff5ad19c2702fdc9beab359f7b042f126f60062c797", func := "fermata/fermatalaw30.PicksWrong", spec := "picksWrong", unfollowed := true, recurses := true, apart := false, narrowed := true }
def PicksWrongUptoSaid : Prop := picksWrongUptoRow.holds Try.pinned (OpenSpec.upto picksWrongSpec)

/-- 'fermatalaw30.PicksRanks', WHERE WHAT IT READS IS OF BULK AT MOST 1048576: true; the input reads as it did. -/
def picksRanksUptoRow : OpenClaim := { program := "ytmahjgffadbdcaa", sum := "91802cdd50b47904c7eb2ff5ad19c2702fdc9beab359f7b042f126f60062c797", func := "fermata/fermatalaw30.PicksRanks", spec := "picksRanks", unfollowed := true, recurses := true, apart := false, narrowed := true }
def PicksRanksUptoSaid : Prop := picksRanksUptoRow.holds Try.pinned (OpenSpec.upto picksRanksSpec)

end Rows
end Go.Proofs.Ytmahjgffadbdcaa
