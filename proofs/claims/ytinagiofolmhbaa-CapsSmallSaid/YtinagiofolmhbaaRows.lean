/-
  No cell of these rows narrows 'for every input' (looked for: loops, veiled, ifaces, maps, wideKeys, modest, calm, conditions, laid).
  DERIVED. THE GIVEN ROWS OF THIS SEAT. 8 by the template 'for every input the law returns true; each argument reads behind the call as it read before'; 0 by the template 'total and deterministic' (their statements: YtinagiofolmhbaaTotals.lean).
  GIVEN WITH THE SEED: the statements are not yours to turn. If you find one false, say at which input.
  Laid BY PROGRAM, IN A SANDBOX (cutbox-rows.mjs): the forced cells as the released guide's own fill.sh prints them over the translation 71fca6de98871b46… (all of the seat's roots in one cut). By AI agents, Wed Nov 11 2026. No macro, syntax, notation, axiom, sorry.
-/
import Derived.Test.YtinagiofolmhbaaChecked
import GoSem.Claim
import GoSem.ClaimJoined
import GoSem.ClaimMapViews
import Derived.JoinedTies
import Derived.KernelRfl
namespace Go.Proofs.Ytinagiofolmhbaa
/- THE CELL 'sum', in the pinned program and in every row, IS THE sha256 OF THE DUMP (.gsa) THAT YtinagiofolmhbaaProg.lean LOADS. Nothing in Lean hashes anything: it is a label: what it is worth is what the hold of that sum in a sandbox is worth. -/
noncomputable def Try.pinned : Pinned := { name := "ytinagiofolmhbaa", sum := "71fca6de98871b46e296b3195599bc8675b49ca005188c06846ef1a616a3463f", checked := Try.checked }
namespace Rows
def none {H : Type} : Left H := { results := [], args := [] }

/-- 'fermatalaw23.CapsCloses': WHATEVER THE INPUT: true; the input reads as it did. -/
def capsClosesSpec : ChangeSpec := { name := "capsCloses", fn := fun _ => fun
  | [d1, d2] => { results := [.lit (.bool true)], args := [d1, d2] }
  | _ => none }
def capsClosesRow : OpenClaim := { program := "ytinagiofolmhbaa", sum := "71fca6de98871b46e296b3195599bc8675b49ca005188c06846ef1a616a3463f", func := "fermata/fermatalaw23.CapsCloses", spec := "capsCloses", inPlace := ["maps.clone"], unfollowed := true, recurses := true, apart := false }
def CapsClosesSaid : Prop := capsClosesRow.holds Try.pinned (OpenSpec.ofChange capsClosesSpec)

/-- ITS FALSE NEIGHBOUR: 'it returns false'. Refute it at one input. -/
def capsClosesWrong : ChangeSpec := { name := "capsCloses", fn := fun _ => fun
  | [d1, d2] => { results := [.lit (.bool false)], args := [d1, d2] }
  | _ => none }
def CapsClosesWrongFalsely : Prop := capsClosesRow.holds Try.pinned (OpenSpec.ofChange capsClosesWrong)

/-- 'fermatalaw23.CapsNever': WHATEVER THE INPUT: true; the input reads as it did. -/
def capsNeverSpec : ChangeSpec := { name := "capsNever", fn := fun _ => fun
  | [d] => { results := [.lit (.bool true)], args := [d] }
  | _ => none }
def capsNeverRow : OpenClaim := { program := "ytinagiofolmhbaa", sum := "71fca6de98871b46e296b3195599bc8675b49ca005188c06846ef1a616a3463f", func := "fermata/fermatalaw23.CapsNever", spec := "capsNever", unfollowed := true, recurses := true, apart := false }
def CapsNeverSaid : Prop := capsNeverRow.holds Try.pinned (OpenSpec.ofChange capsNeverSpec)

/-- ITS FALSE NEIGHBOUR: 'it returns false'. Refute it at one input. -/
def capsNeverWrong : ChangeSpec := { name := "capsNever", fn := fun _ => fun
  | [d] => { results := [.lit (.bool false)], args := [d] }
  | _ => none }
def CapsNeverWrongFalsely : Prop := capsNeverRow.holds Try.pinned (OpenSpec.ofChange capsNeverWrong)

/-- 'fermatalaw23.CapsWrong': WHATEVER THE INPUT: true; the input reads as it did. -/
def capsWrongSpec : ChangeSpec := { name := "capsWrong", fn := fun _ => fun
  | [d1, d2, d3, d4] => { results := [.lit (.bool true)], args := [d1, d2, d3, d4] }
  | _ => none }
def capsWrongRow : OpenClaim := { program := "ytinagiofolmhbaa", sum := "71fca6de98871b46e296b3195599bc8675b49ca005188c06846ef1a616a3463f", func := "fermata/fermatalaw23.CapsWrong", spec := "capsWrong", unfollowed := true, recurses := true, apart := false }
def CapsWrongSaid : Prop := capsWrongRow.holds Try.pinned (OpenSpec.ofChange capsWrongSpec)

/-- ITS FALSE NEIGHBOUR: 'it returns false'. Refute it at one input. -/
def capsWrongWrong : ChangeSpec := { name := "capsWrong", fn := fun _ => fun
  | [d1, d2, d3, d4] => { results := [.lit (.bool false)], args := [d1, d2, d3, d4] }
  | _ => none }
def CapsWrongWrongFalsely : Prop := capsWrongRow.holds Try.pinned (OpenSpec.ofChange capsWrongWrong)

/-- 'fermatalaw23.CapsPlaces': WHATEVER THE INPUT: true; the input reads as it did. -/
def capsPlacesSpec : ChangeSpec := { name := "capsPlaces", fn := fun _ => fun
  | [d1, d2] => { results := [.lit (.bool true)], args := [d1, d2] }
  | _ => none }
def capsPlacesRow : OpenClaim := { program := "ytinagiofolmhbaa", sum := "71fca6de98871b46e296b3195599bc8675b49ca005188c06846ef1a616a3463f", func := "fermata/fermatalaw23.CapsPlaces", spec := "capsPlaces", unfollowed := true, recurses := true, apart := false }
def CapsPlacesSaid : Prop := capsPlacesRow.holds Try.pinned (OpenSpec.ofChange capsPlacesSpec)

/-- ITS FALSE NEIGHBOUR: 'it returns false'. Refute it at one input. -/
def capsPlacesWrong : ChangeSpec := { name := "capsPlaces", fn := fun _ => fun
  | [d1, d2] => { results := [.lit (.bool false)], args := [d1, d2] }
  | _ => none }
def CapsPlacesWrongFalsely : Prop := capsPlacesRow.holds Try.pinned (OpenSpec.ofChange capsPlacesWrong)

/-- 'fermatalaw23.CapsRevoke': WHATEVER THE INPUT: true; the input reads as it did. -/
def capsRevokeSpec : ChangeSpec := { name := "capsRevoke", fn := fun _ => fun
  | [d1, d2] => { results := [.lit (.bool true)], args := [d1, d2] }
  | _ => none }
def capsRevokeRow : OpenClaim := { program := "ytinagiofolmhbaa", sum := "71fca6de98871b46e296b3195599bc8675b49ca005188c06846ef1a616a3463f", func := "fermata/fermatalaw23.CapsRevoke", spec := "capsRevoke", unfollowed := true, recurses := true, apart := false }
def CapsRevokeSaid : Prop := capsRevokeRow.holds Try.pinned (OpenSpec.ofChange capsRevokeSpec)

/-- ITS FALSE NEIGHBOUR: 'it returns false'. Refute it at one input. -/
def capsRevokeWrong : ChangeSpec := { name := "capsRevoke", fn := fun _ => fun
  | [d1, d2] => { results := [.lit (.bool false)], args := [d1, d2] }
  | _ => none }
def CapsRevokeWrongFalsely : Prop := capsRevokeRow.holds Try.pinned (OpenSpec.ofChange capsRevokeWrong)

/-- 'fermatalaw23.CapsActs': WHATEVER THE INPUT: true; the input reads as it did. -/
def capsActsSpec : ChangeSpec := { name := "capsActs", fn := fun _ => fun
  | [d1, d2] => { results := [.lit (.bool true)], args := [d1, d2] }
  | _ => none }
def capsActsRow : OpenClaim := { program := "ytinagiofolmhbaa", sum := "71fca6de98871b46e296b3195599bc8675b49ca005188c06846ef1a616a3463f", func := "fermata/fermatalaw23.CapsActs", spec := "capsActs", inPlace := ["maps.clone"], unfollowed := true, recurses := true, apart := false }
def CapsActsSaid : Prop := capsActsRow.holds Try.pinned (OpenSpec.ofChange capsActsSpec)

/-- ITS FALSE NEIGHBOUR: 'it returns false'. Refute it at one input. -/
def capsActsWrong : ChangeSpec := { name := "capsActs", fn := fun _ => fun
  | [d1, d2] => { results := [.lit (.bool false)], args := [d1, d2] }
  | _ => none }
def CapsActsWrongFalsely : Prop := capsActsRow.holds Try.pinned (OpenSpec.ofChange capsActsWrong)

/-- 'fermatalaw23.CapsSmall': WHATEVER THE INPUT: true; the input reads as it did. -/
def capsSmallSpec : ChangeSpec := { name := "capsSmall", fn := fun _ => fun
  | [] => { results := [.lit (.bool true)], args := [] }
  | _ => none }
def capsSmallRow : OpenClaim := { program := "ytinagiofolmhbaa", sum := "71fca6de98871b46e296b3195599bc8675b49ca005188c06846ef1a616a3463f", func := "fermata/fermatalaw23.CapsSmall", spec := "capsSmall", inPlace := ["maps.clone"], unfollowed := true, recurses := true, apart := false }
def CapsSmallSaid : Prop := capsSmallRow.holds Try.pinned (OpenSpec.ofChange capsSmallSpec)

/-- ITS FALSE NEIGHBOUR: 'it returns false'. Refute it at one input. -/
def capsSmallWrong : ChangeSpec := { name := "capsSmall", fn := fun _ => fun
  | [] => { results := [.lit (.bool false)], args := [] }
  | _ => none }
def CapsSmallWrongFalsely : Prop := capsSmallRow.holds Try.pinned (OpenSpec.ofChange capsSmallWrong)

/-- 'fermatalaw23.CapsCopies': WHATEVER THE INPUT: true; the input reads as it did. -/
def capsCopiesSpec : ChangeSpec := { name := "capsCopies", fn := fun _ => fun
  | [d1, d2] => { results := [.lit (.bool true)], args := [d1, d2] }
  | _ => none }
def capsCopiesRow : OpenClaim := { program := "ytinagiofolmhbaa", sum := "71fca6de98871b46e296b3195599bc8675b49ca005188c06846ef1a616a3463f", func := "fermata/fermatalaw23.CapsCopies", spec := "capsCopies", inPlace := ["maps.clone"], unfollowed := true, recurses := true, apart := false }
def CapsCopiesSaid : Prop := capsCopiesRow.holds Try.pinned (OpenSpec.ofChange capsCopiesSpec)

/-- ITS FALSE NEIGHBOUR: 'it returns false'. Refute it at one input. -/
def capsCopiesWrong : ChangeSpec := { name := "capsCopies", fn := fun _ => fun
  | [d1, d2] => { results := [.lit (.bool false)], args := [d1, d2] }
  | _ => none }
def CapsCopiesWrongFalsely : Prop := capsCopiesRow.holds Try.pinned (OpenSpec.ofChange capsCopiesWrong)

/- THE SECOND FORM. 'bulk': how many values and letters a reading holds, each counted each time it is reached (what is shared counts as often as it is met; a slice's spare places count too). A statement '..UptoSaid' is the law's where the arguments, and the package variables that the reading takes, are together of bulk at most 1048576: NARROWER than '..Said'. Prove '..Said' where nothing that the law and all that it calls make is longer than what came in: it says more and counts as full. Else prove '..UptoSaid'. A law counts once. -/
mutual
def uptoBulk {H : Type} : DataW H → Nat
  | .lit (.string bytes) => bytes.length + 1
  | .lit _ => 1
  | .nil => 1
  | .ptr d => uptoBulk d + 1
  | .slice elems spare => uptoBulkAll elems + uptoBulkAll spare + 1
  | .agg parts => uptoBulkAll parts + 1
  | .iface _ d => uptoBulk d + 1
  | .map entries => uptoBulkEntries entries + 1
  | .held _ => 1
def uptoBulkAll {H : Type} : List (DataW H) → Nat
  | [] => 0
  | d :: r => uptoBulk d + uptoBulkAll r
def uptoBulkEntries {H : Type} : List (Lit × DataW H) → Nat
  | [] => 0
  | x :: r => uptoBulkEntry x + uptoBulkEntries r
def uptoBulkEntry {H : Type} : Lit × DataW H → Nat
  | (.string bytes, d) => bytes.length + uptoBulk d + 1
  | (_, d) => uptoBulk d + 1
 end
def uptoSmall : (H : Type) → List (DataW H) → Bool := fun _ ds => decide (uptoBulkAll ds ≤ 1048576)
def OpenSpec.upto (s : _root_.Go.ChangeSpec) : _root_.Go.OpenSpec := { _root_.Go.OpenSpec.ofChange s with cond := some uptoSmall }

/-- 'fermatalaw23.CapsCloses', WHERE WHAT IT READS IS OF BULK AT MOST 1048576: true; the input reads as it did. -/
def capsClosesUptoRow : OpenClaim := { program := "ytinagiofolmhbaa", sum := "71fca6de98871b46e296b3195599bc8675b49ca005188c06846ef1a616a3463f", func := "fermata/fermatalaw23.CapsCloses", spec := "capsCloses", inPlace := ["maps.clone"], unfollowed := true, recurses := true, apart := false, narrowed := true }
def CapsClosesUptoSaid : Prop := capsClosesUptoRow.holds Try.pinned (OpenSpec.upto capsClosesSpec)

/-- 'fermatalaw23.CapsNever', WHERE WHAT IT READS IS OF BULK AT MOST 1048576: true; the input reads as it did. -/
def capsNeverUptoRow : OpenClaim := { program := "ytinagiofolmhbaa", sum := "71fca6de98871b46e296b3195599bc8675b49ca005188c06846ef1a616a3463f", func := "fermata/fermatalaw23.CapsNever", spec := "capsNever", unfollowed := true, recurses := true, apart := false, narrowed := true }
def CapsNeverUptoSaid : Prop := capsNeverUptoRow.holds Try.pinned (OpenSpec.upto capsNeverSpec)

/-- 'fermatalaw23.CapsWrong', WHERE WHAT IT READS IS OF BULK AT MOST 1048576: true; the input reads as it did. -/
def capsWrongUptoRow : OpenClaim := { program := "ytinagiofolmhbaa", sum := "71fca6de98871b46e296b3195599bc8675b49ca005188c06846ef1a616a3463f", func := "fermata/fermatalaw23.CapsWrong", spec := "capsWrong", unfollowed := true, recurses := true, apart := false, narrowed := true }
def CapsWrongUptoSaid : Prop := capsWrongUptoRow.holds Try.pinned (OpenSpec.upto capsWrongSpec)

/-- 'fermatalaw23.CapsPlaces', WHERE WHAT IT READS IS OF BULK AT MOST 1048576: true; the input reads as it did. -/
def capsPlacesUptoRow : OpenClaim := { program := "ytinagiofolmhbaa", sum := "71fca6de98871b46e296b3195599bc8675b49ca005188c06846ef1a616a3463f", func := "fermata/fermatalaw23.CapsPlaces", spec := "capsPlaces", unfollowed := true, recurses := true, apart := false, narrowed := true }
def CapsPlacesUptoSaid : Prop := capsPlacesUptoRow.holds Try.pinned (OpenSpec.upto capsPlacesSpec)

/-- 'fermatalaw23.CapsRevoke', WHERE WHAT IT READS IS OF BULK AT MOST 1048576: true; the input reads as it did. -/
def capsRevokeUptoRow : OpenClaim := { program := "ytinagiofolmhbaa", sum := "71fca6de98871b46e296b3195599bc8675b49ca005188c06846ef1a616a3463f", func := "fermata/fermatalaw23.CapsRevoke", spec := "capsRevoke", unfollowed := true, recurses := true, apart := false, narrowed := true }
def CapsRevokeUptoSaid : Prop := capsRevokeUptoRow.holds Try.pinned (OpenSpec.upto capsRevokeSpec)

/-- 'fermatalaw23.CapsActs', WHERE WHAT IT READS IS OF BULK AT MOST 1048576: true; the input reads as it did. -/
def capsActsUptoRow : OpenClaim := { program := "ytinagiofolmhbaa", sum := "71fca6de98871b46e296b3195599bc8675b49ca005188c06846ef1a616a3463f", func := "fermata/fermatalaw23.CapsActs", spec := "capsActs", inPlace := ["maps.clone"], unfollowed := true, recurses := true, apart := false, narrowed := true }
def CapsActsUptoSaid : Prop := capsActsUptoRow.holds Try.pinned (OpenSpec.upto capsActsSpec)

/-- 'fermatalaw23.CapsSmall', WHERE WHAT IT READS IS OF BULK AT MOST 1048576: true; the input reads as it did. -/
def capsSmallUptoRow : OpenClaim := { program := "ytinagiofolmhbaa", sum := "71fca6de98871b46e296b3195599bc8675b49ca005188c06846ef1a616a3463f", func := "fermata/fermatalaw23.CapsSmall", spec := "capsSmall", inPlace := ["maps.clone"], unfollowed := true, recurses := true, apart := false, narrowed := true }
def CapsSmallUptoSaid : Prop := capsSmallUptoRow.holds Try.pinned (OpenSpec.upto capsSmallSpec)

/-- 'fermatalaw23.CapsCopies', WHERE WHAT IT READS IS OF BULK AT MOST 1048576: true; the input reads as it did. -/
def capsCopiesUptoRow : OpenClaim := { program := "ytinagiofolmhbaa", sum := "71fca6de98871b46e296b3195599bc8675b49ca005188c06846ef1a616a3463f", func := "fermata/fermatalaw23.CapsCopies", spec := "capsCopies", inPlace := ["maps.clone"], unfollowed := true, recurses := true, apart := false, narrowed := true }
def CapsCopiesUptoSaid : Prop := capsCopiesUptoRow.holds Try.pinned (OpenSpec.upto capsCopiesSpec)

end Rows
end Go.Proofs.Ytinagiofolmhbaa
