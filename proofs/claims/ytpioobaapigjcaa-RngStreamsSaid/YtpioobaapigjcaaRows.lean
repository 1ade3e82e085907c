/-
  No cell of these rows narrows 'for every input' (looked for: loops, veiled, ifaces, maps, wideKeys, modest, calm, conditions, laid).
  DERIVED. THE GIVEN ROWS OF THIS SEAT. 9 by the template 'for every input the law returns true; each argument reads behind the call as it read before'; 0 by the template 'total and deterministic' (their statements: YtpioobaapigjcaaTotals.lean).
  GIVEN WITH THE SEED: the statements are not yours to turn. If you find one false, say at which input.
  Laid BY PROGRAM, IN A SANDBOX (cutbox-rows.mjs): the forced cells as the released guide's own fill.sh prints them over the translation 7b0ea818e213fb8c… (all of the seat's roots in one cut). By AI agents, Wed Nov 11 2026. No macro, syntax, notation, axiom, sorry.
-/
import Derived.Test.YtpioobaapigjcaaChecked
import GoSem.Claim
import GoSem.ClaimJoined
import GoSem.ClaimMapViews
import Derived.JoinedTies
import Derived.KernelRfl
namespace Go.Proofs.Ytpioobaapigjcaa
/- THE CELL 'sum', in the pinned program and in every row, IS THE sha256 OF THE DUMP (.gsa) THAT YtpioobaapigjcaaProg.lean LOADS. Nothing in Lean hashes anything: it is a label: what it is worth is what the hold of that sum in a sandbox is worth. -/
noncomputable def Try.pinned : Pinned := { name := "ytpioobaapigjcaa", sum := "7b0ea818e213fb8c86fcb91a77b5a24e1ad3a1e6de6178497979a152bd6c882b", checked := Try.checked }
namespace Rows
def none {H : Type} : Left H := { results := [], args := [] }

/-- 'fermatalaw06.RngOnce': WHATEVER THE INPUT: true; the input reads as it did. -/
def rngOnceSpec : ChangeSpec := { name := "rngOnce", fn := fun _ => fun
  | [d1, d2, d3, d4] => { results := [.lit (.bool true)], args := [d1, d2, d3, d4] }
  | _ => none }
def rngOnceRow : OpenClaim := { program := "ytpioobaapigjcaa", sum := "7b0ea818e213fb8c86fcb91a77b5a24e1ad3a1e6de6178497979a152bd6c882b", func := "fermata/fermatalaw06.RngOnce", spec := "rngOnce", unfollowed := true, recurses := true, apart := false }
def RngOnceSaid : Prop := rngOnceRow.holds Try.pinned (OpenSpec.ofChange rngOnceSpec)

/-- ITS FALSE NEIGHBOUR: 'it returns false'. Refute it at one input. -/
def rngOnceWrong : ChangeSpec := { name := "rngOnce", fn := fun _ => fun
  | [d1, d2, d3, d4] => { results := [.lit (.bool false)], args := [d1, d2, d3, d4] }
  | _ => none }
def RngOnceWrongFalsely : Prop := rngOnceRow.holds Try.pinned (OpenSpec.ofChange rngOnceWrong)

/-- 'fermatalaw06.RngSpread': WHATEVER THE INPUT: true; the input reads as it did. -/
def rngSpreadSpec : ChangeSpec := { name := "rngSpread", fn := fun _ => fun
  | [d1, d2, d3] => { results := [.lit (.bool true)], args := [d1, d2, d3] }
  | _ => none }
def rngSpreadRow : OpenClaim := { program := "ytpioobaapigjcaa", sum := "7b0ea818e213fb8c86fcb91a77b5a24e1ad3a1e6de6178497979a152bd6c882b", func := "fermata/fermatalaw06.RngSpread", spec := "rngSpread", unfollowed := true, recurses := true, apart := false }
def RngSpreadSaid : Prop := rngSpreadRow.holds Try.pinned (OpenSpec.ofChange rngSpreadSpec)

/-- ITS FALSE NEIGHBOUR: 'it returns false'. Refute it at one input. -/
def rngSpreadWrong : ChangeSpec := { name := "rngSpread", fn := fun _ => fun
  | [d1, d2, d3] => { results := [.lit (.bool false)], args := [d1, d2, d3] }
  | _ => none }
def RngSpreadWrongFalsely : Prop := rngSpreadRow.holds Try.pinned (OpenSpec.ofChange rngSpreadWrong)

/-- 'fermatalaw06.RngOrder': WHATEVER THE INPUT: true; the input reads as it did. -/
def rngOrderSpec : ChangeSpec := { name := "rngOrder", fn := fun _ => fun
  | [d1, d2, d3, d4] => { results := [.lit (.bool true)], args := [d1, d2, d3, d4] }
  | _ => none }
def rngOrderRow : OpenClaim := { program := "ytpioobaapigjcaa", sum := "7b0ea818e213fb8c86fcb91a77b5a24e1ad3a1e6de6178497979a152bd6c882b", func := "fermata/fermatalaw06.RngOrder", spec := "rngOrder", unfollowed := true, recurses := true, apart := false }
def RngOrderSaid : Prop := rngOrderRow.holds Try.pinned (OpenSpec.ofChange rngOrderSpec)

/-- ITS FALSE NEIGHBOUR: 'it returns false'. Refute it at one input. -/
def rngOrderWrong : ChangeSpec := { name := "rngOrder", fn := fun _ => fun
  | [d1, d2, d3, d4] => { results := [.lit (.bool false)], args := [d1, d2, d3, d4] }
  | _ => none }
def RngOrderWrongFalsely : Prop := rngOrderRow.holds Try.pinned (OpenSpec.ofChange rngOrderWrong)

/-- 'fermatalaw06.RngApart': WHATEVER THE INPUT: true; the input reads as it did. -/
def rngApartSpec : ChangeSpec := { name := "rngApart", fn := fun _ => fun
  | [d1, d2, d3, d4, d5] => { results := [.lit (.bool true)], args := [d1, d2, d3, d4, d5] }
  | _ => none }
def rngApartRow : OpenClaim := { program := "ytpioobaapigjcaa", sum := "7b0ea818e213fb8c86fcb91a77b5a24e1ad3a1e6de6178497979a152bd6c882b", func := "fermata/fermatalaw06.RngApart", spec := "rngApart", unfollowed := true, recurses := true, apart := false }
def RngApartSaid : Prop := rngApartRow.holds Try.pinned (OpenSpec.ofChange rngApartSpec)

/-- ITS FALSE NEIGHBOUR: 'it returns false'. Refute it at one input. -/
def rngApartWrong : ChangeSpec := { name := "rngApart", fn := fun _ => fun
  | [d1, d2, d3, d4, d5] => { results := [.lit (.bool false)], args := [d1, d2, d3, d4, d5] }
  | _ => none }
def RngApartWrongFalsely : Prop := rngApartRow.holds Try.pinned (OpenSpec.ofChange rngApartWrong)

/-- 'fermatalaw06.RngTells': WHATEVER THE INPUT: true; the input reads as it did. -/
def rngTellsSpec : ChangeSpec := { name := "rngTells", fn := fun _ => fun
  | [d1, d2, d3, d4, d5, d6] => { results := [.lit (.bool true)], args := [d1, d2, d3, d4, d5, d6] }
  | _ => none }
def rngTellsRow : OpenClaim := { program := "ytpioobaapigjcaa", sum := "7b0ea818e213fb8c86fcb91a77b5a24e1ad3a1e6de6178497979a152bd6c882b", func := "fermata/fermatalaw06.RngTells", spec := "rngTells", unfollowed := true, recurses := true, apart := false }
def RngTellsSaid : Prop := rngTellsRow.holds Try.pinned (OpenSpec.ofChange rngTellsSpec)

/-- ITS FALSE NEIGHBOUR: 'it returns false'. Refute it at one input. -/
def rngTellsWrong : ChangeSpec := { name := "rngTells", fn := fun _ => fun
  | [d1, d2, d3, d4, d5, d6] => { results := [.lit (.bool false)], args := [d1, d2, d3, d4, d5, d6] }
  | _ => none }
def RngTellsWrongFalsely : Prop := rngTellsRow.holds Try.pinned (OpenSpec.ofChange rngTellsWrong)

/-- 'fermatalaw06.RngStreams': WHATEVER THE INPUT: true; the input reads as it did. -/
def rngStreamsSpec : ChangeSpec := { name := "rngStreams", fn := fun _ => fun
  | [d1, d2, d3] => { results := [.lit (.bool true)], args := [d1, d2, d3] }
  | _ => none }
def rngStreamsRow : OpenClaim := { program := "ytpioobaapigjcaa", sum := "7b0ea818e213fb8c86fcb91a77b5a24e1ad3a1e6de6178497979a152bd6c882b", func := "fermata/fermatalaw06.RngStreams", spec := "rngStreams", unfollowed := true, recurses := true, apart := false }
def RngStreamsSaid : Prop := rngStreamsRow.holds Try.pinned (OpenSpec.ofChange rngStreamsSpec)

/-- ITS FALSE NEIGHBOUR: 'it returns false'. Refute it at one input. -/
def rngStreamsWrong : ChangeSpec := { name := "rngStreams", fn := fun _ => fun
  | [d1, d2, d3] => { results := [.lit (.bool false)], args := [d1, d2, d3] }
  | _ => none }
def RngStreamsWrongFalsely : Prop := rngStreamsRow.holds Try.pinned (OpenSpec.ofChange rngStreamsWrong)

/-- 'fermatalaw06.RngSmall': WHATEVER THE INPUT: true; the input reads as it did. -/
def rngSmallSpec : ChangeSpec := { name := "rngSmall", fn := fun _ => fun
  | [] => { results := [.lit (.bool true)], args := [] }
  | _ => none }
def rngSmallRow : OpenClaim := { program := "ytpioobaapigjcaa", sum := "7b0ea818e213fb8c86fcb91a77b5a24e1ad3a1e6de6178497979a152bd6c882b", func := "fermata/fermatalaw06.RngSmall", spec := "rngSmall", unfollowed := true, recurses := true, apart := false }
def RngSmallSaid : Prop := rngSmallRow.holds Try.pinned (OpenSpec.ofChange rngSmallSpec)

/-- ITS FALSE NEIGHBOUR: 'it returns false'. Refute it at one input. -/
def rngSmallWrong : ChangeSpec := { name := "rngSmall", fn := fun _ => fun
  | [] => { results := [.lit (.bool false)], args := [] }
  | _ => none }
def RngSmallWrongFalsely : Prop := rngSmallRow.holds Try.pinned (OpenSpec.ofChange rngSmallWrong)

/-- 'fermatalaw06.RngAlone': WHATEVER THE INPUT: true; the input reads as it did. -/
def rngAloneSpec : ChangeSpec := { name := "rngAlone", fn := fun _ => fun
  | [d1, d2, d3, d4] => { results := [.lit (.bool true)], args := [d1, d2, d3, d4] }
  | _ => none }
def rngAloneRow : OpenClaim := { program := "ytpioobaapigjcaa", sum := "7b0ea818e213fb8c86fcb91a77b5a24e1ad3a1e6de6178497979a152bd6c882b", func := "fermata/fermatalaw06.RngAlone", spec := "rngAlone", unfollowed := true, recurses := true, apart := false }
def RngAloneSaid : Prop := rngAloneRow.holds Try.pinned (OpenSpec.ofChange rngAloneSpec)

/-- ITS FALSE NEIGHBOUR: 'it returns false'. Refute it at one input. -/
def rngAloneWrong : ChangeSpec := { name := "rngAlone", fn := fun _ => fun
  | [d1, d2, d3, d4] => { results := [.lit (.bool false)], args := [d1, d2, d3, d4] }
  | _ => none }
def RngAloneWrongFalsely : Prop := rngAloneRow.holds Try.pinned (OpenSpec.ofChange rngAloneWrong)

/-- 'fermatalaw06.RngWrong': WHATEVER THE INPUT: true; the input reads as it did. -/
def rngWrongSpec : ChangeSpec := { name := "rngWrong", fn := fun _ => fun
  | [d1, d2, d3] => { results := [.lit (.bool true)], args := [d1, d2, d3] }
  | _ => none }
def rngWrongRow : OpenClaim := { program := "ytpioobaapigjcaa", sum := "7b0ea818e213fb8c86fcb91a77b5a24e1ad3a1e6de6178497979a152bd6c882b", func := "fermata/fermatalaw06.RngWrong", spec := "rngWrong", unfollowed := true, recurses := true, apart := false }
def RngWrongSaid : Prop := rngWrongRow.holds Try.pinned (OpenSpec.ofChange rngWrongSpec)

/-- ITS FALSE NEIGHBOUR: 'it returns false'. Refute it at one input. -/
def rngWrongWrong : ChangeSpec := { name := "rngWrong", fn := fun _ => fun
  | [d1, d2, d3] => { results := [.lit (.bool false)], args := [d1, d2, d3] }
  | _ => none }
def RngWrongWrongFalsely : Prop := rngWrongRow.holds Try.pinned (OpenSpec.ofChange rngWrongWrong)

/- THE SECOND FORM. 'bulk': how many values and letters a reading holds, each counted each time it is reached (what is shared counts as often as it is met; a slice's spare places count too). A statement '..UptoSaid' is the law's where the arguments, and the package variables that the reading takes, are together of bulk at most 1048576: NARROWER than '..Said'. Prove '..Said' where nothing that the law and all that it calls make is longer than what came in: it says more and counts as full. Else prove '..UptoSaid'. A law counts once. -/
mutual
def uptoBulk {H : Type} : DataW H → Nat
  | .lit (.string bytes) => bytes.length + 1
  | .lit _ => 1
  | .nil => 1
  | .ptr d => uptoBulk d + 1
  | .slice elems spare => uptoBulkAll elems + uptoBulkAll spare + 1
  | .agg parts => uptoBulkAll parts + 1
  | .iface _ d => uptoBulk d + 1
  | .map entries => uptoBulkEntries entries + 1
  | .held _ => 1
def uptoBulkAll {H : Type} : List (DataW H) → Nat
  | [] => 0
  | d :: r => uptoBulk d + uptoBulkAll r
def uptoBulkEntries {H : Type} : List (Lit × DataW H) → Nat
  | [] => 0
  | x :: r => uptoBulkEntry x + uptoBulkEntries r
def uptoBulkEntry {H : Type} : Lit × DataW H → Nat
  | (.string bytes, d) => bytes.length + uptoBulk d + 1
  | (_, d) => uptoBulk d + 1
 end
def uptoSmall : (H : Type) → List (DataW H) → Bool := fun _ ds => decide (uptoBulkAll ds ≤ 1048576)
def OpenSpec.upto (s : _root_.Go.ChangeSpec) : _root_.Go.OpenSpec := { _root_.Go.OpenSpec.ofChange s with cond := some uptoSmall }

/-- 'fermatalaw06.RngOnce', WHERE WHAT IT READS IS OF BULK AT MOST 1048576: true; the input reads as it did. -/
def rngOnceUptoRow : OpenClaim := { program := "ytpioobaapigjcaa", sum := "7b0ea818e213fb8c86fcb91a77b5a24e1ad3a1e6de6178497979a152bd6c882b", func := "fermata/fermatalaw06.RngOnce", spec := "rngOnce", unfollowed := true, recurses := true, apart := false, narrowed := true }
def RngOnceUptoSaid : Prop := rngOnceUptoRow.holds Try.pinned (OpenSpec.upto rngOnceSpec)

/-- 'fermatalaw06.RngSpread', WHERE WHAT IT READS IS OF BULK AT MOST 1048576: true; the input reads as it did. -/
def rngSpreadUptoRow : OpenClaim := { program := "ytpioobaapigjcaa", sum := "7b0ea818e213fb8c86fcb91a77b5a24e1ad3a1e6de6178497979a152bd6c882b", func := "fermata/fermatalaw06.RngSpread", spec := "rngSpread", unfollowed := true, recurses := true, apart := false, narrowed := true }
def RngSpreadUptoSaid : Prop := rngSpreadUptoRow.holds Try.pinned (OpenSpec.upto rngSpreadSpec)

/-- 'fermatalaw06.RngOrder', WHERE WHAT IT READS IS OF BULK AT MOST 1048576: true; the input reads as it did. -/
def rngOrderUptoRow : OpenClaim := { program := "ytpioobaapigjcaa", sum := "7b0ea818e213fb8c86fcb91a77b5a24e1ad3a1e6de6178497979a152bd6c882b", func := "fermata/fermatalaw06.RngOrder", spec := "rngOrder", unfollowed := true, recurses := true, apart := false, narrowed := true }
def RngOrderUptoSaid : Prop := rngOrderUptoRow.holds Try.pinned (OpenSpec.upto rngOrderSpec)

/-- 'fermatalaw06.RngApart', WHERE WHAT IT READS IS OF BULK AT MOST 1048576: true; the input reads as it did. -/
def rngApartUptoRow : OpenClaim := { program := "ytpioobaapigjcaa", sum := "7b0ea818e213fb8c86fcb91a77b5a24e1ad3a1e6de6178497979a152bd6c882b", func := "fermata/fermatalaw06.RngApart", spec := "rngApart", unfollowed := true, recurses := true, apart := false, narrowed := true }
def RngApartUptoSaid : Prop := rngApartUptoRow.holds Try.pinned (OpenSpec.upto rngApartSpec)

/-- 'fermatalaw06.RngTells', WHERE WHAT IT READS IS OF BULK AT MOST 1048576: true; the input reads as it did. -/
def rngTellsUptoRow : OpenClaim := { program := "ytpioobaapigjcaa", sum := "7b0ea818e213fb8c86fcb91a77b5a24e1ad3a1e6de6178497979a152bd6c882b", func := "fermata/fermatalaw06.RngTells", spec := "rngTells", unfollowed := true, recurses := true, apart := false, narrowed := true }
def RngTellsUptoSaid : Prop := rngTellsUptoRow.holds Try.pinned (OpenSpec.upto rngTellsSpec)

/-- 'fermatalaw06.RngStreams', WHERE WHAT IT READS IS OF BULK AT MOST 1048576: true; the input reads as it did. -/
def rngStreamsUptoRow : OpenClaim := { program := "ytpioobaapigjcaa", sum := "7b0ea818e213fb8c86fcb91a77b5a24e1ad3a1e6de6178497979a152bd6c882b", func := "fermata/fermatalaw06.RngStreams", spec := "rngStreams", unfollowed := true, recurses := true, apart := false, narrowed := true }
def RngStreamsUptoSaid : Prop := rngStreamsUptoRow.holds Try.pinned (OpenSpec.upto rngStreamsSpec)

/-- 'fermatalaw06.RngSmall', WHERE WHAT IT READS IS OF BULK AT MOST 1048576: true; the input reads as it did. -/
def rngSmallUptoRow : OpenClaim := { program := "ytpioobaapigjcaa", sum := "7b0ea818e213fb8c86fcb91a77b5a24e1ad3a1e6de6178497979a152bd6c882b", func := "fermata/fermatalaw06.RngSmall", spec := "rngSmall", unfollowed := true, recurses := true, apart := false, narrowed := true }
def RngSmallUptoSaid : Prop := rngSmallUptoRow.holds Try.pinned (OpenSpec.upto rngSmallSpec)

/-- 'fermatalaw06.RngAlone', WHERE WHAT IT READS IS OF BULK AT MOST 1048576: true; the input reads as it did. -/
def rngAloneUptoRow : OpenClaim := { program := "ytpioobaapigjcaa", sum := "7b0ea818e213fb8c86fcb91a77b5a24e1ad3a1e6de6178497979a152bd6c882b", func := "fermata/fermatalaw06.RngAlone", spec := "rngAlone", unfollowed := true, recurses := true, apart := false, narrowed := true }
def RngAloneUptoSaid : Prop := rngAloneUptoRow.holds Try.pinned (OpenSpec.upto rngAloneSpec)

/-- 'fermatalaw06.RngWrong', WHERE WHAT IT READS IS OF BULK AT MOST 1048576: true; the input reads as it did. -/
def rngWrongUptoRow : OpenClaim := { program := "ytpioobaapigjcaa", sum := "7b0ea818e213fb8c86fcb91a77b5a24e1ad3a1e6de6178497979a152bd6c882b", func := "fermata/fermatalaw06.RngWrong", spec := "rngWrong", unfollowed := true, recurses := true, apart := false, narrowed := true }
def RngWrongUptoSaid : Prop := rngWrongUptoRow.holds Try.pinned (OpenSpec.upto rngWrongSpec)

end Rows
end Go.Proofs.Ytpioobaapigjcaa
