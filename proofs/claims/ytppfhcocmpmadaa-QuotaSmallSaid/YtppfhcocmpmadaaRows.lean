/-
  No cell of these rows narrows 'for every input' (looked for: loops, veiled, ifaces, maps, wideKeys, modest, calm, conditions, laid).
  DERIVED. THE GIVEN ROWS OF THIS SEAT. 8 by the template 'for every input the law returns true; each argument reads behind the call as it read before'; 0 by the template 'total and deterministic' (their statements: YtppfhcocmpmadaaTotals.lean).
  GIVEN WITH THE SEED: the statements are not yours to turn. If you find one false, say at which input.
  Laid BY PROGRAM, IN A SANDBOX (cutbox-rows.mjs): the forced cells as the released guide's own fill.sh prints them over the translation c4fcc98bbc91e56f… (all of the seat's roots in one cut). By AI agents, Wed Nov 11 2026. No macro, syntax, notation, axiom, sorry.
-/
import Derived.Test.YtppfhcocmpmadaaChecked
import GoSem.Claim
import GoSem.ClaimJoined
import GoSem.ClaimMapViews
import Derived.JoinedTies
import Derived.KernelRfl
namespace Go.Proofs.Ytppfhcocmpmadaa
/- THE CELL 'sum', in the pinned program and in every row, IS THE sha256 OF THE DUMP (.gsa) THAT YtppfhcocmpmadaaProg.lean LOADS. Nothing in Lean hashes anything: it is a label: what it is worth is what the hold of that sum in a sandbox is worth. -/
noncomputable def Try.pinned : Pinned := { name := "ytppfhcocmpmadaa", sum := "c4fcc98bbc91e56f49bb803736faa73f5e570ae6616a4befb096c5a614799d41", checked := Try.checked }
namespace Rows
def none {H : Type} : Left H := { results := [], args := [] }

/-- 'fermatalaw25.QuotaFails': WHATEVER THE INPUT: true; the input reads as it did. -/
def quotaFailsSpec : ChangeSpec := { name := "quotaFails", fn := fun _ => fun
  | [d1, d2, d3] => { results := [.lit (.bool true)], args := [d1, d2, d3] }
  | _ => none }
def quotaFailsRow : OpenClaim := { program := "ytppfhcocmpmadaa", sum := "c4fcc98bbc91e56f49bb803736faa73f5e570ae6616a4befb096c5a614799d41", func := "fermata/fermatalaw25.QuotaFails", spec := "quotaFails", unfollowed := true, recurses := true, apart := false }
def QuotaFailsSaid : Prop := quotaFailsRow.holds Try.pinned (OpenSpec.ofChange quotaFailsSpec)

/-- ITS FALSE NEIGHBOUR: 'it returns false'. Refute it at one input. -/
def quotaFailsWrong : ChangeSpec := { name := "quotaFails", fn := fun _ => fun
  | [d1, d2, d3] => { results := [.lit (.bool false)], args := [d1, d2, d3] }
  | _ => none }
def QuotaFailsWrongFalsely : Prop := quotaFailsRow.holds Try.pinned (OpenSpec.ofChange quotaFailsWrong)

/-- 'fermatalaw25.QuotaPeaks': WHATEVER THE INPUT: true; the input reads as it did. -/
def quotaPeaksSpec : ChangeSpec := { name := "quotaPeaks", fn := fun _ => fun
  | [d1, d2, d3, d4] => { results := [.lit (.bool true)], args := [d1, d2, d3, d4] }
  | _ => none }
def quotaPeaksRow : OpenClaim := { program := "ytppfhcocmpmadaa", sum := "c4fcc98bbc91e56f49bb803736faa73f5e570ae6616a4befb096c5a614799d41", func := "fermata/fermatalaw25.QuotaPeaks", spec := "quotaPeaks", unfollowed := true, recurses := true, apart := false }
def QuotaPeaksSaid : Prop := quotaPeaksRow.holds Try.pinned (OpenSpec.ofChange quotaPeaksSpec)

/-- ITS FALSE NEIGHBOUR: 'it returns false'. Refute it at one input. -/
def quotaPeaksWrong : ChangeSpec := { name := "quotaPeaks", fn := fun _ => fun
  | [d1, d2, d3, d4] => { results := [.lit (.bool false)], args := [d1, d2, d3, d4] }
  | _ => none }
def QuotaPeaksWrongFalsely : Prop := quotaPeaksRow.holds Try.pinned (OpenSpec.ofChange quotaPeaksWrong)

/-- 'fermatalaw25.QuotaRooms': WHATEVER THE INPUT: true; the input reads as it did. -/
def quotaRoomsSpec : ChangeSpec := { name := "quotaRooms", fn := fun _ => fun
  | [d1, d2, d3] => { results := [.lit (.bool true)], args := [d1, d2, d3] }
  | _ => none }
def quotaRoomsRow : OpenClaim := { program := "ytppfhcocmpmadaa", sum := "c4fcc98bbc91e56f49bb803736faa73f5e570ae6616a4befb096c5a614799d41", func := "fermata/fermatalaw25.QuotaRooms", spec := "quotaRooms", unfollowed := true, recurses := true, apart := false }
def QuotaRoomsSaid : Prop := quotaRoomsRow.holds Try.pinned (OpenSpec.ofChange quotaRoomsSpec)

/-- ITS FALSE NEIGHBOUR: 'it returns false'. Refute it at one input. -/
def quotaRoomsWrong : ChangeSpec := { name := "quotaRooms", fn := fun _ => fun
  | [d1, d2, d3] => { results := [.lit (.bool false)], args := [d1, d2, d3] }
  | _ => none }
def QuotaRoomsWrongFalsely : Prop := quotaRoomsRow.holds Try.pinned (OpenSpec.ofChange quotaRoomsWrong)

/-- 'fermatalaw25.QuotaNever': WHATEVER THE INPUT: true; the input reads as it did. -/
def quotaNeverSpec : ChangeSpec := { name := "quotaNever", fn := fun _ => fun
  | [d1, d2, d3] => { results := [.lit (.bool true)], args := [d1, d2, d3] }
  | _ => none }
def quotaNeverRow : OpenClaim := { program := "ytppfhcocmpmadaa", sum := "c4fcc98bbc91e56f49bb803736faa73f5e570ae6616a4befb096c5a614799d41", func := "fermata/fermatalaw25.QuotaNever", spec := "quotaNever", unfollowed := true, recurses := true, apart := false }
def QuotaNeverSaid : Prop := quotaNeverRow.holds Try.pinned (OpenSpec.ofChange quotaNeverSpec)

/-- ITS FALSE NEIGHBOUR: 'it returns false'. Refute it at one input. -/
def quotaNeverWrong : ChangeSpec := { name := "quotaNever", fn := fun _ => fun
  | [d1, d2, d3] => { results := [.lit (.bool false)], args := [d1, d2, d3] }
  | _ => none }
def QuotaNeverWrongFalsely : Prop := quotaNeverRow.holds Try.pinned (OpenSpec.ofChange quotaNeverWrong)

/-- 'fermatalaw25.QuotaBack': WHATEVER THE INPUT: true; the input reads as it did. -/
def quotaBackSpec : ChangeSpec := { name := "quotaBack", fn := fun _ => fun
  | [d1, d2, d3] => { results := [.lit (.bool true)], args := [d1, d2, d3] }
  | _ => none }
def quotaBackRow : OpenClaim := { program := "ytppfhcocmpmadaa", sum := "c4fcc98bbc91e56f49bb803736faa73f5e570ae6616a4befb096c5a614799d41", func := "fermata/fermatalaw25.QuotaBack", spec := "quotaBack", unfollowed := true, recurses := true, apart := false }
def QuotaBackSaid : Prop := quotaBackRow.holds Try.pinned (OpenSpec.ofChange quotaBackSpec)

/-- ITS FALSE NEIGHBOUR: 'it returns false'. Refute it at one input. -/
def quotaBackWrong : ChangeSpec := { name := "quotaBack", fn := fun _ => fun
  | [d1, d2, d3] => { results := [.lit (.bool false)], args := [d1, d2, d3] }
  | _ => none }
def QuotaBackWrongFalsely : Prop := quotaBackRow.holds Try.pinned (OpenSpec.ofChange quotaBackWrong)

/-- 'fermatalaw25.QuotaWrong': WHATEVER THE INPUT: true; the input reads as it did. -/
def quotaWrongSpec : ChangeSpec := { name := "quotaWrong", fn := fun _ => fun
  | [d1, d2, d3, d4, d5] => { results := [.lit (.bool true)], args := [d1, d2, d3, d4, d5] }
  | _ => none }
def quotaWrongRow : OpenClaim := { program := "ytppfhcocmpmadaa", sum := "c4fcc98bbc91e56f49bb803736faa73f5e570ae6616a4befb096c5a614799d41", func := "fermata/fermatalaw25.QuotaWrong", spec := "quotaWrong", unfollowed := true, recurses := true, apart := false }
def QuotaWrongSaid : Prop := quotaWrongRow.holds Try.pinned (OpenSpec.ofChange quotaWrongSpec)

/-- ITS FALSE NEIGHBOUR: 'it returns false'. Refute it at one input. -/
def quotaWrongWrong : ChangeSpec := { name := "quotaWrong", fn := fun _ => fun
  | [d1, d2, d3, d4, d5] => { results := [.lit (.bool false)], args := [d1, d2, d3, d4, d5] }
  | _ => none }
def QuotaWrongWrongFalsely : Prop := quotaWrongRow.holds Try.pinned (OpenSpec.ofChange quotaWrongWrong)

/-- 'fermatalaw25.QuotaTells': WHATEVER THE INPUT: true; the input reads as it did. -/
def quotaTellsSpec : ChangeSpec := { name := "quotaTells", fn := fun _ => fun
  | [d1, d2, d3, d4] => { results := [.lit (.bool true)], args := [d1, d2, d3, d4] }
  | _ => none }
def quotaTellsRow : OpenClaim := { program := "ytppfhcocmpmadaa", sum := "c4fcc98bbc91e56f49bb803736faa73f5e570ae6616a4befb096c5a614799d41", func := "fermata/fermatalaw25.QuotaTells", spec := "quotaTells", unfollowed := true, recurses := true, apart := false }
def QuotaTellsSaid : Prop := quotaTellsRow.holds Try.pinned (OpenSpec.ofChange quotaTellsSpec)

/-- ITS FALSE NEIGHBOUR: 'it returns false'. Refute it at one input. -/
def quotaTellsWrong : ChangeSpec := { name := "quotaTells", fn := fun _ => fun
  | [d1, d2, d3, d4] => { results := [.lit (.bool false)], args := [d1, d2, d3, d4] }
  | _ => none }
def QuotaTellsWrongFalsely : Prop := quotaTellsRow.holds Try.pinned (OpenSpec.ofChange quotaTellsWrong)

/-- 'fermatalaw25.QuotaSmall': WHATEVER THE INPUT: true; the input reads as it did. -/
def quotaSmallSpec : ChangeSpec := { name := "quotaSmall", fn := fun _ => fun
  | [] => { results := [.lit (.bool true)], args := [] }
  | _ => none }
def quotaSmallRow : OpenClaim := { program := "ytppfhcocmpmadaa", sum := "c4fcc98bbc91e56f49bb803736faa73f5e570ae6616a4befb096c5a614799d41", func := "fermata/fermatalaw25.QuotaSmall", spec := "quotaSmall", unfollowed := true, recurses := true, apart := false }
def QuotaSmallSaid : Prop := quotaSmallRow.holds Try.pinned (OpenSpec.ofChange quotaSmallSpec)

/-- ITS FALSE NEIGHBOUR: 'it returns false'. Refute it at one input. -/
def quotaSmallWrong : ChangeSpec := { name := "quotaSmall", fn := fun _ => fun
  | [] => { results := [.lit (.bool false)], args := [] }
  | _ => none }
def QuotaSmallWrongFalsely : Prop := quotaSmallRow.holds Try.pinned (OpenSpec.ofChange quotaSmallWrong)

/- THE SECOND FORM. 'bulk': how many values and letters a reading holds, each counted each time it is reached (what is shared counts as often as it is met; a slice's spare places count too). A statement '..UptoSaid' is the law's where the arguments, and the package variables that the reading takes, are together of bulk at most 1048576: NARROWER than '..Said'. Prove '..Said' where nothing that the law and all that it calls make is longer than what came in: it says more and counts as full. Else prove '..UptoSaid'. A law counts once. -/
mutual
def uptoBulk {H : Type} : DataW H → Nat
  | .lit (.string bytes) => bytes.length + 1
  | .lit _ => 1
  | .nil => 1
  | .ptr d => uptoBulk d + 1
  | .slice elems spare => uptoBulkAll elems + uptoBulkAll spare + 1
  | .agg parts => uptoBulkAll parts + 1
  | .iface _ d => uptoBulk d + 1
  | .map entries => uptoBulkEntries entries + 1
  | .held _ => 1
def uptoBulkAll {H : Type} : List (DataW H) → Nat
  | [] => 0
  | d :: r => uptoBulk d + uptoBulkAll r
def uptoBulkEntries {H : Type} : List (Lit × DataW H) → Nat
  | [] => 0
  | x :: r => uptoBulkEntry x + uptoBulkEntries r
def uptoBulkEntry {H : Type} : Lit × DataW H → Nat
  | (.string bytes, d) => bytes.length + uptoBulk d + 1
  | (_, d) => uptoBulk d + 1
 end
def uptoSmall : (H : Type) → List (DataW H) → Bool := fun _ ds => decide (uptoBulkAll ds ≤ 1048576)
def OpenSpec.upto (s : _root_.Go.ChangeSpec) : _root_.Go.OpenSpec := { _root_.Go.OpenSpec.ofChange s with cond := some uptoSmall }

/-- 'fermatalaw25.QuotaFails', WHERE WHAT IT READS IS OF BULK AT MOST 1048576: true; the input reads as it did. -/
def quotaFailsUptoRow : OpenClaim := { program := "ytppfhcocmpmadaa", sum := "c4fcc98bbc91e56f49bb803736faa73f5e570ae6616a4befb096c5a614799d41", func := "fermata/fermatalaw25.QuotaFails", spec := "quotaFails", unfollowed := true, recurses := true, apart := false, narrowed := true }
def QuotaFailsUptoSaid : Prop := quotaFailsUptoRow.holds Try.pinned (OpenSpec.upto quotaFailsSpec)

/-- 'fermatalaw25.QuotaPeaks', WHERE WHAT IT READS IS OF BULK AT MOST 1048576: true; the input reads as it did. -/
def quotaPeaksUptoRow : OpenClaim := { program := "ytppfhcocmpmadaa", sum := "c4fcc98bbc91e56f49bb803736faa73f5e570ae6616a4befb096c5a614799d41", func := "fermata/fermatalaw25.QuotaPeaks", spec := "quotaPeaks", unfollowed := true, recurses := true, apart := false, narrowed := true }
def QuotaPeaksUptoSaid : Prop := quotaPeaksUptoRow.holds Try.pinned (OpenSpec.upto quotaPeaksSpec)

/-- 'fermatalaw25.QuotaRooms', WHERE WHAT IT READS IS OF BULK AT MOST 1048576: true; the input reads as it did. -/
def quotaRoomsUptoRow : OpenClaim := { program := "ytppfhcocmpmadaa", sum := "c4fcc98bbc91e56f49bb803736faa73f5e570ae6616a4befb096c5a614799d41", func := "fermata/fermatalaw25.QuotaRooms", spec := "quotaRooms", unfollowed := true, recurses := true, apart := false, narrowed := true }
def QuotaRoomsUptoSaid : Prop := quotaRoomsUptoRow.holds Try.pinned (OpenSpec.upto quotaRoomsSpec)

/-- 'fermatalaw25.QuotaNever', WHERE WHAT IT READS IS OF BULK AT MOST 1048576: true; the input reads as it did. -/
def quotaNeverUptoRow : OpenClaim := { program := "ytppfhcocmpmadaa", sum := "c4fcc98bbc91e56f49bb803736faa73f5e570ae6616a4befb096c5a614799d41", func := "fermata/fermatalaw25.QuotaNever", spec := "quotaNever", unfollowed := true, recurses := true, apart := false, narrowed := true }
def QuotaNeverUptoSaid : Prop := quotaNeverUptoRow.holds Try.pinned (OpenSpec.upto quotaNeverSpec)

/-- 'fermatalaw25.QuotaBack', WHERE WHAT IT READS IS OF BULK AT MOST 1048576: true; the input reads as it did. -/
def quotaBackUptoRow : OpenClaim := { program := "ytppfhcocmpmadaa", sum := "c4fcc98bbc91e56f49bb803736faa73f5e570ae6616a4befb096c5a614799d41", func := "fermata/fermatalaw25.QuotaBack", spec := "quotaBack", unfollowed := true, recurses := true, apart := false, narrowed := true }
def QuotaBackUptoSaid : Prop := quotaBackUptoRow.holds Try.pinned (OpenSpec.upto quotaBackSpec)

/-- 'fermatalaw25.QuotaWrong', WHERE WHAT IT READS IS OF BULK AT MOST 1048576: true; the input reads as it did. -/
def quotaWrongUptoRow : OpenClaim := { program := "ytppfhcocmpmadaa", sum := "c4fcc98bbc91e56f49bb803736faa73f5e570ae6616a4befb096c5a614799d41", func := "fermata/fermatalaw25.QuotaWrong", spec := "quotaWrong", unfollowed := true, recurses := true, apart := false, narrowed := true }
def QuotaWrongUptoSaid : Prop := quotaWrongUptoRow.holds Try.pinned (OpenSpec.upto quotaWrongSpec)

/-- 'fermatalaw25.QuotaTells', WHERE WHAT IT READS IS OF BULK AT MOST 1048576: true; the input reads as it did. -/
def quotaTellsUptoRow : OpenClaim := { program := "ytppfhcocmpmadaa", sum := "c4fcc98bbc91e56f49bb803736faa73f5e570ae6616a4befb096c5a614799d41", func := "fermata/fermatalaw25.QuotaTells", spec := "quotaTells", unfollowed := true, recurses := true, apart := false, narrowed := true }
def QuotaTellsUptoSaid : Prop := quotaTellsUptoRow.holds Try.pinned (OpenSpec.upto quotaTellsSpec)

/-- 'fermatalaw25.QuotaSmall', WHERE WHAT IT READS IS OF BULK AT MOST 1048576: true; the input reads as it did. -/
def quotaSmallUptoRow : OpenClaim := { program := "ytppfhcocmpmadaa", sum := "c4fcc98bbc91e56f49bb803736faa73f5e570ae6616a4befb096c5a614799d41", func := "fermata/fermatalaw25.QuotaSmall", spec := "quotaSmall", unfollowed := true, recurses := true, apart := false, narrowed := true }
def QuotaSmallUptoSaid : Prop := quotaSmallUptoRow.holds Try.pinned (OpenSpec.upto quotaSmallSpec)

end Rows
end Go.Proofs.Ytppfhcocmpmadaa
