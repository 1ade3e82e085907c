/-
  No cell of these rows narrows 'for every input' (looked for: loops, veiled, ifaces, maps, wideKeys, modest, calm, conditions, laid).
  DERIVED. THE GIVEN ROWS OF THIS SEAT. 9 by the template 'for every input the law returns true; each argument reads behind the call as it read before'; 0 by the template 'total and deterministic' (their statements: YtdgmbghbjpmiiaaTotals.lean).
  GIVEN WITH THE SEED: the statements are not yours to turn. If you find one false, say at which input.
  Laid BY PROGRAM, IN A SANDBOX (cutbox-rows.mjs): the forced cells as the released guide's own fill.sh prints them over the translation 35394a23eaa4ce0c… (all of the seat's roots in one cut). By AI agents, Wed Nov 11 2026. No macro, syntax, notation, axiom, sorry.
-/
import Derived.Test.YtdgmbghbjpmiiaaChecked
import GoSem.Claim
import GoSem.ClaimJoined
import GoSem.ClaimMapViews
import Derived.JoinedTies
import Derived.KernelRfl
namespace Go.Proofs.Ytdgmbghbjpmiiaa
/- THE CELL 'sum', in the pinned program and in every row, IS THE sha256 OF THE DUMP (.gsa) THAT YtdgmbghbjpmiiaaProg.lean LOADS. Nothing in Lean hashes anything: it is a label: what it is worth is what the hold of that sum in a sandbox is worth. -/
noncomputable def Try.pinned : Pinned := { name := "ytdgmbghbjpmiiaa", sum := "35394a23eaa4ce0c37a68b11438d65d865c0891aa64fbcab9291ef02e3f75a72", checked := Try.checked }
namespace Rows
def none {H : Type} : Left H := { results := [], args := [] }

/-- 'fermatalaw05.MixTells': WHATEVER THE INPUT: true; the input reads as it did. -/
def mixTellsSpec : ChangeSpec := { name := "mixTells", fn := fun _ => fun
  | [d1, d2] => { results := [.lit (.bool true)], args := [d1, d2] }
  | _ => none }
def mixTellsRow : OpenClaim := { program := "ytdgmbghbjpmiiaa", sum := "35394a23eaa4ce0c37a68b11438d65d865c0891aa64fbcab9291ef02e3f75a72", func := "fermata/fermatalaw05.MixTells", spec := "mixTells", inPlace := ["internal/bytealg.IndexByteString"], unfollowed := true, recurses := true, apart := false }
def MixTellsSaid : Prop := mixTellsRow.holds Try.pinned (OpenSpec.ofChange mixTellsSpec)

/-- ITS FALSE NEIGHBOUR: 'it returns false'. Refute it at one input. -/
def mixTellsWrong : ChangeSpec := { name := "mixTells", fn := fun _ => fun
  | [d1, d2] => { results := [.lit (.bool false)], args := [d1, d2] }
  | _ => none }
def MixTellsWrongFalsely : Prop := mixTellsRow.holds Try.pinned (OpenSpec.ofChange mixTellsWrong)

/-- 'fermatalaw05.MixJoins': WHATEVER THE INPUT: true; the input reads as it did. -/
def mixJoinsSpec : ChangeSpec := { name := "mixJoins", fn := fun _ => fun
  | [d1, d2] => { results := [.lit (.bool true)], args := [d1, d2] }
  | _ => none }
def mixJoinsRow : OpenClaim := { program := "ytdgmbghbjpmiiaa", sum := "35394a23eaa4ce0c37a68b11438d65d865c0891aa64fbcab9291ef02e3f75a72", func := "fermata/fermatalaw05.MixJoins", spec := "mixJoins", inPlace := ["internal/bytealg.IndexByteString"], unfollowed := true, recurses := true, apart := false }
def MixJoinsSaid : Prop := mixJoinsRow.holds Try.pinned (OpenSpec.ofChange mixJoinsSpec)

/-- ITS FALSE NEIGHBOUR: 'it returns false'. Refute it at one input. -/
def mixJoinsWrong : ChangeSpec := { name := "mixJoins", fn := fun _ => fun
  | [d1, d2] => { results := [.lit (.bool false)], args := [d1, d2] }
  | _ => none }
def MixJoinsWrongFalsely : Prop := mixJoinsRow.holds Try.pinned (OpenSpec.ofChange mixJoinsWrong)

/-- 'fermatalaw05.MixReads': WHATEVER THE INPUT: true; the input reads as it did. -/
def mixReadsSpec : ChangeSpec := { name := "mixReads", fn := fun _ => fun
  | [d] => { results := [.lit (.bool true)], args := [d] }
  | _ => none }
def mixReadsRow : OpenClaim := { program := "ytdgmbghbjpmiiaa", sum := "35394a23eaa4ce0c37a68b11438d65d865c0891aa64fbcab9291ef02e3f75a72", func := "fermata/fermatalaw05.MixReads", spec := "mixReads", inPlace := ["internal/bytealg.IndexByteString"], unfollowed := true, recurses := true, apart := false }
def MixReadsSaid : Prop := mixReadsRow.holds Try.pinned (OpenSpec.ofChange mixReadsSpec)

/-- ITS FALSE NEIGHBOUR: 'it returns false'. Refute it at one input. -/
def mixReadsWrong : ChangeSpec := { name := "mixReads", fn := fun _ => fun
  | [d] => { results := [.lit (.bool false)], args := [d] }
  | _ => none }
def MixReadsWrongFalsely : Prop := mixReadsRow.holds Try.pinned (OpenSpec.ofChange mixReadsWrong)

/-- 'fermatalaw05.MixSmall': WHATEVER THE INPUT: true; the input reads as it did. -/
def mixSmallSpec : ChangeSpec := { name := "mixSmall", fn := fun _ => fun
  | [] => { results := [.lit (.bool true)], args := [] }
  | _ => none }
def mixSmallRow : OpenClaim := { program := "ytdgmbghbjpmiiaa", sum := "35394a23eaa4ce0c37a68b11438d65d865c0891aa64fbcab9291ef02e3f75a72", func := "fermata/fermatalaw05.MixSmall", spec := "mixSmall", inPlace := ["internal/bytealg.IndexByteString"], unfollowed := true, recurses := true, apart := false }
def MixSmallSaid : Prop := mixSmallRow.holds Try.pinned (OpenSpec.ofChange mixSmallSpec)

/-- ITS FALSE NEIGHBOUR: 'it returns false'. Refute it at one input. -/
def mixSmallWrong : ChangeSpec := { name := "mixSmall", fn := fun _ => fun
  | [] => { results := [.lit (.bool false)], args := [] }
  | _ => none }
def MixSmallWrongFalsely : Prop := mixSmallRow.holds Try.pinned (OpenSpec.ofChange mixSmallWrong)

/-- 'fermatalaw05.MixBack': WHATEVER THE INPUT: true; the input reads as it did. -/
def mixBackSpec : ChangeSpec := { name := "mixBack", fn := fun _ => fun
  | [d1, d2] => { results := [.lit (.bool true)], args := [d1, d2] }
  | _ => none }
def mixBackRow : OpenClaim := { program := "ytdgmbghbjpmiiaa", sum := "35394a23eaa4ce0c37a68b11438d65d865c0891aa64fbcab9291ef02e3f75a72", func := "fermata/fermatalaw05.MixBack", spec := "mixBack", inPlace := ["internal/bytealg.IndexByteString"], unfollowed := true, recurses := true, apart := false }
def MixBackSaid : Prop := mixBackRow.holds Try.pinned (OpenSpec.ofChange mixBackSpec)

/-- ITS FALSE NEIGHBOUR: 'it returns false'. Refute it at one input. -/
def mixBackWrong : ChangeSpec := { name := "mixBack", fn := fun _ => fun
  | [d1, d2] => { results := [.lit (.bool false)], args := [d1, d2] }
  | _ => none }
def MixBackWrongFalsely : Prop := mixBackRow.holds Try.pinned (OpenSpec.ofChange mixBackWrong)

/-- 'fermatalaw05.MixFolds': WHATEVER THE INPUT: true; the input reads as it did. -/
def mixFoldsSpec : ChangeSpec := { name := "mixFolds", fn := fun _ => fun
  | [d1, d2, d3] => { results := [.lit (.bool true)], args := [d1, d2, d3] }
  | _ => none }
def mixFoldsRow : OpenClaim := { program := "ytdgmbghbjpmiiaa", sum := "35394a23eaa4ce0c37a68b11438d65d865c0891aa64fbcab9291ef02e3f75a72", func := "fermata/fermatalaw05.MixFolds", spec := "mixFolds", inPlace := ["internal/bytealg.IndexByteString"], unfollowed := true, recurses := true, apart := false }
def MixFoldsSaid : Prop := mixFoldsRow.holds Try.pinned (OpenSpec.ofChange mixFoldsSpec)

/-- ITS FALSE NEIGHBOUR: 'it returns false'. Refute it at one input. -/
def mixFoldsWrong : ChangeSpec := { name := "mixFolds", fn := fun _ => fun
  | [d1, d2, d3] => { results := [.lit (.bool false)], args := [d1, d2, d3] }
  | _ => none }
def MixFoldsWrongFalsely : Prop := mixFoldsRow.holds Try.pinned (OpenSpec.ofChange mixFoldsWrong)

/-- 'fermatalaw05.MixDiffers': WHATEVER THE INPUT: true; the input reads as it did. -/
def mixDiffersSpec : ChangeSpec := { name := "mixDiffers", fn := fun _ => fun
  | [d1, d2, d3] => { results := [.lit (.bool true)], args := [d1, d2, d3] }
  | _ => none }
def mixDiffersRow : OpenClaim := { program := "ytdgmbghbjpmiiaa", sum := "35394a23eaa4ce0c37a68b11438d65d865c0891aa64fbcab9291ef02e3f75a72", func := "fermata/fermatalaw05.MixDiffers", spec := "mixDiffers", inPlace := ["internal/bytealg.IndexByteString"], unfollowed := true, recurses := true, apart := false }
def MixDiffersSaid : Prop := mixDiffersRow.holds Try.pinned (OpenSpec.ofChange mixDiffersSpec)

/-- ITS FALSE NEIGHBOUR: 'it returns false'. Refute it at one input. -/
def mixDiffersWrong : ChangeSpec := { name := "mixDiffers", fn := fun _ => fun
  | [d1, d2, d3] => { results := [.lit (.bool false)], args := [d1, d2, d3] }
  | _ => none }
def MixDiffersWrongFalsely : Prop := mixDiffersRow.holds Try.pinned (OpenSpec.ofChange mixDiffersWrong)

/-- 'fermatalaw05.MixTexts': WHATEVER THE INPUT: true; the input reads as it did. -/
def mixTextsSpec : ChangeSpec := { name := "mixTexts", fn := fun _ => fun
  | [d1, d2, d3] => { results := [.lit (.bool true)], args := [d1, d2, d3] }
  | _ => none }
def mixTextsRow : OpenClaim := { program := "ytdgmbghbjpmiiaa", sum := "35394a23eaa4ce0c37a68b11438d65d865c0891aa64fbcab9291ef02e3f75a72", func := "fermata/fermatalaw05.MixTexts", spec := "mixTexts", inPlace := ["internal/bytealg.IndexByteString"], unfollowed := true, recurses := true, apart := false }
def MixTextsSaid : Prop := mixTextsRow.holds Try.pinned (OpenSpec.ofChange mixTextsSpec)

/-- ITS FALSE NEIGHBOUR: 'it returns false'. Refute it at one input. -/
def mixTextsWrong : ChangeSpec := { name := "mixTexts", fn := fun _ => fun
  | [d1, d2, d3] => { results := [.lit (.bool false)], args := [d1, d2, d3] }
  | _ => none }
def MixTextsWrongFalsely : Prop := mixTextsRow.holds Try.pinned (OpenSpec.ofChange mixTextsWrong)

/-- 'fermatalaw05.MixWrong': WHATEVER THE INPUT: true; the input reads as it did. -/
def mixWrongSpec : ChangeSpec := { name := "mixWrong", fn := fun _ => fun
  | [d1, d2] => { results := [.lit (.bool true)], args := [d1, d2] }
  | _ => none }
def mixWrongRow : OpenClaim := { program := "ytdgmbghbjpmiiaa", sum := "35394a23eaa4ce0c37a68b11438d65d865c0891aa64fbcab9291ef02e3f75a72", func := "fermata/fermatalaw05.MixWrong", spec := "mixWrong", inPlace := ["internal/bytealg.IndexByteString"], unfollowed := true, recurses := true, apart := false }
def MixWrongSaid : Prop := mixWrongRow.holds Try.pinned (OpenSpec.ofChange mixWrongSpec)

/-- ITS FALSE NEIGHBOUR: 'it returns false'. Refute it at one input. -/
def mixWrongWrong : ChangeSpec := { name := "mixWrong", fn := fun _ => fun
  | [d1, d2] => { results := [.lit (.bool false)], args := [d1, d2] }
  | _ => none }
def MixWrongWrongFalsely : Prop := mixWrongRow.holds Try.pinned (OpenSpec.ofChange mixWrongWrong)

/- THE SECOND FORM. 'bulk': how many values and letters a reading holds, each counted each time it is reached (what is shared counts as often as it is met; a slice's spare places count too). A statement '..UptoSaid' is the law's where the arguments, and the package variables that the reading takes, are together of bulk at most 1048576: NARROWER than '..Said'. Prove '..Said' where nothing that the law and all that it calls make is longer than what came in: it says more and counts as full. Else prove '..UptoSaid'. A law counts once. -/
mutual
def uptoBulk {H : Type} : DataW H → Nat
  | .lit (.string bytes) => bytes.length + 1
  | .lit _ => 1
  | .nil => 1
  | .ptr d => uptoBulk d + 1
  | .slice elems spare => uptoBulkAll elems + uptoBulkAll spare + 1
  | .agg parts => uptoBulkAll parts + 1
  | .iface _ d => uptoBulk d + 1
  | .map entries => uptoBulkEntries entries + 1
  | .held _ => 1
def uptoBulkAll {H : Type} : List (DataW H) → Nat
  | [] => 0
  | d :: r => uptoBulk d + uptoBulkAll r
def uptoBulkEntries {H : Type} : List (Lit × DataW H) → Nat
  | [] => 0
  | x :: r => uptoBulkEntry x + uptoBulkEntries r
def uptoBulkEntry {H : Type} : Lit × DataW H → Nat
  | (.string bytes, d) => bytes.length + uptoBulk d + 1
  | (_, d) => uptoBulk d + 1
 end
def uptoSmall : (H : Type) → List (DataW H) → Bool := fun _ ds => decide (uptoBulkAll ds ≤ 1048576)
def OpenSpec.upto (s : _root_.Go.ChangeSpec) : _root_.Go.OpenSpec := { _root_.Go.OpenSpec.ofChange s with cond := some uptoSmall }

/-- 'fermatalaw05.MixTells', WHERE WHAT IT READS IS OF BULK AT MOST 1048576: true; the input reads as it did. -/
def mixTellsUptoRow : OpenClaim := { program := "ytdgmbghbjpmiiaa", sum := "35394a23eaa4ce0c37a68b11438d65d865c0891aa64fbcab9291ef02e3f75a72", func := "fermata/fermatalaw05.MixTells", spec := "mixTells", inPlace := ["internal/bytealg.IndexByteString"], unfollowed := true, recurses := true, apart := false, narrowed := true }
def MixTellsUptoSaid : Prop := mixTellsUptoRow.holds Try.pinned (OpenSpec.upto mixTellsSpec)

/-- 'fermatalaw05.MixJoins', WHERE WHAT IT READS IS OF BULK AT MOST 1048576: true; the input reads as it did. -/
def mixJoinsUptoRow : OpenClaim := { program := "ytdgmbghbjpmiiaa", sum := "35394a23eaa4ce0c37a68b11438d65d865c0891aa64fbcab9291ef02e3f75a72", func := "fermata/fermatalaw05.MixJoins", spec := "mixJoins", inPlace := ["internal/bytealg.IndexByteString"], unfollowed := true, recurses := true, apart := false, narrowed := true }
def MixJoinsUptoSaid : Prop := mixJoinsUptoRow.holds Try.pinned (OpenSpec.upto mixJoinsSpec)

/-- 'fermatalaw05.MixReads', WHERE WHAT IT READS IS OF BULK AT MOST 1048576: true; the input reads as it did. -/
def mixReadsUptoRow : OpenClaim := { program := "ytdgmbghbjpmiiaa", sum := "35394a23eaa4ce0c37a68b11438d65d865c0891aa64fbcab9291ef02e3f75a72", func := "fermata/fermatalaw05.MixReads", spec := "mixReads", inPlace := ["internal/bytealg.IndexByteString"], unfollowed := true, recurses := true, apart := false, narrowed := true }
def MixReadsUptoSaid : Prop := mixReadsUptoRow.holds Try.pinned (OpenSpec.upto mixReadsSpec)

/-- 'fermatalaw05.MixSmall', WHERE WHAT IT READS IS OF BULK AT MOST 1048576: true; the input reads as it did. -/
def mixSmallUptoRow : OpenClaim := { program := "ytdgmbghbjpmiiaa", sum := "35394a23eaa4ce0c37a68b11438d65d865c0891aa64fbcab9291ef02e3f75a72", func := "fermata/fermatalaw05.MixSmall", spec := "mixSmall", inPlace := ["internal/bytealg.IndexByteString"], unfollowed := true, recurses := true, apart := false, narrowed := true }
def MixSmallUptoSaid : Prop := mixSmallUptoRow.holds Try.pinned (OpenSpec.upto mixSmallSpec)

/-- 'fermatalaw05.MixBack', WHERE WHAT IT READS IS OF BULK AT MOST 1048576: true; the input reads as it did. -/
def mixBackUptoRow : OpenClaim := { program := "ytdgmbghbjpmiiaa", sum := "35394a23eaa4ce0c37a68b11438d65d865c0891aa64fbcab9291ef02e3f75a72", func := "fermata/fermatalaw05.MixBack", spec := "mixBack", inPlace := ["internal/bytealg.IndexByteString"], unfollowed := true, recurses := true, apart := false, narrowed := true }
def MixBackUptoSaid : Prop := mixBackUptoRow.holds Try.pinned (OpenSpec.upto mixBackSpec)

/-- 'fermatalaw05.MixFolds', WHERE WHAT IT READS IS OF BULK AT MOST 1048576: true; the input reads as it did. -/
def mixFoldsUptoRow : OpenClaim := { program := "ytdgmbghbjpmiiaa", sum := "35394a23eaa4ce0c37a68b11438d65d865c0891aa64fbcab9291ef02e3f75a72", func := "fermata/fermatalaw05.MixFolds", spec := "mixFolds", inPlace := ["internal/bytealg.IndexByteString"], unfollowed := true, recurses := true, apart := false, narrowed := true }
def MixFoldsUptoSaid : Prop := mixFoldsUptoRow.holds Try.pinned (OpenSpec.upto mixFoldsSpec)

/-- 'fermatalaw05.MixDiffers', WHERE WHAT IT READS IS OF BULK AT MOST 1048576: true; the input reads as it did. -/
def mixDiffersUptoRow : OpenClaim := { program := "ytdgmbghbjpmiiaa", sum := "35394a23eaa4ce0c37a68b11438d65d865c0891aa64fbcab9291ef02e3f75a72", func := "fermata/fermatalaw05.MixDiffers", spec := "mixDiffers", inPlace := ["internal/bytealg.IndexByteString"], unfollowed := true, recurses := true, apart := false, narrowed := true }
def MixDiffersUptoSaid : Prop := mixDiffersUptoRow.holds Try.pinned (OpenSpec.upto mixDiffersSpec)

/-- 'fermatalaw05.MixTexts', WHERE WHAT IT READS IS OF BULK AT MOST 1048576: true; the input reads as it did. -/
def mixTextsUptoRow : OpenClaim := { program := "ytdgmbghbjpmiiaa", sum := "35394a23eaa4ce0c37a68b11438d65d865c0891aa64fbcab9291ef02e3f75a72", func := "fermata/fermatalaw05.MixTexts", spec := "mixTexts", inPlace := ["internal/bytealg.IndexByteString"], unfollowed := true, recurses := true, apart := false, narrowed := true }
def MixTextsUptoSaid : Prop := mixTextsUptoRow.holds Try.pinned (OpenSpec.upto mixTextsSpec)

/-- 'fermatalaw05.MixWrong', WHERE WHAT IT READS IS OF BULK AT MOST 1048576: true; the input reads as it did. -/
def mixWrongUptoRow : OpenClaim := { program := "ytdgmbghbjpmiiaa", sum := "35394a23eaa4ce0c37a68b11438d65d865c0891aa64fbcab9291ef02e3f75a72", func := "fermata/fermatalaw05.MixWrong", spec := "mixWrong", inPlace := ["internal/bytealg.IndexByteString"], unfollowed := true, recurses := true, apart := false, narrowed := true }
def MixWrongUptoSaid : Prop := mixWrongUptoRow.holds Try.pinned (OpenSpec.upto mixWrongSpec)

end Rows
end Go.Proofs.Ytdgmbghbjpmiiaa
