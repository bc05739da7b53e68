/-
  No cell of these rows narrows 'for every input' (looked for: loops, veiled, ifaces, maps, wideKeys, modest, calm, conditions, laid).
  DERIVED. THE GIVEN ROWS OF THIS SEAT. 10 by the template 'for every input the law returns true; each argument reads behind the call as it read before'; 0 by the template 'total and deterministic' (their statements: YthopejggaekehaaTotals.lean).
  GIVEN WITH THE SEED: the statements are not yours to turn. If you find one false, say at which input.
  Laid BY PROGRAM, IN A SANDBOX (cutbox-rows.mjs): the forced cells as the released guide's own fill.sh prints them over the translation 41f0c4c89dc8f54a… (all of the seat's roots in one cut). By AI agents, Wed Nov 11 2026. No macro, syntax, notation, axiom, sorry.
-/
import Derived.Test.YthopejggaekehaaChecked
import GoSem.Claim
import GoSem.ClaimJoined
import GoSem.ClaimMapViews
import Derived.JoinedTies
import Derived.KernelRfl
namespace Go.Proofs.Ythopejggaekehaa
/- THE CELL 'sum', in the pinned program and in every row, IS THE sha256 OF THE DUMP (.gsa) THAT YthopejggaekehaaProg.lean LOADS. Nothing in Lean hashes anything: it is a label: what it is worth is what the hold of that sum in a sandbox is worth. -/
noncomputable def Try.pinned : Pinned := { name := "ythopejggaekehaa", sum := "41f0c4c89dc8f54a71724db639b227ec153a029a32987b02ea27cbfff64d8547", checked := Try.checked }
namespace Rows
def none {H : Type} : Left H := { results := [], args := [] }

/-- 'laws.FnExactSpeakerValid': WHATEVER THE INPUT: true; the input reads as it did. -/
def fnExactSpeakerValidSpec : ChangeSpec := { name := "fnExactSpeakerValid", fn := fun _ => fun
  | [d] => { results := [.lit (.bool true)], args := [d] }
  | _ => none }
def fnExactSpeakerValidRow : OpenClaim := { program := "ythopejggaekehaa", sum := "41f0c4c89dc8f54a71724db639b227ec153a029a32987b02ea27cbfff64d8547", func := "loop.example/mediarelay/laws.FnExactSpeakerValid", spec := "fnExactSpeakerValid", apart := false }
def FnExactSpeakerValidSaid : Prop := fnExactSpeakerValidRow.holds Try.pinned (OpenSpec.ofChange fnExactSpeakerValidSpec)

/-- ITS FALSE NEIGHBOUR: 'it returns false'. Refute it at one input. -/
def fnExactSpeakerValidWrong : ChangeSpec := { name := "fnExactSpeakerValid", fn := fun _ => fun
  | [d] => { results := [.lit (.bool false)], args := [d] }
  | _ => none }
def FnExactSpeakerValidWrongFalsely : Prop := fnExactSpeakerValidRow.holds Try.pinned (OpenSpec.ofChange fnExactSpeakerValidWrong)

/-- 'laws.FnExactSerialAdd': WHATEVER THE INPUT: true; the input reads as it did. -/
def fnExactSerialAddSpec : ChangeSpec := { name := "fnExactSerialAdd", fn := fun _ => fun
  | [d1, d2] => { results := [.lit (.bool true)], args := [d1, d2] }
  | _ => none }
def fnExactSerialAddRow : OpenClaim := { program := "ythopejggaekehaa", sum := "41f0c4c89dc8f54a71724db639b227ec153a029a32987b02ea27cbfff64d8547", func := "loop.example/mediarelay/laws.FnExactSerialAdd", spec := "fnExactSerialAdd", apart := false }
def FnExactSerialAddSaid : Prop := fnExactSerialAddRow.holds Try.pinned (OpenSpec.ofChange fnExactSerialAddSpec)

/-- ITS FALSE NEIGHBOUR: 'it returns false'. Refute it at one input. -/
def fnExactSerialAddWrong : ChangeSpec := { name := "fnExactSerialAdd", fn := fun _ => fun
  | [d1, d2] => { results := [.lit (.bool false)], args := [d1, d2] }
  | _ => none }
def FnExactSerialAddWrongFalsely : Prop := fnExactSerialAddRow.holds Try.pinned (OpenSpec.ofChange fnExactSerialAddWrong)

/-- 'laws.FnExactSerialDiff': WHATEVER THE INPUT: true; the input reads as it did. -/
def fnExactSerialDiffSpec : ChangeSpec := { name := "fnExactSerialDiff", fn := fun _ => fun
  | [d1, d2] => { results := [.lit (.bool true)], args := [d1, d2] }
  | _ => none }
def fnExactSerialDiffRow : OpenClaim := { program := "ythopejggaekehaa", sum := "41f0c4c89dc8f54a71724db639b227ec153a029a32987b02ea27cbfff64d8547", func := "loop.example/mediarelay/laws.FnExactSerialDiff", spec := "fnExactSerialDiff", apart := false }
def FnExactSerialDiffSaid : Prop := fnExactSerialDiffRow.holds Try.pinned (OpenSpec.ofChange fnExactSerialDiffSpec)

/-- ITS FALSE NEIGHBOUR: 'it returns false'. Refute it at one input. -/
def fnExactSerialDiffWrong : ChangeSpec := { name := "fnExactSerialDiff", fn := fun _ => fun
  | [d1, d2] => { results := [.lit (.bool false)], args := [d1, d2] }
  | _ => none }
def FnExactSerialDiffWrongFalsely : Prop := fnExactSerialDiffRow.holds Try.pinned (OpenSpec.ofChange fnExactSerialDiffWrong)

/-- 'laws.FnExactSerialLess': WHATEVER THE INPUT: true; the input reads as it did. -/
def fnExactSerialLessSpec : ChangeSpec := { name := "fnExactSerialLess", fn := fun _ => fun
  | [d1, d2] => { results := [.lit (.bool true)], args := [d1, d2] }
  | _ => none }
def fnExactSerialLessRow : OpenClaim := { program := "ythopejggaekehaa", sum := "41f0c4c89dc8f54a71724db639b227ec153a029a32987b02ea27cbfff64d8547", func := "loop.example/mediarelay/laws.FnExactSerialLess", spec := "fnExactSerialLess", apart := false }
def FnExactSerialLessSaid : Prop := fnExactSerialLessRow.holds Try.pinned (OpenSpec.ofChange fnExactSerialLessSpec)

/-- ITS FALSE NEIGHBOUR: 'it returns false'. Refute it at one input. -/
def fnExactSerialLessWrong : ChangeSpec := { name := "fnExactSerialLess", fn := fun _ => fun
  | [d1, d2] => { results := [.lit (.bool false)], args := [d1, d2] }
  | _ => none }
def FnExactSerialLessWrongFalsely : Prop := fnExactSerialLessRow.holds Try.pinned (OpenSpec.ofChange fnExactSerialLessWrong)

/-- 'laws.FnExactWideOf': WHATEVER THE INPUT: true; the input reads as it did. -/
def fnExactWideOfSpec : ChangeSpec := { name := "fnExactWideOf", fn := fun _ => fun
  | [d1, d2] => { results := [.lit (.bool true)], args := [d1, d2] }
  | _ => none }
def fnExactWideOfRow : OpenClaim := { program := "ythopejggaekehaa", sum := "41f0c4c89dc8f54a71724db639b227ec153a029a32987b02ea27cbfff64d8547", func := "loop.example/mediarelay/laws.FnExactWideOf", spec := "fnExactWideOf", apart := false }
def FnExactWideOfSaid : Prop := fnExactWideOfRow.holds Try.pinned (OpenSpec.ofChange fnExactWideOfSpec)

/-- ITS FALSE NEIGHBOUR: 'it returns false'. Refute it at one input. -/
def fnExactWideOfWrong : ChangeSpec := { name := "fnExactWideOf", fn := fun _ => fun
  | [d1, d2] => { results := [.lit (.bool false)], args := [d1, d2] }
  | _ => none }
def FnExactWideOfWrongFalsely : Prop := fnExactWideOfRow.holds Try.pinned (OpenSpec.ofChange fnExactWideOfWrong)

/-- 'laws.FnExactStatsNew': WHATEVER THE INPUT: true; the input reads as it did. -/
def fnExactStatsNewSpec : ChangeSpec := { name := "fnExactStatsNew", fn := fun _ => fun
  | [d1, d2, d3] => { results := [.lit (.bool true)], args := [d1, d2, d3] }
  | _ => none }
def fnExactStatsNewRow : OpenClaim := { program := "ythopejggaekehaa", sum := "41f0c4c89dc8f54a71724db639b227ec153a029a32987b02ea27cbfff64d8547", func := "loop.example/mediarelay/laws.FnExactStatsNew", spec := "fnExactStatsNew", apart := false }
def FnExactStatsNewSaid : Prop := fnExactStatsNewRow.holds Try.pinned (OpenSpec.ofChange fnExactStatsNewSpec)

/-- ITS FALSE NEIGHBOUR: 'it returns false'. Refute it at one input. -/
def fnExactStatsNewWrong : ChangeSpec := { name := "fnExactStatsNew", fn := fun _ => fun
  | [d1, d2, d3] => { results := [.lit (.bool false)], args := [d1, d2, d3] }
  | _ => none }
def FnExactStatsNewWrongFalsely : Prop := fnExactStatsNewRow.holds Try.pinned (OpenSpec.ofChange fnExactStatsNewWrong)

/-- 'laws.FnExactClockOf': WHATEVER THE INPUT: true; the input reads as it did. -/
def fnExactClockOfSpec : ChangeSpec := { name := "fnExactClockOf", fn := fun _ => fun
  | [d1, d2, d3, d4] => { results := [.lit (.bool true)], args := [d1, d2, d3, d4] }
  | _ => none }
def fnExactClockOfRow : OpenClaim := { program := "ythopejggaekehaa", sum := "41f0c4c89dc8f54a71724db639b227ec153a029a32987b02ea27cbfff64d8547", func := "loop.example/mediarelay/laws.FnExactClockOf", spec := "fnExactClockOf", apart := false }
def FnExactClockOfSaid : Prop := fnExactClockOfRow.holds Try.pinned (OpenSpec.ofChange fnExactClockOfSpec)

/-- ITS FALSE NEIGHBOUR: 'it returns false'. Refute it at one input. -/
def fnExactClockOfWrong : ChangeSpec := { name := "fnExactClockOf", fn := fun _ => fun
  | [d1, d2, d3, d4] => { results := [.lit (.bool false)], args := [d1, d2, d3, d4] }
  | _ => none }
def FnExactClockOfWrongFalsely : Prop := fnExactClockOfRow.holds Try.pinned (OpenSpec.ofChange fnExactClockOfWrong)

/-- 'laws.FnExactClockMedia': WHATEVER THE INPUT: true; the input reads as it did. -/
def fnExactClockMediaSpec : ChangeSpec := { name := "fnExactClockMedia", fn := fun _ => fun
  | [d1, d2] => { results := [.lit (.bool true)], args := [d1, d2] }
  | _ => none }
def fnExactClockMediaRow : OpenClaim := { program := "ythopejggaekehaa", sum := "41f0c4c89dc8f54a71724db639b227ec153a029a32987b02ea27cbfff64d8547", func := "loop.example/mediarelay/laws.FnExactClockMedia", spec := "fnExactClockMedia", apart := false }
def FnExactClockMediaSaid : Prop := fnExactClockMediaRow.holds Try.pinned (OpenSpec.ofChange fnExactClockMediaSpec)

/-- ITS FALSE NEIGHBOUR: 'it returns false'. Refute it at one input. -/
def fnExactClockMediaWrong : ChangeSpec := { name := "fnExactClockMedia", fn := fun _ => fun
  | [d1, d2] => { results := [.lit (.bool false)], args := [d1, d2] }
  | _ => none }
def FnExactClockMediaWrongFalsely : Prop := fnExactClockMediaRow.holds Try.pinned (OpenSpec.ofChange fnExactClockMediaWrong)

/-- 'laws.FnExactClockWall': WHATEVER THE INPUT: true; the input reads as it did. -/
def fnExactClockWallSpec : ChangeSpec := { name := "fnExactClockWall", fn := fun _ => fun
  | [d1, d2] => { results := [.lit (.bool true)], args := [d1, d2] }
  | _ => none }
def fnExactClockWallRow : OpenClaim := { program := "ythopejggaekehaa", sum := "41f0c4c89dc8f54a71724db639b227ec153a029a32987b02ea27cbfff64d8547", func := "loop.example/mediarelay/laws.FnExactClockWall", spec := "fnExactClockWall", apart := false }
def FnExactClockWallSaid : Prop := fnExactClockWallRow.holds Try.pinned (OpenSpec.ofChange fnExactClockWallSpec)

/-- ITS FALSE NEIGHBOUR: 'it returns false'. Refute it at one input. -/
def fnExactClockWallWrong : ChangeSpec := { name := "fnExactClockWall", fn := fun _ => fun
  | [d1, d2] => { results := [.lit (.bool false)], args := [d1, d2] }
  | _ => none }
def FnExactClockWallWrongFalsely : Prop := fnExactClockWallRow.holds Try.pinned (OpenSpec.ofChange fnExactClockWallWrong)

/-- 'laws.FnExactClockGap': WHATEVER THE INPUT: true; the input reads as it did. -/
def fnExactClockGapSpec : ChangeSpec := { name := "fnExactClockGap", fn := fun _ => fun
  | [d1, d2, d3, d4] => { results := [.lit (.bool true)], args := [d1, d2, d3, d4] }
  | _ => none }
def fnExactClockGapRow : OpenClaim := { program := "ythopejggaekehaa", sum := "41f0c4c89dc8f54a71724db639b227ec153a029a32987b02ea27cbfff64d8547", func := "loop.example/mediarelay/laws.FnExactClockGap", spec := "fnExactClockGap", apart := false }
def FnExactClockGapSaid : Prop := fnExactClockGapRow.holds Try.pinned (OpenSpec.ofChange fnExactClockGapSpec)

/-- ITS FALSE NEIGHBOUR: 'it returns false'. Refute it at one input. -/
def fnExactClockGapWrong : ChangeSpec := { name := "fnExactClockGap", fn := fun _ => fun
  | [d1, d2, d3, d4] => { results := [.lit (.bool false)], args := [d1, d2, d3, d4] }
  | _ => none }
def FnExactClockGapWrongFalsely : Prop := fnExactClockGapRow.holds Try.pinned (OpenSpec.ofChange fnExactClockGapWrong)

/- THE SECOND FORM. 'bulk': how many values and letters a reading holds, each counted each time it is reached (what is shared counts as often as it is met; a slice's spare places count too). A statement '..UptoSaid' is the law's where the arguments, and the package variables that the reading takes, are together of bulk at most 1048576: NARROWER than '..Said'. Prove '..Said' where nothing that the law and all that it calls make is longer than what came in: it says more and counts as full. Else prove '..UptoSaid'. A law counts once. -/
mutual
def uptoBulk {H : Type} : DataW H → Nat
  | .lit (.string bytes) => bytes.length + 1
  | .lit _ => 1
  | .nil => 1
  | .ptr d => uptoBulk d + 1
  | .slice elems spare => uptoBulkAll elems + uptoBulkAll spare + 1
  | .agg parts => uptoBulkAll parts + 1
  | .iface _ d => uptoBulk d + 1
  | .map entries => uptoBulkEntries entries + 1
  | .held _ => 1
def uptoBulkAll {H : Type} : List (DataW H) → Nat
  | [] => 0
  | d :: r => uptoBulk d + uptoBulkAll r
def uptoBulkEntries {H : Type} : List (Lit × DataW H) → Nat
  | [] => 0
  | x :: r => uptoBulkEntry x + uptoBulkEntries r
def uptoBulkEntry {H : Type} : Lit × DataW H → Nat
  | (.string bytes, d) => bytes.length + uptoBulk d + 1
  | (_, d) => uptoBulk d + 1
 end
def uptoSmall : (H : Type) → List (DataW H) → Bool := fun _ ds => decide (uptoBulkAll ds ≤ 1048576)
def OpenSpec.upto (s : _root_.Go.ChangeSpec) : _root_.Go.OpenSpec := { _root_.Go.OpenSpec.ofChange s with cond := some uptoSmall }

/-- 'laws.FnExactSpeakerValid', WHERE WHAT IT READS IS OF BULK AT MOST 1048576: true; the input reads as it did. -/
def fnExactSpeakerValidUptoRow : OpenClaim := { program := "ythopejggaekehaa", sum := "41f0c4c89dc8f54a71724db639b227ec153a029a32987b02ea27cbfff64d8547", func := "loop.example/mediarelay/laws.FnExactSpeakerValid", spec := "fnExactSpeakerValid", apart := false, narrowed := true }
def FnExactSpeakerValidUptoSaid : Prop := fnExactSpeakerValidUptoRow.holds Try.pinned (OpenSpec.upto fnExactSpeakerValidSpec)

/-- 'laws.FnExactSerialAdd', WHERE WHAT IT READS IS OF BULK AT MOST 1048576: true; the input reads as it did. -/
def fnExactSerialAddUptoRow : OpenClaim := { program := "ythopejggaekehaa", sum := "41f0c4c89dc8f54a71724db639b227ec153a029a32987b02ea27cbfff64d8547", func := "loop.example/mediarelay/laws.FnExactSerialAdd", spec := "fnExactSerialAdd", apart := false, narrowed := true }
def FnExactSerialAddUptoSaid : Prop := fnExactSerialAddUptoRow.holds Try.pinned (OpenSpec.upto fnExactSerialAddSpec)

/-- 'laws.FnExactSerialDiff', WHERE WHAT IT READS IS OF BULK AT MOST 1048576: true; the input reads as it did. -/
def fnExactSerialDiffUptoRow : OpenClaim := { program := "ythopejggaekehaa", sum := "41f0c4c89dc8f54a71724db639b227ec153a029a32987b02ea27cbfff64d8547", func := "loop.example/mediarelay/laws.FnExactSerialDiff", spec := "fnExactSerialDiff", apart := false, narrowed := true }
def FnExactSerialDiffUptoSaid : Prop := fnExactSerialDiffUptoRow.holds Try.pinned (OpenSpec.upto fnExactSerialDiffSpec)

/-- 'laws.FnExactSerialLess', WHERE WHAT IT READS IS OF BULK AT MOST 1048576: true; the input reads as it did. -/
def fnExactSerialLessUptoRow : OpenClaim := { program := "ythopejggaekehaa", sum := "41f0c4c89dc8f54a71724db639b227ec153a029a32987b02ea27cbfff64d8547", func := "loop.example/mediarelay/laws.FnExactSerialLess", spec := "fnExactSerialLess", apart := false, narrowed := true }
def FnExactSerialLessUptoSaid : Prop := fnExactSerialLessUptoRow.holds Try.pinned (OpenSpec.upto fnExactSerialLessSpec)

/-- 'laws.FnExactWideOf', WHERE WHAT IT READS IS OF BULK AT MOST 1048576: true; the input reads as it did. -/
def fnExactWideOfUptoRow : OpenClaim := { program := "ythopejggaekehaa", sum := "41f0c4c89dc8f54a71724db639b227ec153a029a32987b02ea27cbfff64d8547", func := "loop.example/mediarelay/laws.FnExactWideOf", spec := "fnExactWideOf", apart := false, narrowed := true }
def FnExactWideOfUptoSaid : Prop := fnExactWideOfUptoRow.holds Try.pinned (OpenSpec.upto fnExactWideOfSpec)

/-- 'laws.FnExactStatsNew', WHERE WHAT IT READS IS OF BULK AT MOST 1048576: true; the input reads as it did. -/
def fnExactStatsNewUptoRow : OpenClaim := { program := "ythopejggaekehaa", sum := "41f0c4c89dc8f54a71724db639b227ec153a029a32987b02ea27cbfff64d8547", func := "loop.example/mediarelay/laws.FnExactStatsNew", spec := "fnExactStatsNew", apart := false, narrowed := true }
def FnExactStatsNewUptoSaid : Prop := fnExactStatsNewUptoRow.holds Try.pinned (OpenSpec.upto fnExactStatsNewSpec)

/-- 'laws.FnExactClockOf', WHERE WHAT IT READS IS OF BULK AT MOST 1048576: true; the input reads as it did. -/
def fnExactClockOfUptoRow : OpenClaim := { program := "ythopejggaekehaa", sum := "41f0c4c89dc8f54a71724db639b227ec153a029a32987b02ea27cbfff64d8547", func := "loop.example/mediarelay/laws.FnExactClockOf", spec := "fnExactClockOf", apart := false, narrowed := true }
def FnExactClockOfUptoSaid : Prop := fnExactClockOfUptoRow.holds Try.pinned (OpenSpec.upto fnExactClockOfSpec)

/-- 'laws.FnExactClockMedia', WHERE WHAT IT READS IS OF BULK AT MOST 1048576: true; the input reads as it did. -/
def fnExactClockMediaUptoRow : OpenClaim := { program := "ythopejggaekehaa", sum := "41f0c4c89dc8f54a71724db639b227ec153a029a32987b02ea27cbfff64d8547", func := "loop.example/mediarelay/laws.FnExactClockMedia", spec := "fnExactClockMedia", apart := false, narrowed := true }
def FnExactClockMediaUptoSaid : Prop := fnExactClockMediaUptoRow.holds Try.pinned (OpenSpec.upto fnExactClockMediaSpec)

/-- 'laws.FnExactClockWall', WHERE WHAT IT READS IS OF BULK AT MOST 1048576: true; the input reads as it did. -/
def fnExactClockWallUptoRow : OpenClaim := { program := "ythopejggaekehaa", sum := "41f0c4c89dc8f54a71724db639b227ec153a029a32987b02ea27cbfff64d8547", func := "loop.example/mediarelay/laws.FnExactClockWall", spec := "fnExactClockWall", apart := false, narrowed := true }
def FnExactClockWallUptoSaid : Prop := fnExactClockWallUptoRow.holds Try.pinned (OpenSpec.upto fnExactClockWallSpec)

/-- 'laws.FnExactClockGap', WHERE WHAT IT READS IS OF BULK AT MOST 1048576: true; the input reads as it did. -/
def fnExactClockGapUptoRow : OpenClaim := { program := "ythopejggaekehaa", sum := "41f0c4c89dc8f54a71724db639b227ec153a029a32987b02ea27cbfff64d8547", func := "loop.example/mediarelay/laws.FnExactClockGap", spec := "fnExactClockGap", apart := false, narrowed := true }
def FnExactClockGapUptoSaid : Prop := fnExactClockGapUptoRow.holds Try.pinned (OpenSpec.upto fnExactClockGapSpec)

end Rows
end Go.Proofs.Ythopejggaekehaa
