/-
  No cell of these rows narrows 'for every input' (looked for: loops, veiled, ifaces, maps, wideKeys, modest, calm, conditions, laid).
  DERIVED. THE GIVEN ROWS OF THIS SEAT. 13 by the template 'for every input the law returns true; each argument reads behind the call as it read before'; 0 by the template 'total and deterministic' (their statements: YtlbnipcdkfonpaaTotals.lean).
  GIVEN WITH THE SEED: the statements are not yours to turn. If you find one false, say at which input.
  Laid BY PROGRAM, IN A SANDBOX (cutbox-rows.mjs): the forced cells as the released guide's own fill.sh prints them over the translation fb73745e1e8641a6… (all of the seat's roots in one cut). By AI agents, Wed Nov 11 2026. No macro, syntax, notation, axiom, sorry.
-/
import Derived.Test.YtlbnipcdkfonpaaChecked
import GoSem.Claim
import GoSem.ClaimJoined
import GoSem.ClaimMapViews
import Derived.JoinedTies
import Derived.KernelRfl
namespace Go.Proofs.Ytlbnipcdkfonpaa
/- THE CELL 'sum', in the pinned program and in every row, IS THE sha256 OF THE DUMP (.gsa) THAT YtlbnipcdkfonpaaProg.lean LOADS. Nothing in Lean hashes anything: it is a label: what it is worth is what the hold of that sum in a sandbox is worth. -/
noncomputable def Try.pinned : Pinned := { name := "ytlbnipcdkfonpaa", sum := "fb73745e1e8641a6879aa1974e20fe0a54dbc7e71845595aa4016fb636af1e65", checked := Try.checked }
namespace Rows
def none {H : Type} : Left H := { results := [], args := [] }

/-- 'laws.FnAdd': WHATEVER THE INPUT: true; the input reads as it did. -/
def fnAddSpec : ChangeSpec := { name := "fnAdd", fn := fun _ => fun
  | [d] => { results := [.lit (.bool true)], args := [d] }
  | _ => none }
def fnAddRow : OpenClaim := { program := "ytlbnipcdkfonpaa", sum := "fb73745e1e8641a6879aa1974e20fe0a54dbc7e71845595aa4016fb636af1e65", func := "loop.example/mediarelay/laws.FnAdd", spec := "fnAdd", apart := false }
def FnAddSaid : Prop := fnAddRow.holds Try.pinned (OpenSpec.ofChange fnAddSpec)

/-- ITS FALSE NEIGHBOUR: 'it returns false'. Refute it at one input. -/
def fnAddWrong : ChangeSpec := { name := "fnAdd", fn := fun _ => fun
  | [d] => { results := [.lit (.bool false)], args := [d] }
  | _ => none }
def FnAddWrongFalsely : Prop := fnAddRow.holds Try.pinned (OpenSpec.ofChange fnAddWrong)

/-- 'laws.FnAddNone': WHATEVER THE INPUT: true; the input reads as it did. -/
def fnAddNoneSpec : ChangeSpec := { name := "fnAddNone", fn := fun _ => fun
  | [d] => { results := [.lit (.bool true)], args := [d] }
  | _ => none }
def fnAddNoneRow : OpenClaim := { program := "ytlbnipcdkfonpaa", sum := "fb73745e1e8641a6879aa1974e20fe0a54dbc7e71845595aa4016fb636af1e65", func := "loop.example/mediarelay/laws.FnAddNone", spec := "fnAddNone", apart := false }
def FnAddNoneSaid : Prop := fnAddNoneRow.holds Try.pinned (OpenSpec.ofChange fnAddNoneSpec)

/-- ITS FALSE NEIGHBOUR: 'it returns false'. Refute it at one input. -/
def fnAddNoneWrong : ChangeSpec := { name := "fnAddNone", fn := fun _ => fun
  | [d] => { results := [.lit (.bool false)], args := [d] }
  | _ => none }
def FnAddNoneWrongFalsely : Prop := fnAddNoneRow.holds Try.pinned (OpenSpec.ofChange fnAddNoneWrong)

/-- 'laws.FnAddWrap': WHATEVER THE INPUT: true; the input reads as it did. -/
def fnAddWrapSpec : ChangeSpec := { name := "fnAddWrap", fn := fun _ => fun
  | [d] => { results := [.lit (.bool true)], args := [d] }
  | _ => none }
def fnAddWrapRow : OpenClaim := { program := "ytlbnipcdkfonpaa", sum := "fb73745e1e8641a6879aa1974e20fe0a54dbc7e71845595aa4016fb636af1e65", func := "loop.example/mediarelay/laws.FnAddWrap", spec := "fnAddWrap", apart := false }
def FnAddWrapSaid : Prop := fnAddWrapRow.holds Try.pinned (OpenSpec.ofChange fnAddWrapSpec)

/-- ITS FALSE NEIGHBOUR: 'it returns false'. Refute it at one input. -/
def fnAddWrapWrong : ChangeSpec := { name := "fnAddWrap", fn := fun _ => fun
  | [d] => { results := [.lit (.bool false)], args := [d] }
  | _ => none }
def FnAddWrapWrongFalsely : Prop := fnAddWrapRow.holds Try.pinned (OpenSpec.ofChange fnAddWrapWrong)

/-- 'laws.FnDiffBack': WHATEVER THE INPUT: true; the input reads as it did. -/
def fnDiffBackSpec : ChangeSpec := { name := "fnDiffBack", fn := fun _ => fun
  | [d] => { results := [.lit (.bool true)], args := [d] }
  | _ => none }
def fnDiffBackRow : OpenClaim := { program := "ytlbnipcdkfonpaa", sum := "fb73745e1e8641a6879aa1974e20fe0a54dbc7e71845595aa4016fb636af1e65", func := "loop.example/mediarelay/laws.FnDiffBack", spec := "fnDiffBack", apart := false }
def FnDiffBackSaid : Prop := fnDiffBackRow.holds Try.pinned (OpenSpec.ofChange fnDiffBackSpec)

/-- ITS FALSE NEIGHBOUR: 'it returns false'. Refute it at one input. -/
def fnDiffBackWrong : ChangeSpec := { name := "fnDiffBack", fn := fun _ => fun
  | [d] => { results := [.lit (.bool false)], args := [d] }
  | _ => none }
def FnDiffBackWrongFalsely : Prop := fnDiffBackRow.holds Try.pinned (OpenSpec.ofChange fnDiffBackWrong)

/-- 'laws.FnSerialLess': WHATEVER THE INPUT: true; the input reads as it did. -/
def fnSerialLessSpec : ChangeSpec := { name := "fnSerialLess", fn := fun _ => fun
  | [d] => { results := [.lit (.bool true)], args := [d] }
  | _ => none }
def fnSerialLessRow : OpenClaim := { program := "ytlbnipcdkfonpaa", sum := "fb73745e1e8641a6879aa1974e20fe0a54dbc7e71845595aa4016fb636af1e65", func := "loop.example/mediarelay/laws.FnSerialLess", spec := "fnSerialLess", apart := false }
def FnSerialLessSaid : Prop := fnSerialLessRow.holds Try.pinned (OpenSpec.ofChange fnSerialLessSpec)

/-- ITS FALSE NEIGHBOUR: 'it returns false'. Refute it at one input. -/
def fnSerialLessWrong : ChangeSpec := { name := "fnSerialLess", fn := fun _ => fun
  | [d] => { results := [.lit (.bool false)], args := [d] }
  | _ => none }
def FnSerialLessWrongFalsely : Prop := fnSerialLessRow.holds Try.pinned (OpenSpec.ofChange fnSerialLessWrong)

/-- 'laws.FnSerialLessStep': WHATEVER THE INPUT: true; the input reads as it did. -/
def fnSerialLessStepSpec : ChangeSpec := { name := "fnSerialLessStep", fn := fun _ => fun
  | [d] => { results := [.lit (.bool true)], args := [d] }
  | _ => none }
def fnSerialLessStepRow : OpenClaim := { program := "ytlbnipcdkfonpaa", sum := "fb73745e1e8641a6879aa1974e20fe0a54dbc7e71845595aa4016fb636af1e65", func := "loop.example/mediarelay/laws.FnSerialLessStep", spec := "fnSerialLessStep", apart := false }
def FnSerialLessStepSaid : Prop := fnSerialLessStepRow.holds Try.pinned (OpenSpec.ofChange fnSerialLessStepSpec)

/-- ITS FALSE NEIGHBOUR: 'it returns false'. Refute it at one input. -/
def fnSerialLessStepWrong : ChangeSpec := { name := "fnSerialLessStep", fn := fun _ => fun
  | [d] => { results := [.lit (.bool false)], args := [d] }
  | _ => none }
def FnSerialLessStepWrongFalsely : Prop := fnSerialLessStepRow.holds Try.pinned (OpenSpec.ofChange fnSerialLessStepWrong)

/-- 'laws.FnDiff': WHATEVER THE INPUT: true; the input reads as it did. -/
def fnDiffSpec : ChangeSpec := { name := "fnDiff", fn := fun _ => fun
  | [d] => { results := [.lit (.bool true)], args := [d] }
  | _ => none }
def fnDiffRow : OpenClaim := { program := "ytlbnipcdkfonpaa", sum := "fb73745e1e8641a6879aa1974e20fe0a54dbc7e71845595aa4016fb636af1e65", func := "loop.example/mediarelay/laws.FnDiff", spec := "fnDiff", apart := false }
def FnDiffSaid : Prop := fnDiffRow.holds Try.pinned (OpenSpec.ofChange fnDiffSpec)

/-- ITS FALSE NEIGHBOUR: 'it returns false'. Refute it at one input. -/
def fnDiffWrong : ChangeSpec := { name := "fnDiff", fn := fun _ => fun
  | [d] => { results := [.lit (.bool false)], args := [d] }
  | _ => none }
def FnDiffWrongFalsely : Prop := fnDiffRow.holds Try.pinned (OpenSpec.ofChange fnDiffWrong)

/-- 'laws.FnWideSame': WHATEVER THE INPUT: true; the input reads as it did. -/
def fnWideSameSpec : ChangeSpec := { name := "fnWideSame", fn := fun _ => fun
  | [d] => { results := [.lit (.bool true)], args := [d] }
  | _ => none }
def fnWideSameRow : OpenClaim := { program := "ytlbnipcdkfonpaa", sum := "fb73745e1e8641a6879aa1974e20fe0a54dbc7e71845595aa4016fb636af1e65", func := "loop.example/mediarelay/laws.FnWideSame", spec := "fnWideSame", apart := false }
def FnWideSameSaid : Prop := fnWideSameRow.holds Try.pinned (OpenSpec.ofChange fnWideSameSpec)

/-- ITS FALSE NEIGHBOUR: 'it returns false'. Refute it at one input. -/
def fnWideSameWrong : ChangeSpec := { name := "fnWideSame", fn := fun _ => fun
  | [d] => { results := [.lit (.bool false)], args := [d] }
  | _ => none }
def FnWideSameWrongFalsely : Prop := fnWideSameRow.holds Try.pinned (OpenSpec.ofChange fnWideSameWrong)

/-- 'laws.FnStatsNew': WHATEVER THE INPUT: true; the input reads as it did. -/
def fnStatsNewSpec : ChangeSpec := { name := "fnStatsNew", fn := fun _ => fun
  | [d] => { results := [.lit (.bool true)], args := [d] }
  | _ => none }
def fnStatsNewRow : OpenClaim := { program := "ytlbnipcdkfonpaa", sum := "fb73745e1e8641a6879aa1974e20fe0a54dbc7e71845595aa4016fb636af1e65", func := "loop.example/mediarelay/laws.FnStatsNew", spec := "fnStatsNew", apart := false }
def FnStatsNewSaid : Prop := fnStatsNewRow.holds Try.pinned (OpenSpec.ofChange fnStatsNewSpec)

/-- ITS FALSE NEIGHBOUR: 'it returns false'. Refute it at one input. -/
def fnStatsNewWrong : ChangeSpec := { name := "fnStatsNew", fn := fun _ => fun
  | [d] => { results := [.lit (.bool false)], args := [d] }
  | _ => none }
def FnStatsNewWrongFalsely : Prop := fnStatsNewRow.holds Try.pinned (OpenSpec.ofChange fnStatsNewWrong)

/-- 'laws.FnClockOfNear': WHATEVER THE INPUT: true; the input reads as it did. -/
def fnClockOfNearSpec : ChangeSpec := { name := "fnClockOfNear", fn := fun _ => fun
  | [d] => { results := [.lit (.bool true)], args := [d] }
  | _ => none }
def fnClockOfNearRow : OpenClaim := { program := "ytlbnipcdkfonpaa", sum := "fb73745e1e8641a6879aa1974e20fe0a54dbc7e71845595aa4016fb636af1e65", func := "loop.example/mediarelay/laws.FnClockOfNear", spec := "fnClockOfNear", apart := false }
def FnClockOfNearSaid : Prop := fnClockOfNearRow.holds Try.pinned (OpenSpec.ofChange fnClockOfNearSpec)

/-- ITS FALSE NEIGHBOUR: 'it returns false'. Refute it at one input. -/
def fnClockOfNearWrong : ChangeSpec := { name := "fnClockOfNear", fn := fun _ => fun
  | [d] => { results := [.lit (.bool false)], args := [d] }
  | _ => none }
def FnClockOfNearWrongFalsely : Prop := fnClockOfNearRow.holds Try.pinned (OpenSpec.ofChange fnClockOfNearWrong)

/-- 'laws.FnClockMedia': WHATEVER THE INPUT: true; the input reads as it did. -/
def fnClockMediaSpec : ChangeSpec := { name := "fnClockMedia", fn := fun _ => fun
  | [d] => { results := [.lit (.bool true)], args := [d] }
  | _ => none }
def fnClockMediaRow : OpenClaim := { program := "ytlbnipcdkfonpaa", sum := "fb73745e1e8641a6879aa1974e20fe0a54dbc7e71845595aa4016fb636af1e65", func := "loop.example/mediarelay/laws.FnClockMedia", spec := "fnClockMedia", apart := false }
def FnClockMediaSaid : Prop := fnClockMediaRow.holds Try.pinned (OpenSpec.ofChange fnClockMediaSpec)

/-- ITS FALSE NEIGHBOUR: 'it returns false'. Refute it at one input. -/
def fnClockMediaWrong : ChangeSpec := { name := "fnClockMedia", fn := fun _ => fun
  | [d] => { results := [.lit (.bool false)], args := [d] }
  | _ => none }
def FnClockMediaWrongFalsely : Prop := fnClockMediaRow.holds Try.pinned (OpenSpec.ofChange fnClockMediaWrong)

/-- 'laws.FnClockMediaDown': WHATEVER THE INPUT: true; the input reads as it did. -/
def fnClockMediaDownSpec : ChangeSpec := { name := "fnClockMediaDown", fn := fun _ => fun
  | [d] => { results := [.lit (.bool true)], args := [d] }
  | _ => none }
def fnClockMediaDownRow : OpenClaim := { program := "ytlbnipcdkfonpaa", sum := "fb73745e1e8641a6879aa1974e20fe0a54dbc7e71845595aa4016fb636af1e65", func := "loop.example/mediarelay/laws.FnClockMediaDown", spec := "fnClockMediaDown", apart := false }
def FnClockMediaDownSaid : Prop := fnClockMediaDownRow.holds Try.pinned (OpenSpec.ofChange fnClockMediaDownSpec)

/-- ITS FALSE NEIGHBOUR: 'it returns false'. Refute it at one input. -/
def fnClockMediaDownWrong : ChangeSpec := { name := "fnClockMediaDown", fn := fun _ => fun
  | [d] => { results := [.lit (.bool false)], args := [d] }
  | _ => none }
def FnClockMediaDownWrongFalsely : Prop := fnClockMediaDownRow.holds Try.pinned (OpenSpec.ofChange fnClockMediaDownWrong)

/-- 'laws.FnClockWallMore': WHATEVER THE INPUT: true; the input reads as it did. -/
def fnClockWallMoreSpec : ChangeSpec := { name := "fnClockWallMore", fn := fun _ => fun
  | [d] => { results := [.lit (.bool true)], args := [d] }
  | _ => none }
def fnClockWallMoreRow : OpenClaim := { program := "ytlbnipcdkfonpaa", sum := "fb73745e1e8641a6879aa1974e20fe0a54dbc7e71845595aa4016fb636af1e65", func := "loop.example/mediarelay/laws.FnClockWallMore", spec := "fnClockWallMore", apart := false }
def FnClockWallMoreSaid : Prop := fnClockWallMoreRow.holds Try.pinned (OpenSpec.ofChange fnClockWallMoreSpec)

/-- ITS FALSE NEIGHBOUR: 'it returns false'. Refute it at one input. -/
def fnClockWallMoreWrong : ChangeSpec := { name := "fnClockWallMore", fn := fun _ => fun
  | [d] => { results := [.lit (.bool false)], args := [d] }
  | _ => none }
def FnClockWallMoreWrongFalsely : Prop := fnClockWallMoreRow.holds Try.pinned (OpenSpec.ofChange fnClockWallMoreWrong)

/- THE SECOND FORM. 'bulk': how many values and letters a reading holds, each counted each time it is reached (what is shared counts as often as it is met; a slice's spare places count too). A statement '..UptoSaid' is the law's where the arguments, and the package variables that the reading takes, are together of bulk at most 1048576: NARROWER than '..Said'. Prove '..Said' where nothing that the law and all that it calls make is longer than what came in: it says more and counts as full. Else prove '..UptoSaid'. A law counts once. -/
mutual
def uptoBulk {H : Type} : DataW H → Nat
  | .lit (.string bytes) => bytes.length + 1
  | .lit _ => 1
  | .nil => 1
  | .ptr d => uptoBulk d + 1
  | .slice elems spare => uptoBulkAll elems + uptoBulkAll spare + 1
  | .agg parts => uptoBulkAll parts + 1
  | .iface _ d => uptoBulk d + 1
  | .map entries => uptoBulkEntries entries + 1
  | .held _ => 1
def uptoBulkAll {H : Type} : List (DataW H) → Nat
  | [] => 0
  | d :: r => uptoBulk d + uptoBulkAll r
def uptoBulkEntries {H : Type} : List (Lit × DataW H) → Nat
  | [] => 0
  | x :: r => uptoBulkEntry x + uptoBulkEntries r
def uptoBulkEntry {H : Type} : Lit × DataW H → Nat
  | (.string bytes, d) => bytes.length + uptoBulk d + 1
  | (_, d) => uptoBulk d + 1
 end
def uptoSmall : (H : Type) → List (DataW H) → Bool := fun _ ds => decide (uptoBulkAll ds ≤ 1048576)
def OpenSpec.upto (s : _root_.Go.ChangeSpec) : _root_.Go.OpenSpec := { _root_.Go.OpenSpec.ofChange s with cond := some uptoSmall }

/-- 'laws.FnAdd', WHERE WHAT IT READS IS OF BULK AT MOST 1048576: true; the input reads as it did. -/
def fnAddUptoRow : OpenClaim := { program := "ytlbnipcdkfonpaa", sum := "fb73745e1e8641a6879aa1974e20fe0a54dbc7e71845595aa4016fb636af1e65", func := "loop.example/mediarelay/laws.FnAdd", spec := "fnAdd", apart := false, narrowed := true }
def FnAddUptoSaid : Prop := fnAddUptoRow.holds Try.pinned (OpenSpec.upto fnAddSpec)

/-- 'laws.FnAddNone', WHERE WHAT IT READS IS OF BULK AT MOST 1048576: true; the input reads as it did. -/
def fnAddNoneUptoRow : OpenClaim := { program := "ytlbnipcdkfonpaa", sum := "fb73745e1e8641a6879aa1974e20fe0a54dbc7e71845595aa4016fb636af1e65", func := "loop.example/mediarelay/laws.FnAddNone", spec := "fnAddNone", apart := false, narrowed := true }
def FnAddNoneUptoSaid : Prop := fnAddNoneUptoRow.holds Try.pinned (OpenSpec.upto fnAddNoneSpec)

/-- 'laws.FnAddWrap', WHERE WHAT IT READS IS OF BULK AT MOST 1048576: true; the input reads as it did. -/
def fnAddWrapUptoRow : OpenClaim := { program := "ytlbnipcdkfonpaa", sum := "fb73745e1e8641a6879aa1974e20fe0a54dbc7e71845595aa4016fb636af1e65", func := "loop.example/mediarelay/laws.FnAddWrap", spec := "fnAddWrap", apart := false, narrowed := true }
def FnAddWrapUptoSaid : Prop := fnAddWrapUptoRow.holds Try.pinned (OpenSpec.upto fnAddWrapSpec)

/-- 'laws.FnDiffBack', WHERE WHAT IT READS IS OF BULK AT MOST 1048576: true; the input reads as it did. -/
def fnDiffBackUptoRow : OpenClaim := { program := "ytlbnipcdkfonpaa", sum := "fb73745e1e8641a6879aa1974e20fe0a54dbc7e71845595aa4016fb636af1e65", func := "loop.example/mediarelay/laws.FnDiffBack", spec := "fnDiffBack", apart := false, narrowed := true }
def FnDiffBackUptoSaid : Prop := fnDiffBackUptoRow.holds Try.pinned (OpenSpec.upto fnDiffBackSpec)

/-- 'laws.FnSerialLess', WHERE WHAT IT READS IS OF BULK AT MOST 1048576: true; the input reads as it did. -/
def fnSerialLessUptoRow : OpenClaim := { program := "ytlbnipcdkfonpaa", sum := "fb73745e1e8641a6879aa1974e20fe0a54dbc7e71845595aa4016fb636af1e65", func := "loop.example/mediarelay/laws.FnSerialLess", spec := "fnSerialLess", apart := false, narrowed := true }
def FnSerialLessUptoSaid : Prop := fnSerialLessUptoRow.holds Try.pinned (OpenSpec.upto fnSerialLessSpec)

/-- 'laws.FnSerialLessStep', WHERE WHAT IT READS IS OF BULK AT MOST 1048576: true; the input reads as it did. -/
def fnSerialLessStepUptoRow : OpenClaim := { program := "ytlbnipcdkfonpaa", sum := "fb73745e1e8641a6879aa1974e20fe0a54dbc7e71845595aa4016fb636af1e65", func := "loop.example/mediarelay/laws.FnSerialLessStep", spec := "fnSerialLessStep", apart := false, narrowed := true }
def FnSerialLessStepUptoSaid : Prop := fnSerialLessStepUptoRow.holds Try.pinned (OpenSpec.upto fnSerialLessStepSpec)

/-- 'laws.FnDiff', WHERE WHAT IT READS IS OF BULK AT MOST 1048576: true; the input reads as it did. -/
def fnDiffUptoRow : OpenClaim := { program := "ytlbnipcdkfonpaa", sum := "fb73745e1e8641a6879aa1974e20fe0a54dbc7e71845595aa4016fb636af1e65", func := "loop.example/mediarelay/laws.FnDiff", spec := "fnDiff", apart := false, narrowed := true }
def FnDiffUptoSaid : Prop := fnDiffUptoRow.holds Try.pinned (OpenSpec.upto fnDiffSpec)

/-- 'laws.FnWideSame', WHERE WHAT IT READS IS OF BULK AT MOST 1048576: true; the input reads as it did. -/
def fnWideSameUptoRow : OpenClaim := { program := "ytlbnipcdkfonpaa", sum := "fb73745e1e8641a6879aa1974e20fe0a54dbc7e71845595aa4016fb636af1e65", func := "loop.example/mediarelay/laws.FnWideSame", spec := "fnWideSame", apart := false, narrowed := true }
def FnWideSameUptoSaid : Prop := fnWideSameUptoRow.holds Try.pinned (OpenSpec.upto fnWideSameSpec)

/-- 'laws.FnStatsNew', WHERE WHAT IT READS IS OF BULK AT MOST 1048576: true; the input reads as it did. -/
def fnStatsNewUptoRow : OpenClaim := { program := "ytlbnipcdkfonpaa", sum := "fb73745e1e8641a6879aa1974e20fe0a54dbc7e71845595aa4016fb636af1e65", func := "loop.example/mediarelay/laws.FnStatsNew", spec := "fnStatsNew", apart := false, narrowed := true }
def FnStatsNewUptoSaid : Prop := fnStatsNewUptoRow.holds Try.pinned (OpenSpec.upto fnStatsNewSpec)

/-- 'laws.FnClockOfNear', WHERE WHAT IT READS IS OF BULK AT MOST 1048576: true; the input reads as it did. -/
def fnClockOfNearUptoRow : OpenClaim := { program := "ytlbnipcdkfonpaa", sum := "fb73745e1e8641a6879aa1974e20fe0a54dbc7e71845595aa4016fb636af1e65", func := "loop.example/mediarelay/laws.FnClockOfNear", spec := "fnClockOfNear", apart := false, narrowed := true }
def FnClockOfNearUptoSaid : Prop := fnClockOfNearUptoRow.holds Try.pinned (OpenSpec.upto fnClockOfNearSpec)

/-- 'laws.FnClockMedia', WHERE WHAT IT READS IS OF BULK AT MOST 1048576: true; the input reads as it did. -/
def fnClockMediaUptoRow : OpenClaim := { program := "ytlbnipcdkfonpaa", sum := "fb73745e1e8641a6879aa1974e20fe0a54dbc7e71845595aa4016fb636af1e65", func := "loop.example/mediarelay/laws.FnClockMedia", spec := "fnClockMedia", apart := false, narrowed := true }
def FnClockMediaUptoSaid : Prop := fnClockMediaUptoRow.holds Try.pinned (OpenSpec.upto fnClockMediaSpec)

/-- 'laws.FnClockMediaDown', WHERE WHAT IT READS IS OF BULK AT MOST 1048576: true; the input reads as it did. -/
def fnClockMediaDownUptoRow : OpenClaim := { program := "ytlbnipcdkfonpaa", sum := "fb73745e1e8641a6879aa1974e20fe0a54dbc7e71845595aa4016fb636af1e65", func := "loop.example/mediarelay/laws.FnClockMediaDown", spec := "fnClockMediaDown", apart := false, narrowed := true }
def FnClockMediaDownUptoSaid : Prop := fnClockMediaDownUptoRow.holds Try.pinned (OpenSpec.upto fnClockMediaDownSpec)

/-- 'laws.FnClockWallMore', WHERE WHAT IT READS IS OF BULK AT MOST 1048576: true; the input reads as it did. -/
def fnClockWallMoreUptoRow : OpenClaim := { program := "ytlbnipcdkfonpaa", sum := "fb73745e1e8641a6879aa1974e20fe0a54dbc7e71845595aa4016fb636af1e65", func := "loop.example/mediarelay/laws.FnClockWallMore", spec := "fnClockWallMore", apart := false, narrowed := true }
def FnClockWallMoreUptoSaid : Prop := fnClockWallMoreUptoRow.holds Try.pinned (OpenSpec.upto fnClockWallMoreSpec)

end Rows
end Go.Proofs.Ytlbnipcdkfonpaa
