/-
  No cell of these rows narrows 'for every input' (looked for: loops, veiled, ifaces, maps, wideKeys, modest, calm, conditions, laid).
  DERIVED. THE GIVEN ROWS OF THIS SEAT. 13 by the template 'for every input the law returns true; each argument reads behind the call as it read before'; 0 by the template 'total and deterministic' (their statements: YtelcclhaepfmgaaTotals.lean).
  GIVEN WITH THE SEED: the statements are not yours to turn. If you find one false, say at which input.
  Laid BY PROGRAM, IN A SANDBOX (cutbox-rows.mjs): the forced cells as the released guide's own fill.sh prints them over the translation c8c25f543cd39d6d… (all of the seat's roots in one cut). By AI agents, Wed Nov 11 2026. No macro, syntax, notation, axiom, sorry.
-/
import Derived.Test.YtelcclhaepfmgaaChecked
import GoSem.Claim
import GoSem.ClaimJoined
import GoSem.ClaimMapViews
import Derived.JoinedTies
import Derived.KernelRfl
namespace Go.Proofs.Ytelcclhaepfmgaa
/- THE CELL 'sum', in the pinned program and in every row, IS THE sha256 OF THE DUMP (.gsa) THAT YtelcclhaepfmgaaProg.lean LOADS. Nothing in Lean hashes anything: it is a label: what it is worth is what the hold of that sum in a sandbox is worth. -/
noncomputable def Try.pinned : Pinned := { name := "ytelcclhaepfmgaa", sum := "c8c25f543cd39d6d6f3f4fc50d6a1f417a4c4946597280446ab28ebd8fe79b19", checked := Try.checked }
namespace Rows
def none {H : Type} : Left H := { results := [], args := [] }

/-- 'laws.FnRoomPart': WHATEVER THE INPUT: true; the input reads as it did. -/
def fnRoomPartSpec : ChangeSpec := { name := "fnRoomPart", fn := fun _ => fun
  | [d1, d2] => { results := [.lit (.bool true)], args := [d1, d2] }
  | _ => none }
def fnRoomPartRow : OpenClaim := { program := "ytelcclhaepfmgaa", sum := "c8c25f543cd39d6d6f3f4fc50d6a1f417a4c4946597280446ab28ebd8fe79b19", func := "loop.example/mediarelay/laws.FnRoomPart", spec := "fnRoomPart", apart := false }
def FnRoomPartSaid : Prop := fnRoomPartRow.holds Try.pinned (OpenSpec.ofChange fnRoomPartSpec)

/-- ITS FALSE NEIGHBOUR: 'it returns false'. Refute it at one input. -/
def fnRoomPartWrong : ChangeSpec := { name := "fnRoomPart", fn := fun _ => fun
  | [d1, d2] => { results := [.lit (.bool false)], args := [d1, d2] }
  | _ => none }
def FnRoomPartWrongFalsely : Prop := fnRoomPartRow.holds Try.pinned (OpenSpec.ofChange fnRoomPartWrong)

/-- 'laws.FnRoomJoin': WHATEVER THE INPUT: true; the input reads as it did. -/
def fnRoomJoinSpec : ChangeSpec := { name := "fnRoomJoin", fn := fun _ => fun
  | [d] => { results := [.lit (.bool true)], args := [d] }
  | _ => none }
def fnRoomJoinRow : OpenClaim := { program := "ytelcclhaepfmgaa", sum := "c8c25f543cd39d6d6f3f4fc50d6a1f417a4c4946597280446ab28ebd8fe79b19", func := "loop.example/mediarelay/laws.FnRoomJoin", spec := "fnRoomJoin", apart := false }
def FnRoomJoinSaid : Prop := fnRoomJoinRow.holds Try.pinned (OpenSpec.ofChange fnRoomJoinSpec)

/-- ITS FALSE NEIGHBOUR: 'it returns false'. Refute it at one input. -/
def fnRoomJoinWrong : ChangeSpec := { name := "fnRoomJoin", fn := fun _ => fun
  | [d] => { results := [.lit (.bool false)], args := [d] }
  | _ => none }
def FnRoomJoinWrongFalsely : Prop := fnRoomJoinRow.holds Try.pinned (OpenSpec.ofChange fnRoomJoinWrong)

/-- 'laws.FnRoomJoinLeave': WHATEVER THE INPUT: true; the input reads as it did. -/
def fnRoomJoinLeaveSpec : ChangeSpec := { name := "fnRoomJoinLeave", fn := fun _ => fun
  | [d] => { results := [.lit (.bool true)], args := [d] }
  | _ => none }
def fnRoomJoinLeaveRow : OpenClaim := { program := "ytelcclhaepfmgaa", sum := "c8c25f543cd39d6d6f3f4fc50d6a1f417a4c4946597280446ab28ebd8fe79b19", func := "loop.example/mediarelay/laws.FnRoomJoinLeave", spec := "fnRoomJoinLeave", apart := false }
def FnRoomJoinLeaveSaid : Prop := fnRoomJoinLeaveRow.holds Try.pinned (OpenSpec.ofChange fnRoomJoinLeaveSpec)

/-- ITS FALSE NEIGHBOUR: 'it returns false'. Refute it at one input. -/
def fnRoomJoinLeaveWrong : ChangeSpec := { name := "fnRoomJoinLeave", fn := fun _ => fun
  | [d] => { results := [.lit (.bool false)], args := [d] }
  | _ => none }
def FnRoomJoinLeaveWrongFalsely : Prop := fnRoomJoinLeaveRow.holds Try.pinned (OpenSpec.ofChange fnRoomJoinLeaveWrong)

/-- 'laws.FnRoutes': WHATEVER THE INPUT: true; the input reads as it did. -/
def fnRoutesSpec : ChangeSpec := { name := "fnRoutes", fn := fun _ => fun
  | [d] => { results := [.lit (.bool true)], args := [d] }
  | _ => none }
def fnRoutesRow : OpenClaim := { program := "ytelcclhaepfmgaa", sum := "c8c25f543cd39d6d6f3f4fc50d6a1f417a4c4946597280446ab28ebd8fe79b19", func := "loop.example/mediarelay/laws.FnRoutes", spec := "fnRoutes", apart := false }
def FnRoutesSaid : Prop := fnRoutesRow.holds Try.pinned (OpenSpec.ofChange fnRoutesSpec)

/-- ITS FALSE NEIGHBOUR: 'it returns false'. Refute it at one input. -/
def fnRoutesWrong : ChangeSpec := { name := "fnRoutes", fn := fun _ => fun
  | [d] => { results := [.lit (.bool false)], args := [d] }
  | _ => none }
def FnRoutesWrongFalsely : Prop := fnRoutesRow.holds Try.pinned (OpenSpec.ofChange fnRoutesWrong)

/-- 'laws.FnRoomHearBack': WHATEVER THE INPUT: true; the input reads as it did. -/
def fnRoomHearBackSpec : ChangeSpec := { name := "fnRoomHearBack", fn := fun _ => fun
  | [d] => { results := [.lit (.bool true)], args := [d] }
  | _ => none }
def fnRoomHearBackRow : OpenClaim := { program := "ytelcclhaepfmgaa", sum := "c8c25f543cd39d6d6f3f4fc50d6a1f417a4c4946597280446ab28ebd8fe79b19", func := "loop.example/mediarelay/laws.FnRoomHearBack", spec := "fnRoomHearBack", apart := false }
def FnRoomHearBackSaid : Prop := fnRoomHearBackRow.holds Try.pinned (OpenSpec.ofChange fnRoomHearBackSpec)

/-- ITS FALSE NEIGHBOUR: 'it returns false'. Refute it at one input. -/
def fnRoomHearBackWrong : ChangeSpec := { name := "fnRoomHearBack", fn := fun _ => fun
  | [d] => { results := [.lit (.bool false)], args := [d] }
  | _ => none }
def FnRoomHearBackWrongFalsely : Prop := fnRoomHearBackRow.holds Try.pinned (OpenSpec.ofChange fnRoomHearBackWrong)

/-- 'laws.FnRoomLeave': WHATEVER THE INPUT: true; the input reads as it did. -/
def fnRoomLeaveSpec : ChangeSpec := { name := "fnRoomLeave", fn := fun _ => fun
  | [d] => { results := [.lit (.bool true)], args := [d] }
  | _ => none }
def fnRoomLeaveRow : OpenClaim := { program := "ytelcclhaepfmgaa", sum := "c8c25f543cd39d6d6f3f4fc50d6a1f417a4c4946597280446ab28ebd8fe79b19", func := "loop.example/mediarelay/laws.FnRoomLeave", spec := "fnRoomLeave", apart := false }
def FnRoomLeaveSaid : Prop := fnRoomLeaveRow.holds Try.pinned (OpenSpec.ofChange fnRoomLeaveSpec)

/-- ITS FALSE NEIGHBOUR: 'it returns false'. Refute it at one input. -/
def fnRoomLeaveWrong : ChangeSpec := { name := "fnRoomLeave", fn := fun _ => fun
  | [d] => { results := [.lit (.bool false)], args := [d] }
  | _ => none }
def FnRoomLeaveWrongFalsely : Prop := fnRoomLeaveRow.holds Try.pinned (OpenSpec.ofChange fnRoomLeaveWrong)

/-- 'laws.FnRoomLeaveOthers': WHATEVER THE INPUT: true; the input reads as it did. -/
def fnRoomLeaveOthersSpec : ChangeSpec := { name := "fnRoomLeaveOthers", fn := fun _ => fun
  | [d] => { results := [.lit (.bool true)], args := [d] }
  | _ => none }
def fnRoomLeaveOthersRow : OpenClaim := { program := "ytelcclhaepfmgaa", sum := "c8c25f543cd39d6d6f3f4fc50d6a1f417a4c4946597280446ab28ebd8fe79b19", func := "loop.example/mediarelay/laws.FnRoomLeaveOthers", spec := "fnRoomLeaveOthers", apart := false }
def FnRoomLeaveOthersSaid : Prop := fnRoomLeaveOthersRow.holds Try.pinned (OpenSpec.ofChange fnRoomLeaveOthersSpec)

/-- ITS FALSE NEIGHBOUR: 'it returns false'. Refute it at one input. -/
def fnRoomLeaveOthersWrong : ChangeSpec := { name := "fnRoomLeaveOthers", fn := fun _ => fun
  | [d] => { results := [.lit (.bool false)], args := [d] }
  | _ => none }
def FnRoomLeaveOthersWrongFalsely : Prop := fnRoomLeaveOthersRow.holds Try.pinned (OpenSpec.ofChange fnRoomLeaveOthersWrong)

/-- 'laws.FnRoomHear': WHATEVER THE INPUT: true; the input reads as it did. -/
def fnRoomHearSpec : ChangeSpec := { name := "fnRoomHear", fn := fun _ => fun
  | [d] => { results := [.lit (.bool true)], args := [d] }
  | _ => none }
def fnRoomHearRow : OpenClaim := { program := "ytelcclhaepfmgaa", sum := "c8c25f543cd39d6d6f3f4fc50d6a1f417a4c4946597280446ab28ebd8fe79b19", func := "loop.example/mediarelay/laws.FnRoomHear", spec := "fnRoomHear", apart := false }
def FnRoomHearSaid : Prop := fnRoomHearRow.holds Try.pinned (OpenSpec.ofChange fnRoomHearSpec)

/-- ITS FALSE NEIGHBOUR: 'it returns false'. Refute it at one input. -/
def fnRoomHearWrong : ChangeSpec := { name := "fnRoomHear", fn := fun _ => fun
  | [d] => { results := [.lit (.bool false)], args := [d] }
  | _ => none }
def FnRoomHearWrongFalsely : Prop := fnRoomHearRow.holds Try.pinned (OpenSpec.ofChange fnRoomHearWrong)

/-- 'laws.FnRoutesSelf': WHATEVER THE INPUT: true; the input reads as it did. -/
def fnRoutesSelfSpec : ChangeSpec := { name := "fnRoutesSelf", fn := fun _ => fun
  | [d] => { results := [.lit (.bool true)], args := [d] }
  | _ => none }
def fnRoutesSelfRow : OpenClaim := { program := "ytelcclhaepfmgaa", sum := "c8c25f543cd39d6d6f3f4fc50d6a1f417a4c4946597280446ab28ebd8fe79b19", func := "loop.example/mediarelay/laws.FnRoutesSelf", spec := "fnRoutesSelf", apart := false }
def FnRoutesSelfSaid : Prop := fnRoutesSelfRow.holds Try.pinned (OpenSpec.ofChange fnRoutesSelfSpec)

/-- ITS FALSE NEIGHBOUR: 'it returns false'. Refute it at one input. -/
def fnRoutesSelfWrong : ChangeSpec := { name := "fnRoutesSelf", fn := fun _ => fun
  | [d] => { results := [.lit (.bool false)], args := [d] }
  | _ => none }
def FnRoutesSelfWrongFalsely : Prop := fnRoutesSelfRow.holds Try.pinned (OpenSpec.ofChange fnRoutesSelfWrong)

/-- 'laws.FnExactRoomRoutes': WHATEVER THE INPUT: true; the input reads as it did. -/
def fnExactRoomRoutesSpec : ChangeSpec := { name := "fnExactRoomRoutes", fn := fun _ => fun
  | [d1, d2] => { results := [.lit (.bool true)], args := [d1, d2] }
  | _ => none }
def fnExactRoomRoutesRow : OpenClaim := { program := "ytelcclhaepfmgaa", sum := "c8c25f543cd39d6d6f3f4fc50d6a1f417a4c4946597280446ab28ebd8fe79b19", func := "loop.example/mediarelay/laws.FnExactRoomRoutes", spec := "fnExactRoomRoutes", apart := false }
def FnExactRoomRoutesSaid : Prop := fnExactRoomRoutesRow.holds Try.pinned (OpenSpec.ofChange fnExactRoomRoutesSpec)

/-- ITS FALSE NEIGHBOUR: 'it returns false'. Refute it at one input. -/
def fnExactRoomRoutesWrong : ChangeSpec := { name := "fnExactRoomRoutes", fn := fun _ => fun
  | [d1, d2] => { results := [.lit (.bool false)], args := [d1, d2] }
  | _ => none }
def FnExactRoomRoutesWrongFalsely : Prop := fnExactRoomRoutesRow.holds Try.pinned (OpenSpec.ofChange fnExactRoomRoutesWrong)

/-- 'laws.FnExactRoomJoin': WHATEVER THE INPUT: true; the input reads as it did. -/
def fnExactRoomJoinSpec : ChangeSpec := { name := "fnExactRoomJoin", fn := fun _ => fun
  | [d1, d2, d3] => { results := [.lit (.bool true)], args := [d1, d2, d3] }
  | _ => none }
def fnExactRoomJoinRow : OpenClaim := { program := "ytelcclhaepfmgaa", sum := "c8c25f543cd39d6d6f3f4fc50d6a1f417a4c4946597280446ab28ebd8fe79b19", func := "loop.example/mediarelay/laws.FnExactRoomJoin", spec := "fnExactRoomJoin", apart := false }
def FnExactRoomJoinSaid : Prop := fnExactRoomJoinRow.holds Try.pinned (OpenSpec.ofChange fnExactRoomJoinSpec)

/-- ITS FALSE NEIGHBOUR: 'it returns false'. Refute it at one input. -/
def fnExactRoomJoinWrong : ChangeSpec := { name := "fnExactRoomJoin", fn := fun _ => fun
  | [d1, d2, d3] => { results := [.lit (.bool false)], args := [d1, d2, d3] }
  | _ => none }
def FnExactRoomJoinWrongFalsely : Prop := fnExactRoomJoinRow.holds Try.pinned (OpenSpec.ofChange fnExactRoomJoinWrong)

/-- 'laws.FnExactRoomLeave': WHATEVER THE INPUT: true; the input reads as it did. -/
def fnExactRoomLeaveSpec : ChangeSpec := { name := "fnExactRoomLeave", fn := fun _ => fun
  | [d1, d2] => { results := [.lit (.bool true)], args := [d1, d2] }
  | _ => none }
def fnExactRoomLeaveRow : OpenClaim := { program := "ytelcclhaepfmgaa", sum := "c8c25f543cd39d6d6f3f4fc50d6a1f417a4c4946597280446ab28ebd8fe79b19", func := "loop.example/mediarelay/laws.FnExactRoomLeave", spec := "fnExactRoomLeave", apart := false }
def FnExactRoomLeaveSaid : Prop := fnExactRoomLeaveRow.holds Try.pinned (OpenSpec.ofChange fnExactRoomLeaveSpec)

/-- ITS FALSE NEIGHBOUR: 'it returns false'. Refute it at one input. -/
def fnExactRoomLeaveWrong : ChangeSpec := { name := "fnExactRoomLeave", fn := fun _ => fun
  | [d1, d2] => { results := [.lit (.bool false)], args := [d1, d2] }
  | _ => none }
def FnExactRoomLeaveWrongFalsely : Prop := fnExactRoomLeaveRow.holds Try.pinned (OpenSpec.ofChange fnExactRoomLeaveWrong)

/-- 'laws.FnExactRoomHear': WHATEVER THE INPUT: true; the input reads as it did. -/
def fnExactRoomHearSpec : ChangeSpec := { name := "fnExactRoomHear", fn := fun _ => fun
  | [d1, d2, d3, d4] => { results := [.lit (.bool true)], args := [d1, d2, d3, d4] }
  | _ => none }
def fnExactRoomHearRow : OpenClaim := { program := "ytelcclhaepfmgaa", sum := "c8c25f543cd39d6d6f3f4fc50d6a1f417a4c4946597280446ab28ebd8fe79b19", func := "loop.example/mediarelay/laws.FnExactRoomHear", spec := "fnExactRoomHear", apart := false }
def FnExactRoomHearSaid : Prop := fnExactRoomHearRow.holds Try.pinned (OpenSpec.ofChange fnExactRoomHearSpec)

/-- ITS FALSE NEIGHBOUR: 'it returns false'. Refute it at one input. -/
def fnExactRoomHearWrong : ChangeSpec := { name := "fnExactRoomHear", fn := fun _ => fun
  | [d1, d2, d3, d4] => { results := [.lit (.bool false)], args := [d1, d2, d3, d4] }
  | _ => none }
def FnExactRoomHearWrongFalsely : Prop := fnExactRoomHearRow.holds Try.pinned (OpenSpec.ofChange fnExactRoomHearWrong)

/- THE SECOND FORM. 'bulk': how many values and letters a reading holds, each counted each time it is reached (what is shared counts as often as it is met; a slice's spare places count too). A statement '..UptoSaid' is the law's where the arguments, and the package variables that the reading takes, are together of bulk at most 1048576: NARROWER than '..Said'. Prove '..Said' where nothing that the law and all that it calls make is longer than what came in: it says more and counts as full. Else prove '..UptoSaid'. A law counts once. -/
mutual
def uptoBulk {H : Type} : DataW H → Nat
  | .lit (.string bytes) => bytes.length + 1
  | .lit _ => 1
  | .nil => 1
  | .ptr d => uptoBulk d + 1
  | .slice elems spare => uptoBulkAll elems + uptoBulkAll spare + 1
  | .agg parts => uptoBulkAll parts + 1
  | .iface _ d => uptoBulk d + 1
  | .map entries => uptoBulkEntries entries + 1
  | .held _ => 1
def uptoBulkAll {H : Type} : List (DataW H) → Nat
  | [] => 0
  | d :: r => uptoBulk d + uptoBulkAll r
def uptoBulkEntries {H : Type} : List (Lit × DataW H) → Nat
  | [] => 0
  | x :: r => uptoBulkEntry x + uptoBulkEntries r
def uptoBulkEntry {H : Type} : Lit × DataW H → Nat
  | (.string bytes, d) => bytes.length + uptoBulk d + 1
  | (_, d) => uptoBulk d + 1
 end
def uptoSmall : (H : Type) → List (DataW H) → Bool := fun _ ds => decide (uptoBulkAll ds ≤ 1048576)
def OpenSpec.upto (s : _root_.Go.ChangeSpec) : _root_.Go.OpenSpec := { _root_.Go.OpenSpec.ofChange s with cond := some uptoSmall }

/-- 'laws.FnRoomPart', WHERE WHAT IT READS IS OF BULK AT MOST 1048576: true; the input reads as it did. -/
def fnRoomPartUptoRow : OpenClaim := { program := "ytelcclhaepfmgaa", sum := "c8c25f543cd39d6d6f3f4fc50d6a1f417a4c4946597280446ab28ebd8fe79b19", func := "loop.example/mediarelay/laws.FnRoomPart", spec := "fnRoomPart", apart := false, narrowed := true }
def FnRoomPartUptoSaid : Prop := fnRoomPartUptoRow.holds Try.pinned (OpenSpec.upto fnRoomPartSpec)

/-- 'laws.FnRoomJoin', WHERE WHAT IT READS IS OF BULK AT MOST 1048576: true; the input reads as it did. -/
def fnRoomJoinUptoRow : OpenClaim := { program := "ytelcclhaepfmgaa", sum := "c8c25f543cd39d6d6f3f4fc50d6a1f417a4c4946597280446ab28ebd8fe79b19", func := "loop.example/mediarelay/laws.FnRoomJoin", spec := "fnRoomJoin", apart := false, narrowed := true }
def FnRoomJoinUptoSaid : Prop := fnRoomJoinUptoRow.holds Try.pinned (OpenSpec.upto fnRoomJoinSpec)

/-- 'laws.FnRoomJoinLeave', WHERE WHAT IT READS IS OF BULK AT MOST 1048576: true; the input reads as it did. -/
def fnRoomJoinLeaveUptoRow : OpenClaim := { program := "ytelcclhaepfmgaa", sum := "c8c25f543cd39d6d6f3f4fc50d6a1f417a4c4946597280446ab28ebd8fe79b19", func := "loop.example/mediarelay/laws.FnRoomJoinLeave", spec := "fnRoomJoinLeave", apart := false, narrowed := true }
def FnRoomJoinLeaveUptoSaid : Prop := fnRoomJoinLeaveUptoRow.holds Try.pinned (OpenSpec.upto fnRoomJoinLeaveSpec)

/-- 'laws.FnRoutes', WHERE WHAT IT READS IS OF BULK AT MOST 1048576: true; the input reads as it did. -/
def fnRoutesUptoRow : OpenClaim := { program := "ytelcclhaepfmgaa", sum := "c8c25f543cd39d6d6f3f4fc50d6a1f417a4c4946597280446ab28ebd8fe79b19", func := "loop.example/mediarelay/laws.FnRoutes", spec := "fnRoutes", apart := false, narrowed := true }
def FnRoutesUptoSaid : Prop := fnRoutesUptoRow.holds Try.pinned (OpenSpec.upto fnRoutesSpec)

/-- 'laws.FnRoomHearBack', WHERE WHAT IT READS IS OF BULK AT MOST 1048576: true; the input reads as it did. -/
def fnRoomHearBackUptoRow : OpenClaim := { program := "ytelcclhaepfmgaa", sum := "c8c25f543cd39d6d6f3f4fc50d6a1f417a4c4946597280446ab28ebd8fe79b19", func := "loop.example/mediarelay/laws.FnRoomHearBack", spec := "fnRoomHearBack", apart := false, narrowed := true }
def FnRoomHearBackUptoSaid : Prop := fnRoomHearBackUptoRow.holds Try.pinned (OpenSpec.upto fnRoomHearBackSpec)

/-- 'laws.FnRoomLeave', WHERE WHAT IT READS IS OF BULK AT MOST 1048576: true; the input reads as it did. -/
def fnRoomLeaveUptoRow : OpenClaim := { program := "ytelcclhaepfmgaa", sum := "c8c25f543cd39d6d6f3f4fc50d6a1f417a4c4946597280446ab28ebd8fe79b19", func := "loop.example/mediarelay/laws.FnRoomLeave", spec := "fnRoomLeave", apart := false, narrowed := true }
def FnRoomLeaveUptoSaid : Prop := fnRoomLeaveUptoRow.holds Try.pinned (OpenSpec.upto fnRoomLeaveSpec)

/-- 'laws.FnRoomLeaveOthers', WHERE WHAT IT READS IS OF BULK AT MOST 1048576: true; the input reads as it did. -/
def fnRoomLeaveOthersUptoRow : OpenClaim := { program := "ytelcclhaepfmgaa", sum := "c8c25f543cd39d6d6f3f4fc50d6a1f417a4c4946597280446ab28ebd8fe79b19", func := "loop.example/mediarelay/laws.FnRoomLeaveOthers", spec := "fnRoomLeaveOthers", apart := false, narrowed := true }
def FnRoomLeaveOthersUptoSaid : Prop := fnRoomLeaveOthersUptoRow.holds Try.pinned (OpenSpec.upto fnRoomLeaveOthersSpec)

/-- 'laws.FnRoomHear', WHERE WHAT IT READS IS OF BULK AT MOST 1048576: true; the input reads as it did. -/
def fnRoomHearUptoRow : OpenClaim := { program := "ytelcclhaepfmgaa", sum := "c8c25f543cd39d6d6f3f4fc50d6a1f417a4c4946597280446ab28ebd8fe79b19", func := "loop.example/mediarelay/laws.FnRoomHear", spec := "fnRoomHear", apart := false, narrowed := true }
def FnRoomHearUptoSaid : Prop := fnRoomHearUptoRow.holds Try.pinned (OpenSpec.upto fnRoomHearSpec)

/-- 'laws.FnRoutesSelf', WHERE WHAT IT READS IS OF BULK AT MOST 1048576: true; the input reads as it did. -/
def fnRoutesSelfUptoRow : OpenClaim := { program := "ytelcclhaepfmgaa", sum := "c8c25f543cd39d6d6f3f4fc50d6a1f417a4c4946597280446ab28ebd8fe79b19", func := "loop.example/mediarelay/laws.FnRoutesSelf", spec := "fnRoutesSelf", apart := false, narrowed := true }
def FnRoutesSelfUptoSaid : Prop := fnRoutesSelfUptoRow.holds Try.pinned (OpenSpec.upto fnRoutesSelfSpec)

/-- 'laws.FnExactRoomRoutes', WHERE WHAT IT READS IS OF BULK AT MOST 1048576: true; the input reads as it did. -/
def fnExactRoomRoutesUptoRow : OpenClaim := { program := "ytelcclhaepfmgaa", sum := "c8c25f543cd39d6d6f3f4fc50d6a1f417a4c4946597280446ab28ebd8fe79b19", func := "loop.example/mediarelay/laws.FnExactRoomRoutes", spec := "fnExactRoomRoutes", apart := false, narrowed := true }
def FnExactRoomRoutesUptoSaid : Prop := fnExactRoomRoutesUptoRow.holds Try.pinned (OpenSpec.upto fnExactRoomRoutesSpec)

/-- 'laws.FnExactRoomJoin', WHERE WHAT IT READS IS OF BULK AT MOST 1048576: true; the input reads as it did. -/
def fnExactRoomJoinUptoRow : OpenClaim := { program := "ytelcclhaepfmgaa", sum := "c8c25f543cd39d6d6f3f4fc50d6a1f417a4c4946597280446ab28ebd8fe79b19", func := "loop.example/mediarelay/laws.FnExactRoomJoin", spec := "fnExactRoomJoin", apart := false, narrowed := true }
def FnExactRoomJoinUptoSaid : Prop := fnExactRoomJoinUptoRow.holds Try.pinned (OpenSpec.upto fnExactRoomJoinSpec)

/-- 'laws.FnExactRoomLeave', WHERE WHAT IT READS IS OF BULK AT MOST 1048576: true; the input reads as it did. -/
def fnExactRoomLeaveUptoRow : OpenClaim := { program := "ytelcclhaepfmgaa", sum := "c8c25f543cd39d6d6f3f4fc50d6a1f417a4c4946597280446ab28ebd8fe79b19", func := "loop.example/mediarelay/laws.FnExactRoomLeave", spec := "fnExactRoomLeave", apart := false, narrowed := true }
def FnExactRoomLeaveUptoSaid : Prop := fnExactRoomLeaveUptoRow.holds Try.pinned (OpenSpec.upto fnExactRoomLeaveSpec)

/-- 'laws.FnExactRoomHear', WHERE WHAT IT READS IS OF BULK AT MOST 1048576: true; the input reads as it did. -/
def fnExactRoomHearUptoRow : OpenClaim := { program := "ytelcclhaepfmgaa", sum := "c8c25f543cd39d6d6f3f4fc50d6a1f417a4c4946597280446ab28ebd8fe79b19", func := "loop.example/mediarelay/laws.FnExactRoomHear", spec := "fnExactRoomHear", apart := false, narrowed := true }
def FnExactRoomHearUptoSaid : Prop := fnExactRoomHearUptoRow.holds Try.pinned (OpenSpec.upto fnExactRoomHearSpec)

end Rows
end Go.Proofs.Ytelcclhaepfmgaa
