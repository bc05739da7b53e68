/-
  No cell of these rows narrows 'for every input' (looked for: loops, veiled, ifaces, maps, wideKeys, modest, calm, conditions, laid).
  DERIVED. THE GIVEN ROWS OF THIS SEAT. 13 by the template 'for every input the law returns true; each argument reads behind the call as it read before'; 0 by the template 'total and deterministic' (their statements: YtegdogamenoaiaaTotals.lean).
  GIVEN WITH THE SEED: the statements are not yours to turn. If you find one false, say at which input.
  Laid BY PROGRAM, IN A SANDBOX (cutbox-rows.mjs): the forced cells as the released guide's own fill.sh prints them over the translation 14e06976372cde5e… (all of the seat's roots in one cut). By AI agents, Wed Nov 11 2026. No macro, syntax, notation, axiom, sorry.
-/
import Derived.Test.YtegdogamenoaiaaChecked
import GoSem.Claim
import GoSem.ClaimJoined
import GoSem.ClaimMapViews
import Derived.JoinedTies
import Derived.KernelRfl
namespace Go.Proofs.Ytegdogamenoaiaa
/- THE CELL 'sum', in the pinned program and in every row, IS THE sha256 OF THE DUMP (.gsa) THAT YtegdogamenoaiaaProg.lean LOADS. Nothing in Lean hashes anything: it is a label: what it is worth is what the hold of that sum in a sandbox is worth. -/
noncomputable def Try.pinned : Pinned := { name := "ytegdogamenoaiaa", sum := "14e06976372cde5e257e2d7f263d5380633f1d4aafd81336edd74ff2398daad8", checked := Try.checked }
namespace Rows
def none {H : Type} : Left H := { results := [], args := [] }

/-- 'laws.FnExactBufferTake': WHATEVER THE INPUT: true; the input reads as it did. -/
def fnExactBufferTakeSpec : ChangeSpec := { name := "fnExactBufferTake", fn := fun _ => fun
  | [d1, d2] => { results := [.lit (.bool true)], args := [d1, d2] }
  | _ => none }
def fnExactBufferTakeRow : OpenClaim := { program := "ytegdogamenoaiaa", sum := "14e06976372cde5e257e2d7f263d5380633f1d4aafd81336edd74ff2398daad8", func := "loop.example/mediarelay/laws.FnExactBufferTake", spec := "fnExactBufferTake", unfollowed := true, recurses := true, apart := false }
def FnExactBufferTakeSaid : Prop := fnExactBufferTakeRow.holds Try.pinned (OpenSpec.ofChange fnExactBufferTakeSpec)

/-- ITS FALSE NEIGHBOUR: 'it returns false'. Refute it at one input. -/
def fnExactBufferTakeWrong : ChangeSpec := { name := "fnExactBufferTake", fn := fun _ => fun
  | [d1, d2] => { results := [.lit (.bool false)], args := [d1, d2] }
  | _ => none }
def FnExactBufferTakeWrongFalsely : Prop := fnExactBufferTakeRow.holds Try.pinned (OpenSpec.ofChange fnExactBufferTakeWrong)

/-- 'laws.FnExactBufferPut': WHATEVER THE INPUT: true; the input reads as it did. -/
def fnExactBufferPutSpec : ChangeSpec := { name := "fnExactBufferPut", fn := fun _ => fun
  | [d1, d2, d3] => { results := [.lit (.bool true)], args := [d1, d2, d3] }
  | _ => none }
def fnExactBufferPutRow : OpenClaim := { program := "ytegdogamenoaiaa", sum := "14e06976372cde5e257e2d7f263d5380633f1d4aafd81336edd74ff2398daad8", func := "loop.example/mediarelay/laws.FnExactBufferPut", spec := "fnExactBufferPut", unfollowed := true, recurses := true, apart := false }
def FnExactBufferPutSaid : Prop := fnExactBufferPutRow.holds Try.pinned (OpenSpec.ofChange fnExactBufferPutSpec)

/-- ITS FALSE NEIGHBOUR: 'it returns false'. Refute it at one input. -/
def fnExactBufferPutWrong : ChangeSpec := { name := "fnExactBufferPut", fn := fun _ => fun
  | [d1, d2, d3] => { results := [.lit (.bool false)], args := [d1, d2, d3] }
  | _ => none }
def FnExactBufferPutWrongFalsely : Prop := fnExactBufferPutRow.holds Try.pinned (OpenSpec.ofChange fnExactBufferPutWrong)

/-- 'laws.FnExactBufferAll': WHATEVER THE INPUT: true; the input reads as it did. -/
def fnExactBufferAllSpec : ChangeSpec := { name := "fnExactBufferAll", fn := fun _ => fun
  | [d1, d2] => { results := [.lit (.bool true)], args := [d1, d2] }
  | _ => none }
def fnExactBufferAllRow : OpenClaim := { program := "ytegdogamenoaiaa", sum := "14e06976372cde5e257e2d7f263d5380633f1d4aafd81336edd74ff2398daad8", func := "loop.example/mediarelay/laws.FnExactBufferAll", spec := "fnExactBufferAll", unfollowed := true, recurses := true, apart := false }
def FnExactBufferAllSaid : Prop := fnExactBufferAllRow.holds Try.pinned (OpenSpec.ofChange fnExactBufferAllSpec)

/-- ITS FALSE NEIGHBOUR: 'it returns false'. Refute it at one input. -/
def fnExactBufferAllWrong : ChangeSpec := { name := "fnExactBufferAll", fn := fun _ => fun
  | [d1, d2] => { results := [.lit (.bool false)], args := [d1, d2] }
  | _ => none }
def FnExactBufferAllWrongFalsely : Prop := fnExactBufferAllRow.holds Try.pinned (OpenSpec.ofChange fnExactBufferAllWrong)

/-- 'laws.FnHoldTime': WHATEVER THE INPUT: true; the input reads as it did. -/
def fnHoldTimeSpec : ChangeSpec := { name := "fnHoldTime", fn := fun _ => fun
  | [d] => { results := [.lit (.bool true)], args := [d] }
  | _ => none }
def fnHoldTimeRow : OpenClaim := { program := "ytegdogamenoaiaa", sum := "14e06976372cde5e257e2d7f263d5380633f1d4aafd81336edd74ff2398daad8", func := "loop.example/mediarelay/laws.FnHoldTime", spec := "fnHoldTime", unfollowed := true, recurses := true, apart := false }
def FnHoldTimeSaid : Prop := fnHoldTimeRow.holds Try.pinned (OpenSpec.ofChange fnHoldTimeSpec)

/-- ITS FALSE NEIGHBOUR: 'it returns false'. Refute it at one input. -/
def fnHoldTimeWrong : ChangeSpec := { name := "fnHoldTime", fn := fun _ => fun
  | [d] => { results := [.lit (.bool false)], args := [d] }
  | _ => none }
def FnHoldTimeWrongFalsely : Prop := fnHoldTimeRow.holds Try.pinned (OpenSpec.ofChange fnHoldTimeWrong)

/-- 'laws.FnHoldTake': WHATEVER THE INPUT: true; the input reads as it did. -/
def fnHoldTakeSpec : ChangeSpec := { name := "fnHoldTake", fn := fun _ => fun
  | [d] => { results := [.lit (.bool true)], args := [d] }
  | _ => none }
def fnHoldTakeRow : OpenClaim := { program := "ytegdogamenoaiaa", sum := "14e06976372cde5e257e2d7f263d5380633f1d4aafd81336edd74ff2398daad8", func := "loop.example/mediarelay/laws.FnHoldTake", spec := "fnHoldTake", unfollowed := true, recurses := true, apart := false }
def FnHoldTakeSaid : Prop := fnHoldTakeRow.holds Try.pinned (OpenSpec.ofChange fnHoldTakeSpec)

/-- ITS FALSE NEIGHBOUR: 'it returns false'. Refute it at one input. -/
def fnHoldTakeWrong : ChangeSpec := { name := "fnHoldTake", fn := fun _ => fun
  | [d] => { results := [.lit (.bool false)], args := [d] }
  | _ => none }
def FnHoldTakeWrongFalsely : Prop := fnHoldTakeRow.holds Try.pinned (OpenSpec.ofChange fnHoldTakeWrong)

/-- 'laws.FnHoldTakeWhen': WHATEVER THE INPUT: true; the input reads as it did. -/
def fnHoldTakeWhenSpec : ChangeSpec := { name := "fnHoldTakeWhen", fn := fun _ => fun
  | [d] => { results := [.lit (.bool true)], args := [d] }
  | _ => none }
def fnHoldTakeWhenRow : OpenClaim := { program := "ytegdogamenoaiaa", sum := "14e06976372cde5e257e2d7f263d5380633f1d4aafd81336edd74ff2398daad8", func := "loop.example/mediarelay/laws.FnHoldTakeWhen", spec := "fnHoldTakeWhen", unfollowed := true, recurses := true, apart := false }
def FnHoldTakeWhenSaid : Prop := fnHoldTakeWhenRow.holds Try.pinned (OpenSpec.ofChange fnHoldTakeWhenSpec)

/-- ITS FALSE NEIGHBOUR: 'it returns false'. Refute it at one input. -/
def fnHoldTakeWhenWrong : ChangeSpec := { name := "fnHoldTakeWhen", fn := fun _ => fun
  | [d] => { results := [.lit (.bool false)], args := [d] }
  | _ => none }
def FnHoldTakeWhenWrongFalsely : Prop := fnHoldTakeWhenRow.holds Try.pinned (OpenSpec.ofChange fnHoldTakeWhenWrong)

/-- 'laws.FnHoldPut': WHATEVER THE INPUT: true; the input reads as it did. -/
def fnHoldPutSpec : ChangeSpec := { name := "fnHoldPut", fn := fun _ => fun
  | [d] => { results := [.lit (.bool true)], args := [d] }
  | _ => none }
def fnHoldPutRow : OpenClaim := { program := "ytegdogamenoaiaa", sum := "14e06976372cde5e257e2d7f263d5380633f1d4aafd81336edd74ff2398daad8", func := "loop.example/mediarelay/laws.FnHoldPut", spec := "fnHoldPut", unfollowed := true, recurses := true, apart := false }
def FnHoldPutSaid : Prop := fnHoldPutRow.holds Try.pinned (OpenSpec.ofChange fnHoldPutSpec)

/-- ITS FALSE NEIGHBOUR: 'it returns false'. Refute it at one input. -/
def fnHoldPutWrong : ChangeSpec := { name := "fnHoldPut", fn := fun _ => fun
  | [d] => { results := [.lit (.bool false)], args := [d] }
  | _ => none }
def FnHoldPutWrongFalsely : Prop := fnHoldPutRow.holds Try.pinned (OpenSpec.ofChange fnHoldPutWrong)

/-- 'laws.FnHoldPutFull': WHATEVER THE INPUT: true; the input reads as it did. -/
def fnHoldPutFullSpec : ChangeSpec := { name := "fnHoldPutFull", fn := fun _ => fun
  | [d] => { results := [.lit (.bool true)], args := [d] }
  | _ => none }
def fnHoldPutFullRow : OpenClaim := { program := "ytegdogamenoaiaa", sum := "14e06976372cde5e257e2d7f263d5380633f1d4aafd81336edd74ff2398daad8", func := "loop.example/mediarelay/laws.FnHoldPutFull", spec := "fnHoldPutFull", unfollowed := true, recurses := true, apart := false }
def FnHoldPutFullSaid : Prop := fnHoldPutFullRow.holds Try.pinned (OpenSpec.ofChange fnHoldPutFullSpec)

/-- ITS FALSE NEIGHBOUR: 'it returns false'. Refute it at one input. -/
def fnHoldPutFullWrong : ChangeSpec := { name := "fnHoldPutFull", fn := fun _ => fun
  | [d] => { results := [.lit (.bool false)], args := [d] }
  | _ => none }
def FnHoldPutFullWrongFalsely : Prop := fnHoldPutFullRow.holds Try.pinned (OpenSpec.ofChange fnHoldPutFullWrong)

/-- 'laws.FnHoldPutLate': WHATEVER THE INPUT: true; the input reads as it did. -/
def fnHoldPutLateSpec : ChangeSpec := { name := "fnHoldPutLate", fn := fun _ => fun
  | [d] => { results := [.lit (.bool true)], args := [d] }
  | _ => none }
def fnHoldPutLateRow : OpenClaim := { program := "ytegdogamenoaiaa", sum := "14e06976372cde5e257e2d7f263d5380633f1d4aafd81336edd74ff2398daad8", func := "loop.example/mediarelay/laws.FnHoldPutLate", spec := "fnHoldPutLate", unfollowed := true, recurses := true, apart := false }
def FnHoldPutLateSaid : Prop := fnHoldPutLateRow.holds Try.pinned (OpenSpec.ofChange fnHoldPutLateSpec)

/-- ITS FALSE NEIGHBOUR: 'it returns false'. Refute it at one input. -/
def fnHoldPutLateWrong : ChangeSpec := { name := "fnHoldPutLate", fn := fun _ => fun
  | [d] => { results := [.lit (.bool false)], args := [d] }
  | _ => none }
def FnHoldPutLateWrongFalsely : Prop := fnHoldPutLateRow.holds Try.pinned (OpenSpec.ofChange fnHoldPutLateWrong)

/-- 'laws.FnHoldPutNot': WHATEVER THE INPUT: true; the input reads as it did. -/
def fnHoldPutNotSpec : ChangeSpec := { name := "fnHoldPutNot", fn := fun _ => fun
  | [d] => { results := [.lit (.bool true)], args := [d] }
  | _ => none }
def fnHoldPutNotRow : OpenClaim := { program := "ytegdogamenoaiaa", sum := "14e06976372cde5e257e2d7f263d5380633f1d4aafd81336edd74ff2398daad8", func := "loop.example/mediarelay/laws.FnHoldPutNot", spec := "fnHoldPutNot", unfollowed := true, recurses := true, apart := false }
def FnHoldPutNotSaid : Prop := fnHoldPutNotRow.holds Try.pinned (OpenSpec.ofChange fnHoldPutNotSpec)

/-- ITS FALSE NEIGHBOUR: 'it returns false'. Refute it at one input. -/
def fnHoldPutNotWrong : ChangeSpec := { name := "fnHoldPutNot", fn := fun _ => fun
  | [d] => { results := [.lit (.bool false)], args := [d] }
  | _ => none }
def FnHoldPutNotWrongFalsely : Prop := fnHoldPutNotRow.holds Try.pinned (OpenSpec.ofChange fnHoldPutNotWrong)

/-- 'laws.FnHoldPutTwice': WHATEVER THE INPUT: true; the input reads as it did. -/
def fnHoldPutTwiceSpec : ChangeSpec := { name := "fnHoldPutTwice", fn := fun _ => fun
  | [d] => { results := [.lit (.bool true)], args := [d] }
  | _ => none }
def fnHoldPutTwiceRow : OpenClaim := { program := "ytegdogamenoaiaa", sum := "14e06976372cde5e257e2d7f263d5380633f1d4aafd81336edd74ff2398daad8", func := "loop.example/mediarelay/laws.FnHoldPutTwice", spec := "fnHoldPutTwice", unfollowed := true, recurses := true, apart := false }
def FnHoldPutTwiceSaid : Prop := fnHoldPutTwiceRow.holds Try.pinned (OpenSpec.ofChange fnHoldPutTwiceSpec)

/-- ITS FALSE NEIGHBOUR: 'it returns false'. Refute it at one input. -/
def fnHoldPutTwiceWrong : ChangeSpec := { name := "fnHoldPutTwice", fn := fun _ => fun
  | [d] => { results := [.lit (.bool false)], args := [d] }
  | _ => none }
def FnHoldPutTwiceWrongFalsely : Prop := fnHoldPutTwiceRow.holds Try.pinned (OpenSpec.ofChange fnHoldPutTwiceWrong)

/-- 'laws.FnHoldAll': WHATEVER THE INPUT: true; the input reads as it did. -/
def fnHoldAllSpec : ChangeSpec := { name := "fnHoldAll", fn := fun _ => fun
  | [d] => { results := [.lit (.bool true)], args := [d] }
  | _ => none }
def fnHoldAllRow : OpenClaim := { program := "ytegdogamenoaiaa", sum := "14e06976372cde5e257e2d7f263d5380633f1d4aafd81336edd74ff2398daad8", func := "loop.example/mediarelay/laws.FnHoldAll", spec := "fnHoldAll", unfollowed := true, recurses := true, apart := false }
def FnHoldAllSaid : Prop := fnHoldAllRow.holds Try.pinned (OpenSpec.ofChange fnHoldAllSpec)

/-- ITS FALSE NEIGHBOUR: 'it returns false'. Refute it at one input. -/
def fnHoldAllWrong : ChangeSpec := { name := "fnHoldAll", fn := fun _ => fun
  | [d] => { results := [.lit (.bool false)], args := [d] }
  | _ => none }
def FnHoldAllWrongFalsely : Prop := fnHoldAllRow.holds Try.pinned (OpenSpec.ofChange fnHoldAllWrong)

/-- 'laws.FnHoldAllLater': WHATEVER THE INPUT: true; the input reads as it did. -/
def fnHoldAllLaterSpec : ChangeSpec := { name := "fnHoldAllLater", fn := fun _ => fun
  | [d] => { results := [.lit (.bool true)], args := [d] }
  | _ => none }
def fnHoldAllLaterRow : OpenClaim := { program := "ytegdogamenoaiaa", sum := "14e06976372cde5e257e2d7f263d5380633f1d4aafd81336edd74ff2398daad8", func := "loop.example/mediarelay/laws.FnHoldAllLater", spec := "fnHoldAllLater", unfollowed := true, recurses := true, apart := false }
def FnHoldAllLaterSaid : Prop := fnHoldAllLaterRow.holds Try.pinned (OpenSpec.ofChange fnHoldAllLaterSpec)

/-- ITS FALSE NEIGHBOUR: 'it returns false'. Refute it at one input. -/
def fnHoldAllLaterWrong : ChangeSpec := { name := "fnHoldAllLater", fn := fun _ => fun
  | [d] => { results := [.lit (.bool false)], args := [d] }
  | _ => none }
def FnHoldAllLaterWrongFalsely : Prop := fnHoldAllLaterRow.holds Try.pinned (OpenSpec.ofChange fnHoldAllLaterWrong)

/- THE SECOND FORM. 'bulk': how many values and letters a reading holds, each counted each time it is reached (what is shared counts as often as it is met; a slice's spare places count too). A statement '..UptoSaid' is the law's where the arguments, and the package variables that the reading takes, are together of bulk at most 1048576: NARROWER than '..Said'. Prove '..Said' where nothing that the law and all that it calls make is longer than what came in: it says more and counts as full. Else prove '..UptoSaid'. A law counts once. -/
mutual
def uptoBulk {H : Type} : DataW H → Nat
  | .lit (.string bytes) => bytes.length + 1
  | .lit _ => 1
  | .nil => 1
  | .ptr d => uptoBulk d + 1
  | .slice elems spare => uptoBulkAll elems + uptoBulkAll spare + 1
  | .agg parts => uptoBulkAll parts + 1
  | .iface _ d => uptoBulk d + 1
  | .map entries => uptoBulkEntries entries + 1
  | .held _ => 1
def uptoBulkAll {H : Type} : List (DataW H) → Nat
  | [] => 0
  | d :: r => uptoBulk d + uptoBulkAll r
def uptoBulkEntries {H : Type} : List (Lit × DataW H) → Nat
  | [] => 0
  | x :: r => uptoBulkEntry x + uptoBulkEntries r
def uptoBulkEntry {H : Type} : Lit × DataW H → Nat
  | (.string bytes, d) => bytes.length + uptoBulk d + 1
  | (_, d) => uptoBulk d + 1
 end
def uptoSmall : (H : Type) → List (DataW H) → Bool := fun _ ds => decide (uptoBulkAll ds ≤ 1048576)
def OpenSpec.upto (s : _root_.Go.ChangeSpec) : _root_.Go.OpenSpec := { _root_.Go.OpenSpec.ofChange s with cond := some uptoSmall }

/-- 'laws.FnExactBufferTake', WHERE WHAT IT READS IS OF BULK AT MOST 1048576: true; the input reads as it did. -/
def fnExactBufferTakeUptoRow : OpenClaim := { program := "ytegdogamenoaiaa", sum := "14e06976372cde5e257e2d7f263d5380633f1d4aafd81336edd74ff2398daad8", func := "loop.example/mediarelay/laws.FnExactBufferTake", spec := "fnExactBufferTake", unfollowed := true, recurses := true, apart := false, narrowed := true }
def FnExactBufferTakeUptoSaid : Prop := fnExactBufferTakeUptoRow.holds Try.pinned (OpenSpec.upto fnExactBufferTakeSpec)

/-- 'laws.FnExactBufferPut', WHERE WHAT IT READS IS OF BULK AT MOST 1048576: true; the input reads as it did. -/
def fnExactBufferPutUptoRow : OpenClaim := { program := "ytegdogamenoaiaa", sum := "14e06976372cde5e257e2d7f263d5380633f1d4aafd81336edd74ff2398daad8", func := "loop.example/mediarelay/laws.FnExactBufferPut", spec := "fnExactBufferPut", unfollowed := true, recurses := true, apart := false, narrowed := true }
def FnExactBufferPutUptoSaid : Prop := fnExactBufferPutUptoRow.holds Try.pinned (OpenSpec.upto fnExactBufferPutSpec)

/-- 'laws.FnExactBufferAll', WHERE WHAT IT READS IS OF BULK AT MOST 1048576: true; the input reads as it did. -/
def fnExactBufferAllUptoRow : OpenClaim := { program := "ytegdogamenoaiaa", sum := "14e06976372cde5e257e2d7f263d5380633f1d4aafd81336edd74ff2398daad8", func := "loop.example/mediarelay/laws.FnExactBufferAll", spec := "fnExactBufferAll", unfollowed := true, recurses := true, apart := false, narrowed := true }
def FnExactBufferAllUptoSaid : Prop := fnExactBufferAllUptoRow.holds Try.pinned (OpenSpec.upto fnExactBufferAllSpec)

/-- 'laws.FnHoldTime', WHERE WHAT IT READS IS OF BULK AT MOST 1048576: true; the input reads as it did. -/
def fnHoldTimeUptoRow : OpenClaim := { program := "ytegdogamenoaiaa", sum := "14e06976372cde5e257e2d7f263d5380633f1d4aafd81336edd74ff2398daad8", func := "loop.example/mediarelay/laws.FnHoldTime", spec := "fnHoldTime", unfollowed := true, recurses := true, apart := false, narrowed := true }
def FnHoldTimeUptoSaid : Prop := fnHoldTimeUptoRow.holds Try.pinned (OpenSpec.upto fnHoldTimeSpec)

/-- 'laws.FnHoldTake', WHERE WHAT IT READS IS OF BULK AT MOST 1048576: true; the input reads as it did. -/
def fnHoldTakeUptoRow : OpenClaim := { program := "ytegdogamenoaiaa", sum := "14e06976372cde5e257e2d7f263d5380633f1d4aafd81336edd74ff2398daad8", func := "loop.example/mediarelay/laws.FnHoldTake", spec := "fnHoldTake", unfollowed := true, recurses := true, apart := false, narrowed := true }
def FnHoldTakeUptoSaid : Prop := fnHoldTakeUptoRow.holds Try.pinned (OpenSpec.upto fnHoldTakeSpec)

/-- 'laws.FnHoldTakeWhen', WHERE WHAT IT READS IS OF BULK AT MOST 1048576: true; the input reads as it did. -/
def fnHoldTakeWhenUptoRow : OpenClaim := { program := "ytegdogamenoaiaa", sum := "14e06976372cde5e257e2d7f263d5380633f1d4aafd81336edd74ff2398daad8", func := "loop.example/mediarelay/laws.FnHoldTakeWhen", spec := "fnHoldTakeWhen", unfollowed := true, recurses := true, apart := false, narrowed := true }
def FnHoldTakeWhenUptoSaid : Prop := fnHoldTakeWhenUptoRow.holds Try.pinned (OpenSpec.upto fnHoldTakeWhenSpec)

/-- 'laws.FnHoldPut', WHERE WHAT IT READS IS OF BULK AT MOST 1048576: true; the input reads as it did. -/
def fnHoldPutUptoRow : OpenClaim := { program := "ytegdogamenoaiaa", sum := "14e06976372cde5e257e2d7f263d5380633f1d4aafd81336edd74ff2398daad8", func := "loop.example/mediarelay/laws.FnHoldPut", spec := "fnHoldPut", unfollowed := true, recurses := true, apart := false, narrowed := true }
def FnHoldPutUptoSaid : Prop := fnHoldPutUptoRow.holds Try.pinned (OpenSpec.upto fnHoldPutSpec)

/-- 'laws.FnHoldPutFull', WHERE WHAT IT READS IS OF BULK AT MOST 1048576: true; the input reads as it did. -/
def fnHoldPutFullUptoRow : OpenClaim := { program := "ytegdogamenoaiaa", sum := "14e06976372cde5e257e2d7f263d5380633f1d4aafd81336edd74ff2398daad8", func := "loop.example/mediarelay/laws.FnHoldPutFull", spec := "fnHoldPutFull", unfollowed := true, recurses := true, apart := false, narrowed := true }
def FnHoldPutFullUptoSaid : Prop := fnHoldPutFullUptoRow.holds Try.pinned (OpenSpec.upto fnHoldPutFullSpec)

/-- 'laws.FnHoldPutLate', WHERE WHAT IT READS IS OF BULK AT MOST 1048576: true; the input reads as it did. -/
def fnHoldPutLateUptoRow : OpenClaim := { program := "ytegdogamenoaiaa", sum := "14e06976372cde5e257e2d7f263d5380633f1d4aafd81336edd74ff2398daad8", func := "loop.example/mediarelay/laws.FnHoldPutLate", spec := "fnHoldPutLate", unfollowed := true, recurses := true, apart := false, narrowed := true }
def FnHoldPutLateUptoSaid : Prop := fnHoldPutLateUptoRow.holds Try.pinned (OpenSpec.upto fnHoldPutLateSpec)

/-- 'laws.FnHoldPutNot', WHERE WHAT IT READS IS OF BULK AT MOST 1048576: true; the input reads as it did. -/
def fnHoldPutNotUptoRow : OpenClaim := { program := "ytegdogamenoaiaa", sum := "14e06976372cde5e257e2d7f263d5380633f1d4aafd81336edd74ff2398daad8", func := "loop.example/mediarelay/laws.FnHoldPutNot", spec := "fnHoldPutNot", unfollowed := true, recurses := true, apart := false, narrowed := true }
def FnHoldPutNotUptoSaid : Prop := fnHoldPutNotUptoRow.holds Try.pinned (OpenSpec.upto fnHoldPutNotSpec)

/-- 'laws.FnHoldPutTwice', WHERE WHAT IT READS IS OF BULK AT MOST 1048576: true; the input reads as it did. -/
def fnHoldPutTwiceUptoRow : OpenClaim := { program := "ytegdogamenoaiaa", sum := "14e06976372cde5e257e2d7f263d5380633f1d4aafd81336edd74ff2398daad8", func := "loop.example/mediarelay/laws.FnHoldPutTwice", spec := "fnHoldPutTwice", unfollowed := true, recurses := true, apart := false, narrowed := true }
def FnHoldPutTwiceUptoSaid : Prop := fnHoldPutTwiceUptoRow.holds Try.pinned (OpenSpec.upto fnHoldPutTwiceSpec)

/-- 'laws.FnHoldAll', WHERE WHAT IT READS IS OF BULK AT MOST 1048576: true; the input reads as it did. -/
def fnHoldAllUptoRow : OpenClaim := { program := "ytegdogamenoaiaa", sum := "14e06976372cde5e257e2d7f263d5380633f1d4aafd81336edd74ff2398daad8", func := "loop.example/mediarelay/laws.FnHoldAll", spec := "fnHoldAll", unfollowed := true, recurses := true, apart := false, narrowed := true }
def FnHoldAllUptoSaid : Prop := fnHoldAllUptoRow.holds Try.pinned (OpenSpec.upto fnHoldAllSpec)

/-- 'laws.FnHoldAllLater', WHERE WHAT IT READS IS OF BULK AT MOST 1048576: true; the input reads as it did. -/
def fnHoldAllLaterUptoRow : OpenClaim := { program := "ytegdogamenoaiaa", sum := "14e06976372cde5e257e2d7f263d5380633f1d4aafd81336edd74ff2398daad8", func := "loop.example/mediarelay/laws.FnHoldAllLater", spec := "fnHoldAllLater", unfollowed := true, recurses := true, apart := false, narrowed := true }
def FnHoldAllLaterUptoSaid : Prop := fnHoldAllLaterUptoRow.holds Try.pinned (OpenSpec.upto fnHoldAllLaterSpec)

end Rows
end Go.Proofs.Ytegdogamenoaiaa
