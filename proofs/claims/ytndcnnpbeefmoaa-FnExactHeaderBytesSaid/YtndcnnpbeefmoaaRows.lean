/-
  No cell of these rows narrows 'for every input' (looked for: loops, veiled, ifaces, maps, wideKeys, modest, calm, conditions, laid).
  DERIVED. THE GIVEN ROWS OF THIS SEAT. 5 by the template 'for every input the law returns true; each argument reads behind the call as it read before'; 0 by the template 'total and deterministic' (their statements: YtndcnnpbeefmoaaTotals.lean).
  GIVEN WITH THE SEED: the statements are not yours to turn. If you find one false, say at which input.
  Laid BY PROGRAM, IN A SANDBOX (cutbox-rows.mjs): the forced cells as the released guide's own fill.sh prints them over the translation 1222a2878d188890… (all of the seat's roots in one cut). By AI agents, Wed Nov 11 2026. No macro, syntax, notation, axiom, sorry.
-/
import Derived.Test.YtndcnnpbeefmoaaChecked
import GoSem.Claim
import GoSem.ClaimJoined
import GoSem.ClaimMapViews
import Derived.JoinedTies
import Derived.KernelRfl
namespace Go.Proofs.Ytndcnnpbeefmoaa
/- THE CELL 'sum', in the pinned program and in every row, IS THE sha256 OF THE DUMP (.gsa) THAT YtndcnnpbeefmoaaProg.lean LOADS. Nothing in Lean hashes anything: it is a label: what it is worth is what the hold of that sum in a sandbox is worth. -/
noncomputable def Try.pinned : Pinned := { name := "ytndcnnpbeefmoaa", sum := "1222a2878d1888904aafc95320046c2d8b6fbf321221751e763a6e114337b813", checked := Try.checked }
namespace Rows
def none {H : Type} : Left H := { results := [], args := [] }

/-- 'laws.FnDemandsPart': WHATEVER THE INPUT: true; the input reads as it did. -/
def fnDemandsPartSpec : ChangeSpec := { name := "fnDemandsPart", fn := fun _ => fun
  | [d1, d2] => { results := [.lit (.bool true)], args := [d1, d2] }
  | _ => none }
def fnDemandsPartRow : OpenClaim := { program := "ytndcnnpbeefmoaa", sum := "1222a2878d1888904aafc95320046c2d8b6fbf321221751e763a6e114337b813", func := "loop.example/mediarelay/laws.FnDemandsPart", spec := "fnDemandsPart", apart := false }
def FnDemandsPartSaid : Prop := fnDemandsPartRow.holds Try.pinned (OpenSpec.ofChange fnDemandsPartSpec)

/-- ITS FALSE NEIGHBOUR: 'it returns false'. Refute it at one input. -/
def fnDemandsPartWrong : ChangeSpec := { name := "fnDemandsPart", fn := fun _ => fun
  | [d1, d2] => { results := [.lit (.bool false)], args := [d1, d2] }
  | _ => none }
def FnDemandsPartWrongFalsely : Prop := fnDemandsPartRow.holds Try.pinned (OpenSpec.ofChange fnDemandsPartWrong)

/-- 'laws.FnExactDemandsValid': WHATEVER THE INPUT: true; the input reads as it did. -/
def fnExactDemandsValidSpec : ChangeSpec := { name := "fnExactDemandsValid", fn := fun _ => fun
  | [d] => { results := [.lit (.bool true)], args := [d] }
  | _ => none }
def fnExactDemandsValidRow : OpenClaim := { program := "ytndcnnpbeefmoaa", sum := "1222a2878d1888904aafc95320046c2d8b6fbf321221751e763a6e114337b813", func := "loop.example/mediarelay/laws.FnExactDemandsValid", spec := "fnExactDemandsValid", apart := false }
def FnExactDemandsValidSaid : Prop := fnExactDemandsValidRow.holds Try.pinned (OpenSpec.ofChange fnExactDemandsValidSpec)

/-- ITS FALSE NEIGHBOUR: 'it returns false'. Refute it at one input. -/
def fnExactDemandsValidWrong : ChangeSpec := { name := "fnExactDemandsValid", fn := fun _ => fun
  | [d] => { results := [.lit (.bool false)], args := [d] }
  | _ => none }
def FnExactDemandsValidWrongFalsely : Prop := fnExactDemandsValidRow.holds Try.pinned (OpenSpec.ofChange fnExactDemandsValidWrong)

/-- 'laws.FnExactHeaderBytes': WHATEVER THE INPUT: true; the input reads as it did. -/
def fnExactHeaderBytesSpec : ChangeSpec := { name := "fnExactHeaderBytes", fn := fun _ => fun
  | [d] => { results := [.lit (.bool true)], args := [d] }
  | _ => none }
def fnExactHeaderBytesRow : OpenClaim := { program := "ytndcnnpbeefmoaa", sum := "1222a2878d1888904aafc95320046c2d8b6fbf321221751e763a6e114337b813", func := "loop.example/mediarelay/laws.FnExactHeaderBytes", spec := "fnExactHeaderBytes", apart := false }
def FnExactHeaderBytesSaid : Prop := fnExactHeaderBytesRow.holds Try.pinned (OpenSpec.ofChange fnExactHeaderBytesSpec)

/-- ITS FALSE NEIGHBOUR: 'it returns false'. Refute it at one input. -/
def fnExactHeaderBytesWrong : ChangeSpec := { name := "fnExactHeaderBytes", fn := fun _ => fun
  | [d] => { results := [.lit (.bool false)], args := [d] }
  | _ => none }
def FnExactHeaderBytesWrongFalsely : Prop := fnExactHeaderBytesRow.holds Try.pinned (OpenSpec.ofChange fnExactHeaderBytesWrong)

/-- 'laws.FnHeaders': WHATEVER THE INPUT: true; the input reads as it did. -/
def fnHeadersSpec : ChangeSpec := { name := "fnHeaders", fn := fun _ => fun
  | [d] => { results := [.lit (.bool true)], args := [d] }
  | _ => none }
def fnHeadersRow : OpenClaim := { program := "ytndcnnpbeefmoaa", sum := "1222a2878d1888904aafc95320046c2d8b6fbf321221751e763a6e114337b813", func := "loop.example/mediarelay/laws.FnHeaders", spec := "fnHeaders", apart := false }
def FnHeadersSaid : Prop := fnHeadersRow.holds Try.pinned (OpenSpec.ofChange fnHeadersSpec)

/-- ITS FALSE NEIGHBOUR: 'it returns false'. Refute it at one input. -/
def fnHeadersWrong : ChangeSpec := { name := "fnHeaders", fn := fun _ => fun
  | [d] => { results := [.lit (.bool false)], args := [d] }
  | _ => none }
def FnHeadersWrongFalsely : Prop := fnHeadersRow.holds Try.pinned (OpenSpec.ofChange fnHeadersWrong)

/-- 'laws.FnExactHeadersBytes': WHATEVER THE INPUT: true; the input reads as it did. -/
def fnExactHeadersBytesSpec : ChangeSpec := { name := "fnExactHeadersBytes", fn := fun _ => fun
  | [d] => { results := [.lit (.bool true)], args := [d] }
  | _ => none }
def fnExactHeadersBytesRow : OpenClaim := { program := "ytndcnnpbeefmoaa", sum := "1222a2878d1888904aafc95320046c2d8b6fbf321221751e763a6e114337b813", func := "loop.example/mediarelay/laws.FnExactHeadersBytes", spec := "fnExactHeadersBytes", apart := false }
def FnExactHeadersBytesSaid : Prop := fnExactHeadersBytesRow.holds Try.pinned (OpenSpec.ofChange fnExactHeadersBytesSpec)

/-- ITS FALSE NEIGHBOUR: 'it returns false'. Refute it at one input. -/
def fnExactHeadersBytesWrong : ChangeSpec := { name := "fnExactHeadersBytes", fn := fun _ => fun
  | [d] => { results := [.lit (.bool false)], args := [d] }
  | _ => none }
def FnExactHeadersBytesWrongFalsely : Prop := fnExactHeadersBytesRow.holds Try.pinned (OpenSpec.ofChange fnExactHeadersBytesWrong)

/- THE SECOND FORM. 'bulk': how many values and letters a reading holds, each counted each time it is reached (what is shared counts as often as it is met; a slice's spare places count too). A statement '..UptoSaid' is the law's where the arguments, and the package variables that the reading takes, are together of bulk at most 1048576: NARROWER than '..Said'. Prove '..Said' where nothing that the law and all that it calls make is longer than what came in: it says more and counts as full. Else prove '..UptoSaid'. A law counts once. -/
mutual
def uptoBulk {H : Type} : DataW H → Nat
  | .lit (.string bytes) => bytes.length + 1
  | .lit _ => 1
  | .nil => 1
  | .ptr d => uptoBulk d + 1
  | .slice elems spare => uptoBulkAll elems + uptoBulkAll spare + 1
  | .agg parts => uptoBulkAll parts + 1
  | .iface _ d => uptoBulk d + 1
  | .map entries => uptoBulkEntries entries + 1
  | .held _ => 1
def uptoBulkAll {H : Type} : List (DataW H) → Nat
  | [] => 0
  | d :: r => uptoBulk d + uptoBulkAll r
def uptoBulkEntries {H : Type} : List (Lit × DataW H) → Nat
  | [] => 0
  | x :: r => uptoBulkEntry x + uptoBulkEntries r
def uptoBulkEntry {H : Type} : Lit × DataW H → Nat
  | (.string bytes, d) => bytes.length + uptoBulk d + 1
  | (_, d) => uptoBulk d + 1
 end
def uptoSmall : (H : Type) → List (DataW H) → Bool := fun _ ds => decide (uptoBulkAll ds ≤ 1048576)
def OpenSpec.upto (s : _root_.Go.ChangeSpec) : _root_.Go.OpenSpec := { _root_.Go.OpenSpec.ofChange s with cond := some uptoSmall }

/-- 'laws.FnDemandsPart', WHERE WHAT IT READS IS OF BULK AT MOST 1048576: true; the input reads as it did. -/
def fnDemandsPartUptoRow : OpenClaim := { program := "ytndcnnpbeefmoaa", sum := "1222a2878d1888904aafc95320046c2d8b6fbf321221751e763a6e114337b813", func := "loop.example/mediarelay/laws.FnDemandsPart", spec := "fnDemandsPart", apart := false, narrowed := true }
def FnDemandsPartUptoSaid : Prop := fnDemandsPartUptoRow.holds Try.pinned (OpenSpec.upto fnDemandsPartSpec)

/-- 'laws.FnExactDemandsValid', WHERE WHAT IT READS IS OF BULK AT MOST 1048576: true; the input reads as it did. -/
def fnExactDemandsValidUptoRow : OpenClaim := { program := "ytndcnnpbeefmoaa", sum := "1222a2878d1888904aafc95320046c2d8b6fbf321221751e763a6e114337b813", func := "loop.example/mediarelay/laws.FnExactDemandsValid", spec := "fnExactDemandsValid", apart := false, narrowed := true }
def FnExactDemandsValidUptoSaid : Prop := fnExactDemandsValidUptoRow.holds Try.pinned (OpenSpec.upto fnExactDemandsValidSpec)

/-- 'laws.FnExactHeaderBytes', WHERE WHAT IT READS IS OF BULK AT MOST 1048576: true; the input reads as it did. -/
def fnExactHeaderBytesUptoRow : OpenClaim := { program := "ytndcnnpbeefmoaa", sum := "1222a2878d1888904aafc95320046c2d8b6fbf321221751e763a6e114337b813", func := "loop.example/mediarelay/laws.FnExactHeaderBytes", spec := "fnExactHeaderBytes", apart := false, narrowed := true }
def FnExactHeaderBytesUptoSaid : Prop := fnExactHeaderBytesUptoRow.holds Try.pinned (OpenSpec.upto fnExactHeaderBytesSpec)

/-- 'laws.FnHeaders', WHERE WHAT IT READS IS OF BULK AT MOST 1048576: true; the input reads as it did. -/
def fnHeadersUptoRow : OpenClaim := { program := "ytndcnnpbeefmoaa", sum := "1222a2878d1888904aafc95320046c2d8b6fbf321221751e763a6e114337b813", func := "loop.example/mediarelay/laws.FnHeaders", spec := "fnHeaders", apart := false, narrowed := true }
def FnHeadersUptoSaid : Prop := fnHeadersUptoRow.holds Try.pinned (OpenSpec.upto fnHeadersSpec)

/-- 'laws.FnExactHeadersBytes', WHERE WHAT IT READS IS OF BULK AT MOST 1048576: true; the input reads as it did. -/
def fnExactHeadersBytesUptoRow : OpenClaim := { program := "ytndcnnpbeefmoaa", sum := "1222a2878d1888904aafc95320046c2d8b6fbf321221751e763a6e114337b813", func := "loop.example/mediarelay/laws.FnExactHeadersBytes", spec := "fnExactHeadersBytes", apart := false, narrowed := true }
def FnExactHeadersBytesUptoSaid : Prop := fnExactHeadersBytesUptoRow.holds Try.pinned (OpenSpec.upto fnExactHeadersBytesSpec)

end Rows
end Go.Proofs.Ytndcnnpbeefmoaa
