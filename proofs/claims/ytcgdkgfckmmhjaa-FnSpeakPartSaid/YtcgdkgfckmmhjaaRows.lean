/-
  No cell of these rows narrows 'for every input' (looked for: loops, veiled, ifaces, maps, wideKeys, modest, calm, conditions, laid).
  DERIVED. THE GIVEN ROWS OF THIS SEAT. 9 by the template 'for every input the law returns true; each argument reads behind the call as it read before'; 0 by the template 'total and deterministic' (their statements: YtcgdkgfckmmhjaaTotals.lean).
  GIVEN WITH THE SEED: the statements are not yours to turn. If you find one false, say at which input.
  Laid BY PROGRAM, IN A SANDBOX (cutbox-rows.mjs): the forced cells as the released guide's own fill.sh prints them over the translation 6c11bd84c5a367bd… (all of the seat's roots in one cut). By AI agents, Wed Nov 11 2026. No macro, syntax, notation, axiom, sorry.
-/
import Derived.Test.YtcgdkgfckmmhjaaChecked
import GoSem.Claim
import GoSem.ClaimJoined
import GoSem.ClaimMapViews
import Derived.JoinedTies
import Derived.KernelRfl
namespace Go.Proofs.Ytcgdkgfckmmhjaa
/- THE CELL 'sum', in the pinned program and in every row, IS THE sha256 OF THE DUMP (.gsa) THAT YtcgdkgfckmmhjaaProg.lean LOADS. Nothing in Lean hashes anything: it is a label: what it is worth is what the hold of that sum in a sandbox is worth. -/
noncomputable def Try.pinned : Pinned := { name := "ytcgdkgfckmmhjaa", sum := "6c11bd84c5a367bd565493ac74ebbce4b495425081d2d85839be3ed02aa912f3", checked := Try.checked }
namespace Rows
def none {H : Type} : Left H := { results := [], args := [] }

/-- 'laws.FnSpeakPart': WHATEVER THE INPUT: true; the input reads as it did. -/
def fnSpeakPartSpec : ChangeSpec := { name := "fnSpeakPart", fn := fun _ => fun
  | [d] => { results := [.lit (.bool true)], args := [d] }
  | _ => none }
def fnSpeakPartRow : OpenClaim := { program := "ytcgdkgfckmmhjaa", sum := "6c11bd84c5a367bd565493ac74ebbce4b495425081d2d85839be3ed02aa912f3", func := "loop.example/mediarelay/laws.FnSpeakPart", spec := "fnSpeakPart", apart := false }
def FnSpeakPartSaid : Prop := fnSpeakPartRow.holds Try.pinned (OpenSpec.ofChange fnSpeakPartSpec)

/-- ITS FALSE NEIGHBOUR: 'it returns false'. Refute it at one input. -/
def fnSpeakPartWrong : ChangeSpec := { name := "fnSpeakPart", fn := fun _ => fun
  | [d] => { results := [.lit (.bool false)], args := [d] }
  | _ => none }
def FnSpeakPartWrongFalsely : Prop := fnSpeakPartRow.holds Try.pinned (OpenSpec.ofChange fnSpeakPartWrong)

/-- 'laws.FnExactSpeakerStep': WHATEVER THE INPUT: true; the input reads as it did. -/
def fnExactSpeakerStepSpec : ChangeSpec := { name := "fnExactSpeakerStep", fn := fun _ => fun
  | [d1, d2] => { results := [.lit (.bool true)], args := [d1, d2] }
  | _ => none }
def fnExactSpeakerStepRow : OpenClaim := { program := "ytcgdkgfckmmhjaa", sum := "6c11bd84c5a367bd565493ac74ebbce4b495425081d2d85839be3ed02aa912f3", func := "loop.example/mediarelay/laws.FnExactSpeakerStep", spec := "fnExactSpeakerStep", apart := false }
def FnExactSpeakerStepSaid : Prop := fnExactSpeakerStepRow.holds Try.pinned (OpenSpec.ofChange fnExactSpeakerStepSpec)

/-- ITS FALSE NEIGHBOUR: 'it returns false'. Refute it at one input. -/
def fnExactSpeakerStepWrong : ChangeSpec := { name := "fnExactSpeakerStep", fn := fun _ => fun
  | [d1, d2] => { results := [.lit (.bool false)], args := [d1, d2] }
  | _ => none }
def FnExactSpeakerStepWrongFalsely : Prop := fnExactSpeakerStepRow.holds Try.pinned (OpenSpec.ofChange fnExactSpeakerStepWrong)

/-- 'laws.FnSpeak': WHATEVER THE INPUT: true; the input reads as it did. -/
def fnSpeakSpec : ChangeSpec := { name := "fnSpeak", fn := fun _ => fun
  | [d] => { results := [.lit (.bool true)], args := [d] }
  | _ => none }
def fnSpeakRow : OpenClaim := { program := "ytcgdkgfckmmhjaa", sum := "6c11bd84c5a367bd565493ac74ebbce4b495425081d2d85839be3ed02aa912f3", func := "loop.example/mediarelay/laws.FnSpeak", spec := "fnSpeak", apart := false }
def FnSpeakSaid : Prop := fnSpeakRow.holds Try.pinned (OpenSpec.ofChange fnSpeakSpec)

/-- ITS FALSE NEIGHBOUR: 'it returns false'. Refute it at one input. -/
def fnSpeakWrong : ChangeSpec := { name := "fnSpeak", fn := fun _ => fun
  | [d] => { results := [.lit (.bool false)], args := [d] }
  | _ => none }
def FnSpeakWrongFalsely : Prop := fnSpeakRow.holds Try.pinned (OpenSpec.ofChange fnSpeakWrong)

/-- 'laws.FnSpeakFirst': WHATEVER THE INPUT: true; the input reads as it did. -/
def fnSpeakFirstSpec : ChangeSpec := { name := "fnSpeakFirst", fn := fun _ => fun
  | [d] => { results := [.lit (.bool true)], args := [d] }
  | _ => none }
def fnSpeakFirstRow : OpenClaim := { program := "ytcgdkgfckmmhjaa", sum := "6c11bd84c5a367bd565493ac74ebbce4b495425081d2d85839be3ed02aa912f3", func := "loop.example/mediarelay/laws.FnSpeakFirst", spec := "fnSpeakFirst", apart := false }
def FnSpeakFirstSaid : Prop := fnSpeakFirstRow.holds Try.pinned (OpenSpec.ofChange fnSpeakFirstSpec)

/-- ITS FALSE NEIGHBOUR: 'it returns false'. Refute it at one input. -/
def fnSpeakFirstWrong : ChangeSpec := { name := "fnSpeakFirst", fn := fun _ => fun
  | [d] => { results := [.lit (.bool false)], args := [d] }
  | _ => none }
def FnSpeakFirstWrongFalsely : Prop := fnSpeakFirstRow.holds Try.pinned (OpenSpec.ofChange fnSpeakFirstWrong)

/-- 'laws.FnSpeakLong': WHATEVER THE INPUT: true; the input reads as it did. -/
def fnSpeakLongSpec : ChangeSpec := { name := "fnSpeakLong", fn := fun _ => fun
  | [d] => { results := [.lit (.bool true)], args := [d] }
  | _ => none }
def fnSpeakLongRow : OpenClaim := { program := "ytcgdkgfckmmhjaa", sum := "6c11bd84c5a367bd565493ac74ebbce4b495425081d2d85839be3ed02aa912f3", func := "loop.example/mediarelay/laws.FnSpeakLong", spec := "fnSpeakLong", apart := false }
def FnSpeakLongSaid : Prop := fnSpeakLongRow.holds Try.pinned (OpenSpec.ofChange fnSpeakLongSpec)

/-- ITS FALSE NEIGHBOUR: 'it returns false'. Refute it at one input. -/
def fnSpeakLongWrong : ChangeSpec := { name := "fnSpeakLong", fn := fun _ => fun
  | [d] => { results := [.lit (.bool false)], args := [d] }
  | _ => none }
def FnSpeakLongWrongFalsely : Prop := fnSpeakLongRow.holds Try.pinned (OpenSpec.ofChange fnSpeakLongWrong)

/-- 'laws.FnSpeakNext': WHATEVER THE INPUT: true; the input reads as it did. -/
def fnSpeakNextSpec : ChangeSpec := { name := "fnSpeakNext", fn := fun _ => fun
  | [d] => { results := [.lit (.bool true)], args := [d] }
  | _ => none }
def fnSpeakNextRow : OpenClaim := { program := "ytcgdkgfckmmhjaa", sum := "6c11bd84c5a367bd565493ac74ebbce4b495425081d2d85839be3ed02aa912f3", func := "loop.example/mediarelay/laws.FnSpeakNext", spec := "fnSpeakNext", apart := false }
def FnSpeakNextSaid : Prop := fnSpeakNextRow.holds Try.pinned (OpenSpec.ofChange fnSpeakNextSpec)

/-- ITS FALSE NEIGHBOUR: 'it returns false'. Refute it at one input. -/
def fnSpeakNextWrong : ChangeSpec := { name := "fnSpeakNext", fn := fun _ => fun
  | [d] => { results := [.lit (.bool false)], args := [d] }
  | _ => none }
def FnSpeakNextWrongFalsely : Prop := fnSpeakNextRow.holds Try.pinned (OpenSpec.ofChange fnSpeakNextWrong)

/-- 'laws.FnSpeakStay': WHATEVER THE INPUT: true; the input reads as it did. -/
def fnSpeakStaySpec : ChangeSpec := { name := "fnSpeakStay", fn := fun _ => fun
  | [d] => { results := [.lit (.bool true)], args := [d] }
  | _ => none }
def fnSpeakStayRow : OpenClaim := { program := "ytcgdkgfckmmhjaa", sum := "6c11bd84c5a367bd565493ac74ebbce4b495425081d2d85839be3ed02aa912f3", func := "loop.example/mediarelay/laws.FnSpeakStay", spec := "fnSpeakStay", apart := false }
def FnSpeakStaySaid : Prop := fnSpeakStayRow.holds Try.pinned (OpenSpec.ofChange fnSpeakStaySpec)

/-- ITS FALSE NEIGHBOUR: 'it returns false'. Refute it at one input. -/
def fnSpeakStayWrong : ChangeSpec := { name := "fnSpeakStay", fn := fun _ => fun
  | [d] => { results := [.lit (.bool false)], args := [d] }
  | _ => none }
def FnSpeakStayWrongFalsely : Prop := fnSpeakStayRow.holds Try.pinned (OpenSpec.ofChange fnSpeakStayWrong)

/-- 'laws.FnSpeakRun': WHATEVER THE INPUT: true; the input reads as it did. -/
def fnSpeakRunSpec : ChangeSpec := { name := "fnSpeakRun", fn := fun _ => fun
  | [d] => { results := [.lit (.bool true)], args := [d] }
  | _ => none }
def fnSpeakRunRow : OpenClaim := { program := "ytcgdkgfckmmhjaa", sum := "6c11bd84c5a367bd565493ac74ebbce4b495425081d2d85839be3ed02aa912f3", func := "loop.example/mediarelay/laws.FnSpeakRun", spec := "fnSpeakRun", apart := false }
def FnSpeakRunSaid : Prop := fnSpeakRunRow.holds Try.pinned (OpenSpec.ofChange fnSpeakRunSpec)

/-- ITS FALSE NEIGHBOUR: 'it returns false'. Refute it at one input. -/
def fnSpeakRunWrong : ChangeSpec := { name := "fnSpeakRun", fn := fun _ => fun
  | [d] => { results := [.lit (.bool false)], args := [d] }
  | _ => none }
def FnSpeakRunWrongFalsely : Prop := fnSpeakRunRow.holds Try.pinned (OpenSpec.ofChange fnSpeakRunWrong)

/-- 'laws.FnExactSpeakerRun': WHATEVER THE INPUT: true; the input reads as it did. -/
def fnExactSpeakerRunSpec : ChangeSpec := { name := "fnExactSpeakerRun", fn := fun _ => fun
  | [d] => { results := [.lit (.bool true)], args := [d] }
  | _ => none }
def fnExactSpeakerRunRow : OpenClaim := { program := "ytcgdkgfckmmhjaa", sum := "6c11bd84c5a367bd565493ac74ebbce4b495425081d2d85839be3ed02aa912f3", func := "loop.example/mediarelay/laws.FnExactSpeakerRun", spec := "fnExactSpeakerRun", apart := false }
def FnExactSpeakerRunSaid : Prop := fnExactSpeakerRunRow.holds Try.pinned (OpenSpec.ofChange fnExactSpeakerRunSpec)

/-- ITS FALSE NEIGHBOUR: 'it returns false'. Refute it at one input. -/
def fnExactSpeakerRunWrong : ChangeSpec := { name := "fnExactSpeakerRun", fn := fun _ => fun
  | [d] => { results := [.lit (.bool false)], args := [d] }
  | _ => none }
def FnExactSpeakerRunWrongFalsely : Prop := fnExactSpeakerRunRow.holds Try.pinned (OpenSpec.ofChange fnExactSpeakerRunWrong)

/- THE SECOND FORM. 'bulk': how many values and letters a reading holds, each counted each time it is reached (what is shared counts as often as it is met; a slice's spare places count too). A statement '..UptoSaid' is the law's where the arguments, and the package variables that the reading takes, are together of bulk at most 1048576: NARROWER than '..Said'. Prove '..Said' where nothing that the law and all that it calls make is longer than what came in: it says more and counts as full. Else prove '..UptoSaid'. A law counts once. -/
mutual
def uptoBulk {H : Type} : DataW H → Nat
  | .lit (.string bytes) => bytes.length + 1
  | .lit _ => 1
  | .nil => 1
  | .ptr d => uptoBulk d + 1
  | .slice elems spare => uptoBulkAll elems + uptoBulkAll spare + 1
  | .agg parts => uptoBulkAll parts + 1
  | .iface _ d => uptoBulk d + 1
  | .map entries => uptoBulkEntries entries + 1
  | .held _ => 1
def uptoBulkAll {H : Type} : List (DataW H) → Nat
  | [] => 0
  | d :: r => uptoBulk d + uptoBulkAll r
def uptoBulkEntries {H : Type} : List (Lit × DataW H) → Nat
  | [] => 0
  | x :: r => uptoBulkEntry x + uptoBulkEntries r
def uptoBulkEntry {H : Type} : Lit × DataW H → Nat
  | (.string bytes, d) => bytes.length + uptoBulk d + 1
  | (_, d) => uptoBulk d + 1
 end
def uptoSmall : (H : Type) → List (DataW H) → Bool := fun _ ds => decide (uptoBulkAll ds ≤ 1048576)
def OpenSpec.upto (s : _root_.Go.ChangeSpec) : _root_.Go.OpenSpec := { _root_.Go.OpenSpec.ofChange s with cond := some uptoSmall }

/-- 'laws.FnSpeakPart', WHERE WHAT IT READS IS OF BULK AT MOST 1048576: true; the input reads as it did. -/
def fnSpeakPartUptoRow : OpenClaim := { program := "ytcgdkgfckmmhjaa", sum := "6c11bd84c5a367bd565493ac74ebbce4b495425081d2d85839be3ed02aa912f3", func := "loop.example/mediarelay/laws.FnSpeakPart", spec := "fnSpeakPart", apart := false, narrowed := true }
def FnSpeakPartUptoSaid : Prop := fnSpeakPartUptoRow.holds Try.pinned (OpenSpec.upto fnSpeakPartSpec)

/-- 'laws.FnExactSpeakerStep', WHERE WHAT IT READS IS OF BULK AT MOST 1048576: true; the input reads as it did. -/
def fnExactSpeakerStepUptoRow : OpenClaim := { program := "ytcgdkgfckmmhjaa", sum := "6c11bd84c5a367bd565493ac74ebbce4b495425081d2d85839be3ed02aa912f3", func := "loop.example/mediarelay/laws.FnExactSpeakerStep", spec := "fnExactSpeakerStep", apart := false, narrowed := true }
def FnExactSpeakerStepUptoSaid : Prop := fnExactSpeakerStepUptoRow.holds Try.pinned (OpenSpec.upto fnExactSpeakerStepSpec)

/-- 'laws.FnSpeak', WHERE WHAT IT READS IS OF BULK AT MOST 1048576: true; the input reads as it did. -/
def fnSpeakUptoRow : OpenClaim := { program := "ytcgdkgfckmmhjaa", sum := "6c11bd84c5a367bd565493ac74ebbce4b495425081d2d85839be3ed02aa912f3", func := "loop.example/mediarelay/laws.FnSpeak", spec := "fnSpeak", apart := false, narrowed := true }
def FnSpeakUptoSaid : Prop := fnSpeakUptoRow.holds Try.pinned (OpenSpec.upto fnSpeakSpec)

/-- 'laws.FnSpeakFirst', WHERE WHAT IT READS IS OF BULK AT MOST 1048576: true; the input reads as it did. -/
def fnSpeakFirstUptoRow : OpenClaim := { program := "ytcgdkgfckmmhjaa", sum := "6c11bd84c5a367bd565493ac74ebbce4b495425081d2d85839be3ed02aa912f3", func := "loop.example/mediarelay/laws.FnSpeakFirst", spec := "fnSpeakFirst", apart := false, narrowed := true }
def FnSpeakFirstUptoSaid : Prop := fnSpeakFirstUptoRow.holds Try.pinned (OpenSpec.upto fnSpeakFirstSpec)

/-- 'laws.FnSpeakLong', WHERE WHAT IT READS IS OF BULK AT MOST 1048576: true; the input reads as it did. -/
def fnSpeakLongUptoRow : OpenClaim := { program := "ytcgdkgfckmmhjaa", sum := "6c11bd84c5a367bd565493ac74ebbce4b495425081d2d85839be3ed02aa912f3", func := "loop.example/mediarelay/laws.FnSpeakLong", spec := "fnSpeakLong", apart := false, narrowed := true }
def FnSpeakLongUptoSaid : Prop := fnSpeakLongUptoRow.holds Try.pinned (OpenSpec.upto fnSpeakLongSpec)

/-- 'laws.FnSpeakNext', WHERE WHAT IT READS IS OF BULK AT MOST 1048576: true; the input reads as it did. -/
def fnSpeakNextUptoRow : OpenClaim := { program := "ytcgdkgfckmmhjaa", sum := "6c11bd84c5a367bd565493ac74ebbce4b495425081d2d85839be3ed02aa912f3", func := "loop.example/mediarelay/laws.FnSpeakNext", spec := "fnSpeakNext", apart := false, narrowed := true }
def FnSpeakNextUptoSaid : Prop := fnSpeakNextUptoRow.holds Try.pinned (OpenSpec.upto fnSpeakNextSpec)

/-- 'laws.FnSpeakStay', WHERE WHAT IT READS IS OF BULK AT MOST 1048576: true; the input reads as it did. -/
def fnSpeakStayUptoRow : OpenClaim := { program := "ytcgdkgfckmmhjaa", sum := "6c11bd84c5a367bd565493ac74ebbce4b495425081d2d85839be3ed02aa912f3", func := "loop.example/mediarelay/laws.FnSpeakStay", spec := "fnSpeakStay", apart := false, narrowed := true }
def FnSpeakStayUptoSaid : Prop := fnSpeakStayUptoRow.holds Try.pinned (OpenSpec.upto fnSpeakStaySpec)

/-- 'laws.FnSpeakRun', WHERE WHAT IT READS IS OF BULK AT MOST 1048576: true; the input reads as it did. -/
def fnSpeakRunUptoRow : OpenClaim := { program := "ytcgdkgfckmmhjaa", sum := "6c11bd84c5a367bd565493ac74ebbce4b495425081d2d85839be3ed02aa912f3", func := "loop.example/mediarelay/laws.FnSpeakRun", spec := "fnSpeakRun", apart := false, narrowed := true }
def FnSpeakRunUptoSaid : Prop := fnSpeakRunUptoRow.holds Try.pinned (OpenSpec.upto fnSpeakRunSpec)

/-- 'laws.FnExactSpeakerRun', WHERE WHAT IT READS IS OF BULK AT MOST 1048576: true; the input reads as it did. -/
def fnExactSpeakerRunUptoRow : OpenClaim := { program := "ytcgdkgfckmmhjaa", sum := "6c11bd84c5a367bd565493ac74ebbce4b495425081d2d85839be3ed02aa912f3", func := "loop.example/mediarelay/laws.FnExactSpeakerRun", spec := "fnExactSpeakerRun", apart := false, narrowed := true }
def FnExactSpeakerRunUptoSaid : Prop := fnExactSpeakerRunUptoRow.holds Try.pinned (OpenSpec.upto fnExactSpeakerRunSpec)

end Rows
end Go.Proofs.Ytcgdkgfckmmhjaa
