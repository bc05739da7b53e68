/-
  No cell of these rows narrows 'for every input' (looked for: loops, veiled, ifaces, maps, wideKeys, modest, calm, conditions, laid).
  DERIVED. THE GIVEN ROWS OF THIS SEAT. 11 by the template 'for every input the law returns true; each argument reads behind the call as it read before'; 0 by the template 'total and deterministic' (their statements: YtmidpodoapggnaaTotals.lean).
  GIVEN WITH THE SEED: the statements are not yours to turn. If you find one false, say at which input.
  Laid BY PROGRAM, IN A SANDBOX (cutbox-rows.mjs): the forced cells as the released guide's own fill.sh prints them over the translation 9225f82130f29bdf… (all of the seat's roots in one cut). By AI agents, Wed Nov 11 2026. No macro, syntax, notation, axiom, sorry.
-/
import Derived.Test.YtmidpodoapggnaaChecked
import GoSem.Claim
import GoSem.ClaimJoined
import GoSem.ClaimMapViews
import Derived.JoinedTies
import Derived.KernelRfl
namespace Go.Proofs.Ytmidpodoapggnaa
/- THE CELL 'sum', in the pinned program and in every row, IS THE sha256 OF THE DUMP (.gsa) THAT YtmidpodoapggnaaProg.lean LOADS. Nothing in Lean hashes anything: it is a label: what it is worth is what the hold of that sum in a sandbox is worth. -/
noncomputable def Try.pinned : Pinned := { name := "ytmidpodoapggnaa", sum := "9225f82130f29bdf449fabc22d8bc989397d5cf04bcc78884da68bcd8c664205", checked := Try.checked }
namespace Rows
def none {H : Type} : Left H := { results := [], args := [] }

/-- 'laws.FnStatsNew': WHATEVER THE INPUT: true; the input reads as it did. -/
def fnStatsNewSpec : ChangeSpec := { name := "fnStatsNew", fn := fun _ => fun
  | [d] => { results := [.lit (.bool true)], args := [d] }
  | _ => none }
def fnStatsNewRow : OpenClaim := { program := "ytmidpodoapggnaa", sum := "9225f82130f29bdf449fabc22d8bc989397d5cf04bcc78884da68bcd8c664205", func := "loop.example/mediarelay/laws.FnStatsNew", spec := "fnStatsNew", apart := false }
def FnStatsNewSaid : Prop := fnStatsNewRow.holds Try.pinned (OpenSpec.ofChange fnStatsNewSpec)

/-- ITS FALSE NEIGHBOUR: 'it returns false'. Refute it at one input. -/
def fnStatsNewWrong : ChangeSpec := { name := "fnStatsNew", fn := fun _ => fun
  | [d] => { results := [.lit (.bool false)], args := [d] }
  | _ => none }
def FnStatsNewWrongFalsely : Prop := fnStatsNewRow.holds Try.pinned (OpenSpec.ofChange fnStatsNewWrong)

/-- 'laws.FnSpeak': WHATEVER THE INPUT: true; the input reads as it did. -/
def fnSpeakSpec : ChangeSpec := { name := "fnSpeak", fn := fun _ => fun
  | [d] => { results := [.lit (.bool true)], args := [d] }
  | _ => none }
def fnSpeakRow : OpenClaim := { program := "ytmidpodoapggnaa", sum := "9225f82130f29bdf449fabc22d8bc989397d5cf04bcc78884da68bcd8c664205", func := "loop.example/mediarelay/laws.FnSpeak", spec := "fnSpeak", apart := false }
def FnSpeakSaid : Prop := fnSpeakRow.holds Try.pinned (OpenSpec.ofChange fnSpeakSpec)

/-- ITS FALSE NEIGHBOUR: 'it returns false'. Refute it at one input. -/
def fnSpeakWrong : ChangeSpec := { name := "fnSpeak", fn := fun _ => fun
  | [d] => { results := [.lit (.bool false)], args := [d] }
  | _ => none }
def FnSpeakWrongFalsely : Prop := fnSpeakRow.holds Try.pinned (OpenSpec.ofChange fnSpeakWrong)

/-- 'laws.FnSpeakFirst': WHATEVER THE INPUT: true; the input reads as it did. -/
def fnSpeakFirstSpec : ChangeSpec := { name := "fnSpeakFirst", fn := fun _ => fun
  | [d] => { results := [.lit (.bool true)], args := [d] }
  | _ => none }
def fnSpeakFirstRow : OpenClaim := { program := "ytmidpodoapggnaa", sum := "9225f82130f29bdf449fabc22d8bc989397d5cf04bcc78884da68bcd8c664205", func := "loop.example/mediarelay/laws.FnSpeakFirst", spec := "fnSpeakFirst", apart := false }
def FnSpeakFirstSaid : Prop := fnSpeakFirstRow.holds Try.pinned (OpenSpec.ofChange fnSpeakFirstSpec)

/-- ITS FALSE NEIGHBOUR: 'it returns false'. Refute it at one input. -/
def fnSpeakFirstWrong : ChangeSpec := { name := "fnSpeakFirst", fn := fun _ => fun
  | [d] => { results := [.lit (.bool false)], args := [d] }
  | _ => none }
def FnSpeakFirstWrongFalsely : Prop := fnSpeakFirstRow.holds Try.pinned (OpenSpec.ofChange fnSpeakFirstWrong)

/-- 'laws.FnSpeakLong': WHATEVER THE INPUT: true; the input reads as it did. -/
def fnSpeakLongSpec : ChangeSpec := { name := "fnSpeakLong", fn := fun _ => fun
  | [d] => { results := [.lit (.bool true)], args := [d] }
  | _ => none }
def fnSpeakLongRow : OpenClaim := { program := "ytmidpodoapggnaa", sum := "9225f82130f29bdf449fabc22d8bc989397d5cf04bcc78884da68bcd8c664205", func := "loop.example/mediarelay/laws.FnSpeakLong", spec := "fnSpeakLong", apart := false }
def FnSpeakLongSaid : Prop := fnSpeakLongRow.holds Try.pinned (OpenSpec.ofChange fnSpeakLongSpec)

/-- ITS FALSE NEIGHBOUR: 'it returns false'. Refute it at one input. -/
def fnSpeakLongWrong : ChangeSpec := { name := "fnSpeakLong", fn := fun _ => fun
  | [d] => { results := [.lit (.bool false)], args := [d] }
  | _ => none }
def FnSpeakLongWrongFalsely : Prop := fnSpeakLongRow.holds Try.pinned (OpenSpec.ofChange fnSpeakLongWrong)

/-- 'laws.FnSpeakNext': WHATEVER THE INPUT: true; the input reads as it did. -/
def fnSpeakNextSpec : ChangeSpec := { name := "fnSpeakNext", fn := fun _ => fun
  | [d] => { results := [.lit (.bool true)], args := [d] }
  | _ => none }
def fnSpeakNextRow : OpenClaim := { program := "ytmidpodoapggnaa", sum := "9225f82130f29bdf449fabc22d8bc989397d5cf04bcc78884da68bcd8c664205", func := "loop.example/mediarelay/laws.FnSpeakNext", spec := "fnSpeakNext", apart := false }
def FnSpeakNextSaid : Prop := fnSpeakNextRow.holds Try.pinned (OpenSpec.ofChange fnSpeakNextSpec)

/-- ITS FALSE NEIGHBOUR: 'it returns false'. Refute it at one input. -/
def fnSpeakNextWrong : ChangeSpec := { name := "fnSpeakNext", fn := fun _ => fun
  | [d] => { results := [.lit (.bool false)], args := [d] }
  | _ => none }
def FnSpeakNextWrongFalsely : Prop := fnSpeakNextRow.holds Try.pinned (OpenSpec.ofChange fnSpeakNextWrong)

/-- 'laws.FnSpeakStay': WHATEVER THE INPUT: true; the input reads as it did. -/
def fnSpeakStaySpec : ChangeSpec := { name := "fnSpeakStay", fn := fun _ => fun
  | [d] => { results := [.lit (.bool true)], args := [d] }
  | _ => none }
def fnSpeakStayRow : OpenClaim := { program := "ytmidpodoapggnaa", sum := "9225f82130f29bdf449fabc22d8bc989397d5cf04bcc78884da68bcd8c664205", func := "loop.example/mediarelay/laws.FnSpeakStay", spec := "fnSpeakStay", apart := false }
def FnSpeakStaySaid : Prop := fnSpeakStayRow.holds Try.pinned (OpenSpec.ofChange fnSpeakStaySpec)

/-- ITS FALSE NEIGHBOUR: 'it returns false'. Refute it at one input. -/
def fnSpeakStayWrong : ChangeSpec := { name := "fnSpeakStay", fn := fun _ => fun
  | [d] => { results := [.lit (.bool false)], args := [d] }
  | _ => none }
def FnSpeakStayWrongFalsely : Prop := fnSpeakStayRow.holds Try.pinned (OpenSpec.ofChange fnSpeakStayWrong)

/-- 'laws.FnSpeakRun': WHATEVER THE INPUT: true; the input reads as it did. -/
def fnSpeakRunSpec : ChangeSpec := { name := "fnSpeakRun", fn := fun _ => fun
  | [d] => { results := [.lit (.bool true)], args := [d] }
  | _ => none }
def fnSpeakRunRow : OpenClaim := { program := "ytmidpodoapggnaa", sum := "9225f82130f29bdf449fabc22d8bc989397d5cf04bcc78884da68bcd8c664205", func := "loop.example/mediarelay/laws.FnSpeakRun", spec := "fnSpeakRun", apart := false }
def FnSpeakRunSaid : Prop := fnSpeakRunRow.holds Try.pinned (OpenSpec.ofChange fnSpeakRunSpec)

/-- ITS FALSE NEIGHBOUR: 'it returns false'. Refute it at one input. -/
def fnSpeakRunWrong : ChangeSpec := { name := "fnSpeakRun", fn := fun _ => fun
  | [d] => { results := [.lit (.bool false)], args := [d] }
  | _ => none }
def FnSpeakRunWrongFalsely : Prop := fnSpeakRunRow.holds Try.pinned (OpenSpec.ofChange fnSpeakRunWrong)

/-- 'laws.FnExactSpeakerRun': WHATEVER THE INPUT: true; the input reads as it did. -/
def fnExactSpeakerRunSpec : ChangeSpec := { name := "fnExactSpeakerRun", fn := fun _ => fun
  | [d] => { results := [.lit (.bool true)], args := [d] }
  | _ => none }
def fnExactSpeakerRunRow : OpenClaim := { program := "ytmidpodoapggnaa", sum := "9225f82130f29bdf449fabc22d8bc989397d5cf04bcc78884da68bcd8c664205", func := "loop.example/mediarelay/laws.FnExactSpeakerRun", spec := "fnExactSpeakerRun", apart := false }
def FnExactSpeakerRunSaid : Prop := fnExactSpeakerRunRow.holds Try.pinned (OpenSpec.ofChange fnExactSpeakerRunSpec)

/-- ITS FALSE NEIGHBOUR: 'it returns false'. Refute it at one input. -/
def fnExactSpeakerRunWrong : ChangeSpec := { name := "fnExactSpeakerRun", fn := fun _ => fun
  | [d] => { results := [.lit (.bool false)], args := [d] }
  | _ => none }
def FnExactSpeakerRunWrongFalsely : Prop := fnExactSpeakerRunRow.holds Try.pinned (OpenSpec.ofChange fnExactSpeakerRunWrong)

/-- 'laws.FnDemandsPart': WHATEVER THE INPUT: true; the input reads as it did. -/
def fnDemandsPartSpec : ChangeSpec := { name := "fnDemandsPart", fn := fun _ => fun
  | [d1, d2] => { results := [.lit (.bool true)], args := [d1, d2] }
  | _ => none }
def fnDemandsPartRow : OpenClaim := { program := "ytmidpodoapggnaa", sum := "9225f82130f29bdf449fabc22d8bc989397d5cf04bcc78884da68bcd8c664205", func := "loop.example/mediarelay/laws.FnDemandsPart", spec := "fnDemandsPart", apart := false }
def FnDemandsPartSaid : Prop := fnDemandsPartRow.holds Try.pinned (OpenSpec.ofChange fnDemandsPartSpec)

/-- ITS FALSE NEIGHBOUR: 'it returns false'. Refute it at one input. -/
def fnDemandsPartWrong : ChangeSpec := { name := "fnDemandsPart", fn := fun _ => fun
  | [d1, d2] => { results := [.lit (.bool false)], args := [d1, d2] }
  | _ => none }
def FnDemandsPartWrongFalsely : Prop := fnDemandsPartRow.holds Try.pinned (OpenSpec.ofChange fnDemandsPartWrong)

/-- 'laws.FnHeaders': WHATEVER THE INPUT: true; the input reads as it did. -/
def fnHeadersSpec : ChangeSpec := { name := "fnHeaders", fn := fun _ => fun
  | [d] => { results := [.lit (.bool true)], args := [d] }
  | _ => none }
def fnHeadersRow : OpenClaim := { program := "ytmidpodoapggnaa", sum := "9225f82130f29bdf449fabc22d8bc989397d5cf04bcc78884da68bcd8c664205", func := "loop.example/mediarelay/laws.FnHeaders", spec := "fnHeaders", apart := false }
def FnHeadersSaid : Prop := fnHeadersRow.holds Try.pinned (OpenSpec.ofChange fnHeadersSpec)

/-- ITS FALSE NEIGHBOUR: 'it returns false'. Refute it at one input. -/
def fnHeadersWrong : ChangeSpec := { name := "fnHeaders", fn := fun _ => fun
  | [d] => { results := [.lit (.bool false)], args := [d] }
  | _ => none }
def FnHeadersWrongFalsely : Prop := fnHeadersRow.holds Try.pinned (OpenSpec.ofChange fnHeadersWrong)

/-- 'laws.FnExactHeadersBytes': WHATEVER THE INPUT: true; the input reads as it did. -/
def fnExactHeadersBytesSpec : ChangeSpec := { name := "fnExactHeadersBytes", fn := fun _ => fun
  | [d] => { results := [.lit (.bool true)], args := [d] }
  | _ => none }
def fnExactHeadersBytesRow : OpenClaim := { program := "ytmidpodoapggnaa", sum := "9225f82130f29bdf449fabc22d8bc989397d5cf04bcc78884da68bcd8c664205", func := "loop.example/mediarelay/laws.FnExactHeadersBytes", spec := "fnExactHeadersBytes", apart := false }
def FnExactHeadersBytesSaid : Prop := fnExactHeadersBytesRow.holds Try.pinned (OpenSpec.ofChange fnExactHeadersBytesSpec)

/-- ITS FALSE NEIGHBOUR: 'it returns false'. Refute it at one input. -/
def fnExactHeadersBytesWrong : ChangeSpec := { name := "fnExactHeadersBytes", fn := fun _ => fun
  | [d] => { results := [.lit (.bool false)], args := [d] }
  | _ => none }
def FnExactHeadersBytesWrongFalsely : Prop := fnExactHeadersBytesRow.holds Try.pinned (OpenSpec.ofChange fnExactHeadersBytesWrong)

/- THE SECOND FORM. 'bulk': how many values and letters a reading holds, each counted each time it is reached (what is shared counts as often as it is met; a slice's spare places count too). A statement '..UptoSaid' is the law's where the arguments, and the package variables that the reading takes, are together of bulk at most 1048576: NARROWER than '..Said'. Prove '..Said' where nothing that the law and all that it calls make is longer than what came in: it says more and counts as full. Else prove '..UptoSaid'. A law counts once. -/
mutual
def uptoBulk {H : Type} : DataW H → Nat
  | .lit (.string bytes) => bytes.length + 1
  | .lit _ => 1
  | .nil => 1
  | .ptr d => uptoBulk d + 1
  | .slice elems spare => uptoBulkAll elems + uptoBulkAll spare + 1
  | .agg parts => uptoBulkAll parts + 1
  | .iface _ d => uptoBulk d + 1
  | .map entries => uptoBulkEntries entries + 1
  | .held _ => 1
def uptoBulkAll {H : Type} : List (DataW H) → Nat
  | [] => 0
  | d :: r => uptoBulk d + uptoBulkAll r
def uptoBulkEntries {H : Type} : List (Lit × DataW H) → Nat
  | [] => 0
  | x :: r => uptoBulkEntry x + uptoBulkEntries r
def uptoBulkEntry {H : Type} : Lit × DataW H → Nat
  | (.string bytes, d) => bytes.length + uptoBulk d + 1
  | (_, d) => uptoBulk d + 1
 end
def uptoSmall : (H : Type) → List (DataW H) → Bool := fun _ ds => decide (uptoBulkAll ds ≤ 1048576)
def OpenSpec.upto (s : _root_.Go.ChangeSpec) : _root_.Go.OpenSpec := { _root_.Go.OpenSpec.ofChange s with cond := some uptoSmall }

/-- 'laws.FnStatsNew', WHERE WHAT IT READS IS OF BULK AT MOST 1048576: true; the input reads as it did. -/
def fnStatsNewUptoRow : OpenClaim := { program := "ytmidpodoapggnaa", sum := "9225f82130f29bdf449fabc22d8bc989397d5cf04bcc78884da68bcd8c664205", func := "loop.example/mediarelay/laws.FnStatsNew", spec := "fnStatsNew", apart := false, narrowed := true }
def FnStatsNewUptoSaid : Prop := fnStatsNewUptoRow.holds Try.pinned (OpenSpec.upto fnStatsNewSpec)

/-- 'laws.FnSpeak', WHERE WHAT IT READS IS OF BULK AT MOST 1048576: true; the input reads as it did. -/
def fnSpeakUptoRow : OpenClaim := { program := "ytmidpodoapggnaa", sum := "9225f82130f29bdf449fabc22d8bc989397d5cf04bcc78884da68bcd8c664205", func := "loop.example/mediarelay/laws.FnSpeak", spec := "fnSpeak", apart := false, narrowed := true }
def FnSpeakUptoSaid : Prop := fnSpeakUptoRow.holds Try.pinned (OpenSpec.upto fnSpeakSpec)

/-- 'laws.FnSpeakFirst', WHERE WHAT IT READS IS OF BULK AT MOST 1048576: true; the input reads as it did. -/
def fnSpeakFirstUptoRow : OpenClaim := { program := "ytmidpodoapggnaa", sum := "9225f82130f29bdf449fabc22d8bc989397d5cf04bcc78884da68bcd8c664205", func := "loop.example/mediarelay/laws.FnSpeakFirst", spec := "fnSpeakFirst", apart := false, narrowed := true }
def FnSpeakFirstUptoSaid : Prop := fnSpeakFirstUptoRow.holds Try.pinned (OpenSpec.upto fnSpeakFirstSpec)

/-- 'laws.FnSpeakLong', WHERE WHAT IT READS IS OF BULK AT MOST 1048576: true; the input reads as it did. -/
def fnSpeakLongUptoRow : OpenClaim := { program := "ytmidpodoapggnaa", sum := "9225f82130f29bdf449fabc22d8bc989397d5cf04bcc78884da68bcd8c664205", func := "loop.example/mediarelay/laws.FnSpeakLong", spec := "fnSpeakLong", apart := false, narrowed := true }
def FnSpeakLongUptoSaid : Prop := fnSpeakLongUptoRow.holds Try.pinned (OpenSpec.upto fnSpeakLongSpec)

/-- 'laws.FnSpeakNext', WHERE WHAT IT READS IS OF BULK AT MOST 1048576: true; the input reads as it did. -/
def fnSpeakNextUptoRow : OpenClaim := { program := "ytmidpodoapggnaa", sum := "9225f82130f29bdf449fabc22d8bc989397d5cf04bcc78884da68bcd8c664205", func := "loop.example/mediarelay/laws.FnSpeakNext", spec := "fnSpeakNext", apart := false, narrowed := true }
def FnSpeakNextUptoSaid : Prop := fnSpeakNextUptoRow.holds Try.pinned (OpenSpec.upto fnSpeakNextSpec)

/-- 'laws.FnSpeakStay', WHERE WHAT IT READS IS OF BULK AT MOST 1048576: true; the input reads as it did. -/
def fnSpeakStayUptoRow : OpenClaim := { program := "ytmidpodoapggnaa", sum := "9225f82130f29bdf449fabc22d8bc989397d5cf04bcc78884da68bcd8c664205", func := "loop.example/mediarelay/laws.FnSpeakStay", spec := "fnSpeakStay", apart := false, narrowed := true }
def FnSpeakStayUptoSaid : Prop := fnSpeakStayUptoRow.holds Try.pinned (OpenSpec.upto fnSpeakStaySpec)

/-- 'laws.FnSpeakRun', WHERE WHAT IT READS IS OF BULK AT MOST 1048576: true; the input reads as it did. -/
def fnSpeakRunUptoRow : OpenClaim := { program := "ytmidpodoapggnaa", sum := "9225f82130f29bdf449fabc22d8bc989397d5cf04bcc78884da68bcd8c664205", func := "loop.example/mediarelay/laws.FnSpeakRun", spec := "fnSpeakRun", apart := false, narrowed := true }
def FnSpeakRunUptoSaid : Prop := fnSpeakRunUptoRow.holds Try.pinned (OpenSpec.upto fnSpeakRunSpec)

/-- 'laws.FnExactSpeakerRun', WHERE WHAT IT READS IS OF BULK AT MOST 1048576: true; the input reads as it did. -/
def fnExactSpeakerRunUptoRow : OpenClaim := { program := "ytmidpodoapggnaa", sum := "9225f82130f29bdf449fabc22d8bc989397d5cf04bcc78884da68bcd8c664205", func := "loop.example/mediarelay/laws.FnExactSpeakerRun", spec := "fnExactSpeakerRun", apart := false, narrowed := true }
def FnExactSpeakerRunUptoSaid : Prop := fnExactSpeakerRunUptoRow.holds Try.pinned (OpenSpec.upto fnExactSpeakerRunSpec)

/-- 'laws.FnDemandsPart', WHERE WHAT IT READS IS OF BULK AT MOST 1048576: true; the input reads as it did. -/
def fnDemandsPartUptoRow : OpenClaim := { program := "ytmidpodoapggnaa", sum := "9225f82130f29bdf449fabc22d8bc989397d5cf04bcc78884da68bcd8c664205", func := "loop.example/mediarelay/laws.FnDemandsPart", spec := "fnDemandsPart", apart := false, narrowed := true }
def FnDemandsPartUptoSaid : Prop := fnDemandsPartUptoRow.holds Try.pinned (OpenSpec.upto fnDemandsPartSpec)

/-- 'laws.FnHeaders', WHERE WHAT IT READS IS OF BULK AT MOST 1048576: true; the input reads as it did. -/
def fnHeadersUptoRow : OpenClaim := { program := "ytmidpodoapggnaa", sum := "9225f82130f29bdf449fabc22d8bc989397d5cf04bcc78884da68bcd8c664205", func := "loop.example/mediarelay/laws.FnHeaders", spec := "fnHeaders", apart := false, narrowed := true }
def FnHeadersUptoSaid : Prop := fnHeadersUptoRow.holds Try.pinned (OpenSpec.upto fnHeadersSpec)

/-- 'laws.FnExactHeadersBytes', WHERE WHAT IT READS IS OF BULK AT MOST 1048576: true; the input reads as it did. -/
def fnExactHeadersBytesUptoRow : OpenClaim := { program := "ytmidpodoapggnaa", sum := "9225f82130f29bdf449fabc22d8bc989397d5cf04bcc78884da68bcd8c664205", func := "loop.example/mediarelay/laws.FnExactHeadersBytes", spec := "fnExactHeadersBytes", apart := false, narrowed := true }
def FnExactHeadersBytesUptoSaid : Prop := fnExactHeadersBytesUptoRow.holds Try.pinned (OpenSpec.upto fnExactHeadersBytesSpec)

end Rows
end Go.Proofs.Ytmidpodoapggnaa
