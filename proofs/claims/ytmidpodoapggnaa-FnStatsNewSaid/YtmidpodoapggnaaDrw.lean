/- The draws of the laws on serial numbers and clocks. -/
import Derived.Test.YtmidpodoapggnaaDraw
namespace Go.Proofs.Ytmidpodoapggnaa
open Go Go.RowKit
set_option linter.unusedVariables false
set_option linter.unusedSimpArgs false

theorem w64_in (x : Int) : In64 (wrap64 x) := by unfold In64 wrap64; omega
/-- What a draw leaves, whatever the numbers. -/
def Drawn1 (g k : Nat) (w : World) (e : Ending) (w' : World) : Prop := ∃ a : Int, e = .returned (.int .i64 a) ∧ RdLe w' g k ∧ Past g w.heap.size w w'
def Drawn2 (g k : Nat) (w : World) (e : Ending) (w' : World) : Prop := ∃ a b : Int, e = .returned (.tuple #[.int .i64 a, .int .i64 b]) ∧ RdLe w' g k ∧ Past g w.heap.size w w'
def Drawn3 (g k : Nat) (w : World) (e : Ending) (w' : World) : Prop := ∃ a b c : Int, e = .returned (.tuple #[.int .i64 a, .int .i64 b, .int .i64 c]) ∧ RdLe w' g k ∧ Past g w.heap.size w w'
def DrawnC (g k : Nat) (w : World) (e : Ending) (w' : World) : Prop := ∃ a b c : Int, e = .returned (.agg #[.int .i64 a, .int .i64 b, .int .i64 c]) ∧ RdLe w' g k ∧ Past g w.heap.size w w'
/-- What a draw of arguments leaves. -/
def Made2 (w : World) (e : Ending) (w' : World) : Prop := ∃ a b : Int, In64 b ∧ e = .returned (.tuple #[.int .i64 a, .int .i64 b]) ∧ Below w.heap.size w w'
def Made2' (w : World) (e : Ending) (w' : World) : Prop := ∃ a b : Int, e = .returned (.tuple #[.int .i64 a, .int .i64 b]) ∧ Below w.heap.size w w'
def Made3 (w : World) (e : Ending) (w' : World) : Prop := ∃ a b c : Int, e = .returned (.tuple #[.int .i64 a, .int .i64 b, .int .i64 c]) ∧ Below w.heap.size w w'
def Made4 (w : World) (e : Ending) (w' : World) : Prop := ∃ a b c d : Int, e = .returned (.tuple #[.int .i64 a, .int .i64 b, .int .i64 c, .int .i64 d]) ∧ Below w.heap.size w w'
def MadeC (w : World) (e : Ending) (w' : World) : Prop := ∃ a b c d : Int, e = .returned (.tuple #[.agg #[.int .i64 a, .int .i64 b, .int .i64 c], .int .i64 d]) ∧ Below w.heap.size w w'

end Go.Proofs.Ytmidpodoapggnaa
