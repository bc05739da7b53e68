/- The draws of the laws on speakers. -/
import Derived.Test.YtcdpalpoanlbmaaAny
import Derived.Test.YtcdpalpoanlbmaaInts
import Derived.Test.YtcdpalpoanlbmaaSpk
namespace Go.Proofs.Ytcdpalpoanlbmaa
open Go Go.RowKit
set_option linter.unusedVariables false
set_option linter.unusedSimpArgs false

/-- What the draw of a speaker leaves. -/
def DrawnS (g k : Nat) (w : World) (e : Ending) (w' : World) : Prop := ∃ a b c : Int, (-1 ≤ b ∧ b ≤ 3) ∧ e = .returned (.agg #[.int .i64 a, .int .i64 b, .int .i64 c]) ∧ RdLe w' g k ∧ Past g w.heap.size w w'
def MadeS (w : World) (e : Ending) (w' : World) : Prop := ∃ a b c : Int, e = .returned (.agg #[.int .i64 a, .int .i64 b, .int .i64 c]) ∧ Below w.heap.size w w'
theorem rem4_bd {x y : Int} (h0 : 0 ≤ x) (h1 : x ≤ 3) (h2 : 0 ≤ y) (h3 : y ≤ 1) : -1 ≤ (IntKind.i64.wrap (IntKind.i64.wrap (x + 1) + y)).tmod 4 ∧ (IntKind.i64.wrap (IntKind.i64.wrap (x + 1) + y)).tmod 4 ≤ 3 := by
  rw [IntWalk.i64_in (x + 1) ⟨by omega, by omega⟩, IntWalk.i64_in _ ⟨by omega, by omega⟩, Int.tmod_eq_emod_of_nonneg (by omega)]
  omega

end Go.Proofs.Ytcdpalpoanlbmaa
