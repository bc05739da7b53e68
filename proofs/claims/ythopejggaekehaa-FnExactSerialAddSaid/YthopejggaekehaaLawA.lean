/- The walks of the exact laws over numbers. -/
import Derived.Test.YthopejggaekehaaSer
namespace Go.Proofs.Ythopejggaekehaa
open Go.RowKit
set_option linter.unusedVariables false

theorem in64 {n : Int} (h : (Lit.int .i64 n).wf = true) : In64 n := by
  simpa [Lit.wf, IntKind.min, IntKind.max, IntKind.signed, IntKind.bits, In64] using h

theorem walk_FnExactSerialAdd (a n : Int) (w : World) (h0 : (Lit.int .i64 a).wf = true) (h1 : (Lit.int .i64 n).wf = true) :
    Calls Try.prog 4 #[.int .i64 a, .int .i64 n] w fun e w' => e = .returned (.bool true) ∧ Below w.heap.size w w' := by
  have hn := in64 h1
  clear h0 h1
  go_enter Try.func4, Try.ntmps4
  go_wp2_with (first
    | (go_at_call 16; refine (sadd_any _ _ _).mono ?_; rintro e w' ⟨rfl, rfl⟩)
    | (go_at_call 17; refine (iadd_any _ _ _ hn).mono ?_; rintro e w' ⟨rfl, rfl⟩))
  go_ret
  exact ⟨rfl, Below.refl _ _⟩
end Go.Proofs.Ythopejggaekehaa
