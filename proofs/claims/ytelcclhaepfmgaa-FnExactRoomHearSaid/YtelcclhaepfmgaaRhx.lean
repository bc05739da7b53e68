/- Rooms: a hearing is made. -/
import Derived.Test.YtelcclhaepfmgaaRhw
namespace Go.Proofs.Ytelcclhaepfmgaa
open Go Go.RowKit Go.Maps
set_option linter.unusedVariables false
set_option linter.unusedSimpArgs false
theorem run_makeHint (w : World) {n : Nat} (hn : n ≤ 1048576) : (Instr.makeMap 60 (some (.int .i64 (n : Nat)))).run Try.prog w = .ok (.map (some w.heap.size)) (w.alloc (.map #[] 0)) := by
  have h : ¬ ((n : Int) < 0) := by omega
  have hu : Try.prog.underlying 60 = some (.map 3 26) := Try.underlying60
  simp [Instr.makeMap, underlying, hu, Result.andThen, h]
  try rfl
end Go.Proofs.Ytelcclhaepfmgaa
