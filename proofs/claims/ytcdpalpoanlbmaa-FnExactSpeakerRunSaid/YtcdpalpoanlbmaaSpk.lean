/- SpeakerValid: the program's and the reference's. -/
import Derived.Test.YtcdpalpoanlbmaaSer
import Derived.Lib.SmallJoins
import Derived.Deep.Light
namespace Go.Proofs.Ytcdpalpoanlbmaa
open Go.RowKit
set_option linter.unusedVariables false
set_option linter.unusedSimpArgs false

def SpkOk (now next wait : Int) : Prop := (-1 ≤ now ∧ now ≤ 5 ∧ -1 ≤ next ∧ next ≤ 5) ∧ ((next = -1 ∧ wait = 0) ∨ (next ≠ -1 ∧ now ≠ -1 ∧ now ≠ next ∧ 1 ≤ wait ∧ wait ≤ 2))
instance (a b c : Int) : Decidable (SpkOk a b c) := inferInstanceAs (Decidable (_ ∧ _))
def spkB (now next wait : Int) : Bool := decide (SpkOk now next wait)
theorem spkB_t {a b c : Int} (h : SpkOk a b c) : spkB a b c = true := decide_eq_true h
theorem spkB_f {a b c : Int} (h : ¬ SpkOk a b c) : spkB a b c = false := decide_eq_false h

set_option maxHeartbeats 1000000 in
theorem ispk_any (a b c : Int) (w : World) :
    Calls Try.prog 24 #[.agg #[.int .i64 a, .int .i64 b, .int .i64 c]] w fun e w' => e = .returned (.bool (spkB a b c)) ∧ Below w.heap.size w w' := by
  go_enter Try.func24, Try.ntmps24
  go_wp2
  all_goals
    go_ret
    go_light
    refine ⟨ret_bool ?_, (Below.refl _ _).alloc (Nat.le_refl _) _⟩
    try simp only [inB, decide_eq_true_eq, Bool.and_eq_true, Bool.not_eq_true', Bool.not_eq_false', Bool.and_eq_false_iff, decide_eq_false_iff_not, beq_iff_eq, beq_eq_false_iff_ne] at *
    by_cases hq : SpkOk a b c
    · refine Eq.trans ?_ (spkB_t hq).symm
      unfold SpkOk at hq
      first | rfl | (exfalso; omega) | (simp; omega)
    · refine Eq.trans ?_ (spkB_f hq).symm
      unfold SpkOk at hq
      first | rfl | (exfalso; omega) | (simp; omega)
end Go.Proofs.Ytcdpalpoanlbmaa
