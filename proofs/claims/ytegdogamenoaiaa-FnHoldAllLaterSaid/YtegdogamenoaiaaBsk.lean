/- Both takes, with the row that they leave. -/
import Derived.Test.YtegdogamenoaiaaBsh
namespace Go.Proofs.Ytegdogamenoaiaa
open Go Go.RowKit
set_option linter.unusedVariables false
set_option linter.unusedSimpArgs false
def TakeYes (d : Int) (m : Nat) (q : Nat → Hd) (w : World) (e : Ending) (w' : World) : Prop :=
  ∃ A5 c5, RowAt w' 0 w'.heap.size A5 m 7 (HdF (sucQ q)) ∧ e = .returned (.tuple #[.agg #[.int .i64 ((q 0).p.w + 1), .int .i64 d, .slice A5 m c5], .agg #[.int .i64 (q 0).p.w, .int .i64 (q 0).p.t, .int .i64 (q 0).p.l, .int .i64 (q 0).p.s, .bool (q 0).p.k, .bool (q 0).p.z], .bool true]) ∧ Below w.heap.size w w'
def TakeNo (w : World) (e : Ending) (w' : World) : Prop := e = .returned (.tuple #[.agg #[.int .i64 0, .int .i64 0, .slice none 0 0], .agg #[.int .i64 0, .int .i64 0, .int .i64 0, .int .i64 0, .bool false, .bool false], .bool false]) ∧ Below w.heap.size w w'
theorem take_yes {y d now : Int} {m : Nat} {q : Nat → Hd} {w : World} {e : Ending} {w' : World} (hk : tkOk y d (m + 1) q now) (h : TakeRet y d (m + 1) q now w e w') : TakeYes d m q w e w' := by
  rcases h with ⟨h1, _⟩ | ⟨_, A5, c5, he, hr, hb⟩
  · exact absurd hk h1
  · exact ⟨A5, c5, hr.row.wide (Nat.zero_le _) (Nat.le_refl _), he, hb⟩
theorem take_no {y d now : Int} {n : Nat} {q : Nat → Hd} {w : World} {e : Ending} {w' : World} (hk : ¬ tkOk y d n q now) (h : TakeRet y d n q now w e w') : TakeNo w e w' := by
  rcases h with ⟨_, he, hb⟩ | ⟨h1, _⟩
  · exact ⟨he, hb⟩
  · exact absurd h1 hk
end Go.Proofs.Ytegdogamenoaiaa
