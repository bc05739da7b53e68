/- The clocks of the reference; the gap of two clocks. -/
import Derived.Test.YtiljiiifalhggaaClk
namespace Go.Proofs.Ytiljiiifalhggaa
open Go.RowKit
set_option linter.unusedVariables false
set_option linter.unusedSimpArgs false

theorem cw_bd (W M R x : Int) : -2000000000000 ≤ cwV W M R x ∧ cwV W M R x ≤ 2000000000000 := by
  by_cases h : OkCM W M R x
  · rw [(cw_yes h).1]
    obtain ⟨⟨⟨h1, h2⟩, ⟨h3, h4⟩, h5, h6⟩, h7, h8⟩ := h
    obtain ⟨q1, q2⟩ := div_bd ((M - x) * 1000) R (by omega) (by omega) (by omega)
    omega
  · rw [(cw_no h).1]; omega
def gapO (a b c x d e f y : Int) : Bool := cmO a b c x && cmO d e f y
def gapV (a b c x d e f y : Int) : Int := if gapO a b c x d e f y = true then cwV a b c x - cwV d e f y else 0
theorem gap_yes {a b c x d e f y : Int} (h : gapO a b c x d e f y = true) : gapV a b c x d e f y = cwV a b c x - cwV d e f y := by unfold gapV; rw [if_pos h]
theorem gap_no {a b c x d e f y : Int} (h : gapO a b c x d e f y = false) : gapV a b c x d e f y = 0 := by unfold gapV; rw [h]; rfl

end Go.Proofs.Ytiljiiifalhggaa
