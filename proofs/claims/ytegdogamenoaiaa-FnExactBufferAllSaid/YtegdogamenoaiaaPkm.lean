/- Rows of packets of the call's own: all fields of one are stored; all are marked. -/
import Derived.Test.YtegdogamenoaiaaPkr
namespace Go.Proofs.Ytegdogamenoaiaa
open Go Go.RowKit
set_option linter.unusedVariables false
set_option linter.unusedSimpArgs false
theorem six_put {e : TypeId} {w : World} {lo hi n cc g k : Nat} {p : Nat → Pk} {a b c d : Int} {x y : Bool} (h : RowOwn e w lo hi (some ⟨g, 0, none⟩) n cc 6 (PkF p)) :
    RowOwn e ((((((w.setCell ⟨g, k * 6, none⟩ (.int .i64 a)).setCell ⟨g, k * 6 + 1, none⟩ (.int .i64 b)).setCell ⟨g, k * 6 + 2, none⟩ (.int .i64 c)).setCell ⟨g, k * 6 + 3, none⟩ (.int .i64 d)).setCell ⟨g, k * 6 + 4, none⟩ (.bool x)).setCell ⟨g, k * 6 + 5, none⟩ (.bool y))
      lo hi (some ⟨g, 0, none⟩) n cc 6 (PkF (updE p k ⟨a, b, c, d, x, y⟩)) := by
  refine ((((((h.store (k * 6) (.int .i64 a)).store (k * 6 + 1) (.int .i64 b)).store (k * 6 + 2) (.int .i64 c)).store (k * 6 + 3) (.int .i64 d)).store (k * 6 + 4) (.bool x)).store (k * 6 + 5) (.bool y)).congr fun j hj => ?_
  refine RowF_put (sz := 6) (C := PkC) (q := p) (k := k) (x := ⟨a, b, c, d, x, y⟩) (by decide) ?_ ?_ j
  · intro r hr
    rcases (by omega : r = 0 ∨ r = 1 ∨ r = 2 ∨ r = 3 ∨ r = 4 ∨ r = 5) with rfl | rfl | rfl | rfl | rfl | rfl <;> simp [updF, PkC]
  · intro j hj
    unfold updF
    rw [if_neg (by omega), if_neg (by omega), if_neg (by omega), if_neg (by omega), if_neg (by omega), if_neg (by omega)]
    rfl
set_option maxHeartbeats 4000000 in
theorem markPkS_any (w : World) {lo hi : Nat} {A : Option Addr} {n c : Nat} {p : Nat → Pk} (q : Nat) (h : RowOwn 30 w lo hi A n c 6 (PkF p)) (hn : n ≤ 1048576) (hq : q ≤ 1000000000) :
    Calls Try.prog 30 #[.slice A n c, .int .i64 q] w fun e w' => e = .returned (.int .i64 ((q : Int) + 6 * n)) ∧ w.grownBy w' (Value.slice A n c).ownBlock ∧ w'.heap.size = w.heap.size := by
  have H := Lib.hid h
  clear h
  go_enter Try.func30, Try.ntmps30
  go_wp2
  go_loopw [1, 5] (fun q' i wr => ∃ k p', k ≤ n ∧ i = .int .i64 (k : Nat) ∧ q' = .int .i64 ((q : Int) + 6 * k) ∧ RowOwn 30 wr lo hi A n c 6 (PkF p') ∧ w.grownBy wr (Value.slice A n c).ownBlock ∧ wr.heap.size = w.heap.size) (fun _ i _ => n - (intOf i).toNat)
  case atStart => exact ⟨0, p, Nat.zero_le _, rfl, by go_num, H.out, World.grownBy.refl _ _, rfl⟩
  case round =>
    obtain ⟨k, p', hk, rfl, rfl, hO, hG, hs⟩ := hrel
    by_cases hkn : k < n
    · rcases hO.cases with ⟨_, e, _⟩ | ⟨g, rfl, hlo, _, hgl, _, hfz, hcl⟩
      · omega
      · have d0 := hcl (k * 6) (by omega)
        have d1 := hcl (k * 6 + 1) (by omega)
        have d2 := hcl (k * 6 + 2) (by omega)
        have d3 := hcl (k * 6 + 3) (by omega)
        have d4 := hcl (k * 6 + 4) (by omega)
        have d5 := hcl (k * 6 + 5) (by omega)
        generalize PkF p' (k * 6) = y0 at d0
        generalize PkF p' (k * 6 + 1) = y1 at d1
        generalize PkF p' (k * 6 + 2) = y2 at d2
        generalize PkF p' (k * 6 + 3) = y3 at d3
        generalize PkF p' (k * 6 + 4) = y4 at d4
        generalize PkF p' (k * 6 + 5) = y5 at d5
        have f0 := hfz (k * 6)
        have f1 := hfz (k * 6 + 1)
        have f2 := hfz (k * 6 + 2)
        have f3 := hfz (k * 6 + 3)
        have f4 := hfz (k * 6 + 4)
        have f5 := hfz (k * 6 + 5)
        clear hcl hfz
        have HS := Lib.hid hs
        clear hs
        go_wp2
        go_roundw
        case rel =>
          refine ⟨k + 1, _, by omega, by go_num, by go_num, six_put hO, ?_, by simpa [World.setCell] using HS.out⟩
          exact (((((hG.trans (grown_setCell _ ⟨g, k * 6, none⟩ _)).trans (grown_setCell _ ⟨g, k * 6 + 1, none⟩ _)).trans (grown_setCell _ ⟨g, k * 6 + 2, none⟩ _)).trans (grown_setCell _ ⟨g, k * 6 + 3, none⟩ _)).trans (grown_setCell _ ⟨g, k * 6 + 4, none⟩ _)).trans (grown_setCell _ ⟨g, k * 6 + 5, none⟩ _)
        case measure => simp [intOf]; omega
    · obtain rfl : k = n := by omega
      have HS := Lib.hid hs
      clear hs
      go_wp2
      go_ret
      exact ⟨rfl, hG, HS.out⟩
end Go.Proofs.Ytegdogamenoaiaa
