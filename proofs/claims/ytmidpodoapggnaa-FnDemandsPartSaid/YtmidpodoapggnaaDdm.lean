/- The draw of demands: the loop that puts one behind the other. -/
import Derived.Test.YtmidpodoapggnaaDem
import Derived.Test.YtmidpodoapggnaaDro
namespace Go.Proofs.Ytmidpodoapggnaa
open Go Go.RowKit
set_option linter.unusedVariables false
set_option linter.unusedSimpArgs false
theorem four_row (w : World) (a b c d : Value) (t : TypeId) : RowAt (w.alloc (.cells #[a, b, c, d] t)) w.heap.size (w.heap.size + 1) (some ⟨w.heap.size, 0, none⟩) 1 4 (fun j => [a, b, c, d].getD j a) := by
  refine ⟨w.heap.size, 0, fun _ => ⟨rfl, Nat.le_refl _, Nat.lt_succ_self _⟩, fun j hj => ?_⟩
  have h1 : (w.alloc (.cells #[a, b, c, d] t)).heap[w.heap.size]? = some (.cells #[a, b, c, d] t (0, 0)) := heap_alloc_new w _
  rw [cell_of_row _ _ _ _ _ _ h1]
  rcases (by omega : j = 0 ∨ j = 1 ∨ j = 2 ∨ j = 3) with rfl | rfl | rfl | rfl <;> rfl
def snocE {α : Type} (q : Nat → α) (n : Nat) (x : α) : Nat → α := fun i => if i < n then q i else x
theorem snoc_dm {w : World} {e : TypeId} {lo hi n c : Nat} {A : Option Addr} {p : Nat → Dm} {a b x y : Int} (h : RowOwn e w lo hi A (n + 1) c 4 (catF (n * 4) (DmF p) fun j => [Value.int .i64 a, .int .i64 b, .int .i64 x, .int .i64 y].getD j (.int .i64 a))) :
    RowOwn e w lo hi A (n + 1) c 4 (DmF (snocE p n ⟨a, b, x, y⟩)) := by
  refine RowOwn.congr h fun j hj => ?_
  have hd := Nat.div_add_mod j 4
  show (if j < n * 4 then DmC (p (j / 4)) (j % 4) else _) = DmC (if j / 4 < n then p (j / 4) else ⟨a, b, x, y⟩) (j % 4)
  by_cases h1 : j < n * 4
  · rw [if_pos h1, if_pos (by omega)]
  · rw [if_neg h1, if_neg (by omega)]
    rcases (by omega : j - n * 4 = 0 ∧ j % 4 = 0 ∨ j - n * 4 = 1 ∧ j % 4 = 1 ∨ j - n * 4 = 2 ∧ j % 4 = 2 ∨ j - n * 4 = 3 ∧ j % 4 = 3) with ⟨e1, e2⟩ | ⟨e1, e2⟩ | ⟨e1, e2⟩ | ⟨e1, e2⟩ <;> rw [e1, e2] <;> rfl
end Go.Proofs.Ytmidpodoapggnaa
