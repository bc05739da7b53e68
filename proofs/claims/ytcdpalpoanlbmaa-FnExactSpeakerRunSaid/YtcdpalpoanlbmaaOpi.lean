/- The arguments of the laws, opened: slices of integers. -/
import Derived.Test.YtcdpalpoanlbmaaOpen
import Derived.Test.YtcdpalpoanlbmaaInts
namespace Go.Proofs.Ytcdpalpoanlbmaa
open Go Go.Joins Go.ChangeShapes Go.WideShapes Go.RowKit
set_option linter.unusedVariables false
section
variable {H : Type} {enc : TypeId × Value → H} {w : World} {base : Nat} {spare : Nat → Bool} {held : Bool} {r : Reach} {b0 : Nat} {v : Value} {d : DataW H} {p : List MemPlace}
theorem cell_spot {w : World} {a : Addr} {u : Value} (h1 : w.cell? a = some u) : ∃ b off, a = ⟨b, off, none⟩ ∧ b < w.heap.size := by
  obtain ⟨b, off, spot⟩ := a
  have h2 : spot = none := by
    cases spot with
    | none => rfl
    | some s => simp [World.cell?] at h1; split at h1 <;> simp at h1
  subst h2
  refine ⟨b, off, rfl, ?_⟩
  rcases Nat.lt_or_ge b w.heap.size with h' | h'
  · exact h'
  · simp [World.cell?, Array.getElem?_eq_none h'] at h1
theorem cells_int1 : Try.prog.cellsOf 3 = 1 := by kernel_rfl
theorem open_intsl (hv : Value.okWide Try.prog w r b0 25 v) (h : DataW.Trod enc Try.prog w base spare held 25 v d p) :
    ∃ (A : Option Addr) (n c : Nat) (z : Nat → Int), v = .slice A n c ∧ Ints w 0 w.heap.size A n z ∧ n ≤ maxLen := by
  obtain ⟨A, n, c, rfl⟩ := okWide_slice Try.underlying25 hv
  obtain ⟨fuel, hf⟩ := h
  rcases open_ints Try.underlying25 Try.underlying3 cells_int1 hf with ⟨hcs, _⟩ | ⟨a, len', cap', zs, hcs, _, hl, hm, hz, _, hcell, hwz⟩
  · simp [Value.cells] at hcs
    obtain ⟨rfl, rfl, rfl⟩ := hcs
    exact ⟨_, _, _, fun _ => 0, rfl, Ints.nil _ _ _ _ _, Nat.zero_le _⟩
  · simp [Value.cells] at hcs
    obtain ⟨rfl, rfl, rfl⟩ := hcs
    have hlz : n ≤ zs.length := by rw [hz]; split <;> omega
    refine ⟨_, _, _, fun i => zs.getD i 0, rfl, ?_, by omega⟩
    rcases Nat.eq_zero_or_pos n with h0 | h0
    · subst h0; exact Ints.nil _ _ _ _ _
    · have h1 := hcell 0 (by omega)
      simp only [Addr.add, if_true] at h1
      obtain ⟨b, off, rfl, hb⟩ := cell_spot h1
      refine ⟨b, off, fun _ => ⟨rfl, Nat.zero_le _, hb⟩, fun i hi => ?_⟩
      have h2 := hcell i (by omega)
      rw [Addr.add_lit] at h2
      exact h2
end
end Go.Proofs.Ytcdpalpoanlbmaa
