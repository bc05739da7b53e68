/- The arguments of the laws, opened: structs of integers by value. -/
import Derived.Test.YtcdpalpoanlbmaaRows
import Derived.WalkKit
import Derived.ProofKit
import Derived.OpenShut
import Derived.Lib.SmallJoins
import Derived.ChangeSlices
namespace Go.Proofs.Ytcdpalpoanlbmaa
open Go.Joins Go.ChangeShapes Go.WideShapes Go.RowKit
set_option linter.unusedVariables false

/-- A slice whose places hold integers of kind k (by value: whatever its block). -/
def IsInts (k : IntKind) (w : World) (A : Option Addr) (n c : Nat) : Prop :=
  n ≤ c ∧ c ≤ maxLen ∧ ∃ (b off : Nat) (z : Nat → Int), (0 < n → A = some ⟨b, off, none⟩ ∧ b < w.heap.size) ∧ ∀ i, i < n → w.cell? ⟨b, off + i, none⟩ = some (.int k (z i)) ∧ (Lit.int k (z i)).wf = true

theorem IsInts.below {k : IntKind} {w w' : World} {A : Option Addr} {n c : Nat} (h : IsInts k w A n c) (hb : RowKit.Below w.heap.size w w') : IsInts k w' A n c := by
  obtain ⟨h1, h2, b, off, z, h3, h4⟩ := h
  refine ⟨h1, h2, b, off, z, fun h0 => ⟨(h3 h0).1, by have := (h3 h0).2; have := hb.size; omega⟩, fun i hi => ⟨?_, (h4 i hi).2⟩⟩
  exact (RowKit.Below.cell hb (p := ⟨b, off + i, none⟩) (h3 (by omega)).2).trans (h4 i hi).1

section
variable {H : Type} {enc : TypeId × Value → H} {w : World} {base : Nat} {spare : Nat → Bool} {held : Bool} {r : Reach} {b0 : Nat} {v : Value} {d : DataW H} {p : List MemPlace}
theorem cells_22 : Try.prog.cellsOf 5 = 1 := by kernel_rfl
theorem open_code (hv : Value.okWide Try.prog w r b0 22 v) (h : DataW.Trod enc Try.prog w base spare held 22 v d p) :
    ∃ (A : Option Addr) (n c : Nat), v = .slice A n c ∧ IsInts .u8 w A n c := by
  obtain ⟨A, n, c, rfl⟩ := okWide_slice Try.underlying22 hv
  obtain ⟨fuel, hf⟩ := h
  rcases open_ints Try.underlying22 Try.underlying5 cells_22 hf with ⟨hcs, _⟩ | ⟨a, len', cap', zs, hcs, _, hl, hm, hz, _, hcell, hwz⟩
  · simp [Value.cells] at hcs
    obtain ⟨rfl, rfl, rfl⟩ := hcs
    exact ⟨_, _, _, rfl, Nat.le_refl _, by decide, 0, 0, fun _ => 0, fun h => absurd h (by omega), fun i h => absurd h (by omega)⟩
  · simp [Value.cells] at hcs
    obtain ⟨rfl, rfl, rfl⟩ := hcs
    have hlz : n ≤ zs.length := by rw [hz]; split <;> omega
    refine ⟨_, _, _, rfl, hl, hm, a.block, a.off, fun i => zs.getD i 0, fun h0 => ?_, fun i hi => ?_⟩
    · have h1 := hcell 0 (by omega)
      simp only [Addr.add, if_true] at h1
      obtain ⟨b, off, spot⟩ := a
      have h2 : spot = none := by
        cases spot with
        | none => rfl
        | some s => simp [World.cell?] at h1; split at h1 <;> simp at h1
      subst h2
      refine ⟨rfl, ?_⟩
      rcases Nat.lt_or_ge b w.heap.size with h' | h'
      · exact h'
      · simp [World.cell?, Array.getElem?_eq_none h'] at h1
    · have h1 := hcell i (by omega)
      refine ⟨?_, hwz _ ?_⟩
      · obtain ⟨b, off, spot⟩ := a
        have h2 : (Addr.add ⟨b, off, spot⟩ i).spot = none := by
          generalize Addr.add ⟨b, off, spot⟩ i = q at h1
          cases hq : q.spot with
          | none => rfl
          | some s => simp [World.cell?, hq] at h1; split at h1 <;> simp at h1
        have h3 : Addr.add ⟨b, off, spot⟩ i = ⟨b, off + i, none⟩ := by
          unfold Addr.add at h2 ⊢
          by_cases hi0 : i = 0
          · subst hi0; simp at h2 ⊢; exact h2
          · simp [hi0]
        rw [← h3]; exact h1
      · have : zs.getD i 0 = zs[i]'(by omega) := by simp [List.getD, show i < zs.length by omega]
        show zs.getD i 0 ∈ zs; rw [this]; exact List.getElem_mem _
end
end Go.Proofs.Ytcdpalpoanlbmaa
