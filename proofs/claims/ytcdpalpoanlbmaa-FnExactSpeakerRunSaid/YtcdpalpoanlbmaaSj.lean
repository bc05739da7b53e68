/- A speaker in a block of its own; relations between worlds. -/
import Derived.Test.YtcdpalpoanlbmaaSs
import Derived.Test.YtcdpalpoanlbmaaSlr
import Derived.IntWalk
namespace Go.Proofs.Ytcdpalpoanlbmaa
open Go Go.RowKit
set_option linter.unusedVariables false
set_option linter.unusedSimpArgs false
theorem exc_cellsS {X : Nat → Prop} {W w1 : World} (hb : Exc X W w1) : (∀ b o, b < W.heap.size → ¬ X b → w1.cell? ⟨b, o, none⟩ = W.cell? ⟨b, o, none⟩) ∧ (∀ b o, b < W.heap.size → ¬ X b → w1.frozen? ⟨b, o, none⟩ = W.frozen? ⟨b, o, none⟩) :=
  ⟨fun b o h1 h2 => hb.cell h1 h2, fun b o h1 h2 => hb.frozen h1 h2⟩
theorem exc_cells {X : Nat → Prop} {W w1 : World} (hb : Exc X W w1) : (∀ b o, b < W.heap.size → ¬ X b → w1.cell? ⟨b, o, none⟩ = W.cell? ⟨b, o, none⟩) ∧ (∀ b o, b < W.heap.size → ¬ X b → w1.frozen? ⟨b, o, none⟩ = W.frozen? ⟨b, o, none⟩) := exc_cellsS hb
theorem Exc.drew {X : Nat → Prop} {w w' : World} (h : Exc X w w') : Exc X w w'.drew := ⟨h.os, h.tape, h.output, h.size, h.block⟩
theorem Exc.alloc {X : Nat → Prop} {w w' : World} (h : Exc X w w') (o : Obj) : Exc X w (w'.alloc o) :=
  h.trans ⟨rfl, rfl, rfl, by simp, fun k hk _ => Below.heap_alloc _ _ _ hk⟩
theorem Exc.of_belowS {X : Nat → Prop} {w w' : World} (h : Below w.heap.size w w') : Exc X w w' := ⟨h.os, h.tape, h.output, h.size, fun k hk _ => h.block k hk⟩
theorem RowOwn.excS {e : TypeId} {X : Nat → Prop} {w w' : World} {lo hi n c sz : Nat} {A : Option Addr} {f : Nat → Value} (h : RowOwn e w lo hi A n c sz f) (hE : Exc X w w') (hX : ∀ k, lo ≤ k → k < hi → ¬ X k) : RowOwn e w' lo hi A n c sz f := by
  refine ⟨⟨h.1.1, ?_⟩, h.2⟩
  rcases h.1.2 with h3 | ⟨g', cap, cur, hv, hlo, hg, hr⟩
  · exact .inl h3
  · exact .inr ⟨g', cap, cur, hv, hlo, (hE.block g' (Array.getElem?_eq_some_iff.1 hg).1 (hX g' hlo (h.2 g' (by rw [hv]; rfl)))).trans hg, hr⟩
theorem RowOwn.apartS {e : TypeId} {w w' : World} {lo hi n c sz : Nat} {A : Option Addr} {f : Nat → Value} {r : Option Nat} (hne : ∀ g, r = some g → (Value.slice A n c).ownBlock ≠ some g) (h : RowOwn e w lo hi A n c sz f) (hg : w.grownBy w' r) : RowOwn e w' lo hi A n c sz f := by
  refine ⟨h.1.kept hg ?_, h.2⟩
  cases hb : (Value.slice A n c).ownBlock with
  | none => exact Or.inl rfl
  | some g => exact Or.inr fun e => hne g e.symm hb
/-- Block s holds a speaker. -/
def SpAt (w : World) (s : Nat) (t : Int × Int × Int) : Prop := w.cell? ⟨s, 0, none⟩ = some (.int .i64 t.1) ∧ w.cell? ⟨s, 1, none⟩ = some (.int .i64 t.2.1) ∧ w.cell? ⟨s, 2, none⟩ = some (.int .i64 t.2.2) ∧ (∀ j, w.frozen? ⟨s, j, none⟩ = false) ∧ s < w.heap.size
theorem SpAt.keep {w w' : World} {s : Nat} {t : Int × Int × Int} (h : SpAt w s t) (hc : ∀ o, w'.cell? ⟨s, o, none⟩ = w.cell? ⟨s, o, none⟩) (hf : ∀ o, w'.frozen? ⟨s, o, none⟩ = w.frozen? ⟨s, o, none⟩) (hs : s < w'.heap.size) : SpAt w' s t :=
  ⟨(hc 0).trans h.1, (hc 1).trans h.2.1, (hc 2).trans h.2.2.1, fun j => (hf j).trans (h.2.2.2.1 j), hs⟩
theorem SpAt.exc {X : Nat → Prop} {w w' : World} {s : Nat} {t : Int × Int × Int} (h : SpAt w s t) (hE : Exc X w w') (hX : ¬ X s) : SpAt w' s t :=
  h.keep (fun o => hE.cell h.2.2.2.2 hX) (fun o => hE.frozen h.2.2.2.2 hX) (Nat.lt_of_lt_of_le h.2.2.2.2 hE.size)
theorem SpAt.only {w w' : World} {s : Nat} {t : Int × Int × Int} {r : Option Nat} (h : SpAt w s t) (hG : w.grownBy w' r) (hr : r ≠ some s) : SpAt w' s t := by
  have hb : w'.heap[s]? = w.heap[s]? := hG.block s h.2.2.2.2 (fun e => hr e.symm)
  exact h.keep (fun o => by simp only [World.cell?, hb]) (fun o => by simp only [World.frozen?, hb]) (Nat.lt_of_lt_of_le h.2.2.2.2 hG.size)
theorem SpAt.put {w : World} {s : Nat} {t : Int × Int × Int} {a b d : Int} (h : SpAt w s t) : SpAt (((w.setCell ⟨s, 0, none⟩ (.int .i64 a)).setCell ⟨s, 1, none⟩ (.int .i64 b)).setCell ⟨s, 2, none⟩ (.int .i64 d)) s (a, b, d) := by
  obtain ⟨c0, c1, c2, f, hl⟩ := h
  refine ⟨?_, ?_, ?_, fun j => ?_, by simp [World.setCell]; exact hl⟩
  · go_simp
  · go_simp
  · go_simp
  · go_simp
end Go.Proofs.Ytcdpalpoanlbmaa
