/- Rows of the call's own, while a code is read. -/
import Derived.Test.YtcdpalpoanlbmaaInts
import Derived.Test.YtcdpalpoanlbmaaAny
namespace Go.Proofs.Ytcdpalpoanlbmaa
open Go Go.RowKit
set_option linter.unusedVariables false
set_option linter.unusedSimpArgs false

theorem RowOwn.past {e : TypeId} {w w' : World} {lo hi n c sz g B : Nat} {A : Option Addr} {f : Nat → Value} (hg : g < lo) (hB : hi ≤ B) (h : RowOwn e w lo hi A n c sz f) (hp : Past g B w w') : RowOwn e w' lo hi A n c sz f := by
  refine ⟨⟨h.1.1, ?_⟩, h.2⟩
  rcases h.1.2 with h3 | ⟨g', cap, cur, hv, hlo, hh, hr⟩
  · exact .inl h3
  · refine .inr ⟨g', cap, cur, hv, hlo, ?_, hr⟩
    have := h.2 g' (by rw [hv]; rfl)
    rw [hp.block g' (by omega) (by omega)]; exact hh
theorem one_row (w : World) (u : Value) (t : TypeId) : RowAt (w.alloc (.cells #[u] t)) w.heap.size (w.heap.size + 1) (some ⟨w.heap.size, 0, none⟩) 1 1 (fun _ => u) := by
  refine ⟨w.heap.size, 0, fun _ => ⟨rfl, Nat.le_refl _, Nat.lt_succ_self _⟩, fun j hj => ?_⟩
  obtain rfl : j = 0 := by omega
  have h1 : (w.alloc (.cells #[u] t)).heap[w.heap.size]? = some (.cells #[u] t (0, 0)) := heap_alloc_new w _
  rw [cell_of_row _ _ _ _ _ _ h1]
  rfl
theorem empty_row (w : World) (t : TypeId) (sz : Nat) (f : Nat → Value) : RowOwn t (w.alloc (.cells #[] t)) w.heap.size (w.heap.size + 1) (some ⟨w.heap.size, 0, none⟩) 0 0 sz f :=
  ⟨⟨by simp, .inr ⟨w.heap.size, 0, #[], rfl, Nat.le_refl _, heap_alloc_new w _, Nat.le_refl _, by decide, by simp, by simp⟩⟩, fun g hg => by cases hg; exact Nat.lt_succ_self _⟩
theorem past_grownAt {g lo : Nat} {w w' : World} {v : Value} {B : Nat} (hB : B ≤ lo) (hown : ∀ k, v.ownBlock = some k → lo ≤ k) (h : w.grownBy w' v.ownBlock) (hs : B ≤ w.heap.size) : Past g B w w' :=
  ⟨h.os, h.tape, h.output, h.size, fun k hk _ => h.block k (by omega) (fun e => by have := hown k e.symm; omega)⟩
theorem RdLe.only {w w' : World} {g q : Nat} {r : Option Nat} (h : RdLe w g q) (hr : ∀ k, r = some k → g < k) (hg : w.grownBy w' r) : RdLe w' g q := by
  obtain ⟨q', h1, h2⟩ := h
  have hl := h2.lt
  have hb : ∀ b, b ≤ g → w'.heap[b]? = w.heap[b]? := fun b hb => hg.block b (by omega) (fun e => by have := hr b e.symm; omega)
  refine ⟨q', h1, h2.keep (fun b o hbg => ?_) ?_⟩
  · simp only [World.cell?, hb b hbg]
  · simp only [World.frozen?, hb g (Nat.le_refl _)]
def snocI (z : Nat → Int) (k : Nat) (x : Int) : Nat → Int := fun j => if j < k then z j else x
theorem snoc_row {w : World} {lo hi n c : Nat} {A : Option Addr} {z : Nat → Int} {x : Int} (h : RowOwn 3 w lo hi A (n + 1) c 1 (catF (n * 1) (intV z) fun _ => .int .i64 x)) : OwnI w lo hi A (n + 1) c (snocI z n x) := by
  refine RowOwn.congr h fun j hj => ?_
  show (if j < n * 1 then Value.int .i64 (z j) else .int .i64 x) = .int .i64 (if j < n then z j else x)
  rw [Nat.mul_one]; split <;> rfl
/-- What the draw of some numbers leaves. -/
def DrawnL (g k n : Nat) (w : World) (e : Ending) (w' : World) : Prop := ∃ A c z, OwnI w' w.heap.size w'.heap.size A n c z ∧ e = .returned (.slice A n c) ∧ RdLe w' g k ∧ Past g w.heap.size w w'
end Go.Proofs.Ytcdpalpoanlbmaa
