/- Rooms of the call's own: one more member; a copy. -/
import Derived.Test.YtelcclhaepfmgaaRmw
import Derived.Test.YtelcclhaepfmgaaSlr
import Derived.Test.YtelcclhaepfmgaaFad
namespace Go.Proofs.Ytelcclhaepfmgaa
open Go Go.RowKit
set_option linter.unusedVariables false
set_option linter.unusedSimpArgs false
theorem RowOwn.apartR {e : TypeId} {w w' : World} {lo hi n c sz : Nat} {A : Option Addr} {f : Nat → Value} {r : Option Nat} (hne : ∀ g, r = some g → (Value.slice A n c).ownBlock ≠ some g) (h : RowOwn e w lo hi A n c sz f) (hg : w.grownBy w' r) : RowOwn e w' lo hi A n c sz f := by
  refine ⟨h.1.kept hg ?_, h.2⟩
  cases hb : (Value.slice A n c).ownBlock with
  | none => exact Or.inl rfl
  | some g => exact Or.inr fun e => hne g e.symm hb
def ownM (m : Mb) : Option Nat := (Value.slice m.A m.p.n m.c).ownBlock
/-- A room of the call's own: no two of its blocks are the same. -/
structure RmO (lo : Nat) (B : Option Addr) (n c : Nat) (M : Nat → Mb) (wx : World) : Prop where
  row : RowOwn 28 wx lo wx.heap.size B n c 3 (MbF M)
  hears : ∀ i, i < n → OwnI wx lo wx.heap.size (M i).A (M i).p.n (M i).c (M i).p.z
  dis : ∀ i, i < n → ∀ g, ownM (M i) = some g → (Value.slice B n c).ownBlock ≠ some g
  two : ∀ i j, i < j → j < n → ∀ g, ownM (M i) = some g → ownM (M j) ≠ some g
theorem RmO.room {lo n c : Nat} {B : Option Addr} {M : Nat → Mb} {w : World} (h : RmO lo B n c M w) : Room w lo w.heap.size B n M := ⟨h.row.row, fun i hi => (h.hears i hi).ints⟩
theorem RmO.below {lo n c : Nat} {B : Option Addr} {M : Nat → Mb} {w w' : World} (h : RmO lo B n c M w) (hb : Below w.heap.size w w') : RmO lo B n c M w' :=
  ⟨(h.row.below (Nat.le_refl _) hb).wide (Nat.le_refl _) hb.size, fun i hi => ((h.hears i hi).below (Nat.le_refl _) hb).wide (Nat.le_refl _) hb.size, h.dis, h.two⟩
theorem RmO.nil (lo : Nat) (w : World) (M : Nat → Mb) : RmO lo none 0 0 M w :=
  ⟨⟨⟨by simp, .inl ⟨rfl, rfl⟩⟩, fun g hg => by cases hg⟩, fun i hi => absurd hi (by omega), fun i hi => absurd hi (by omega), fun i j _ hj => absurd hj (by omega)⟩
def snocM (M : Nat → Mb) (k : Nat) (x : Mb) : Nat → Mb := fun i => if i < k then M i else x
theorem snoc_mb {w : World} {e : TypeId} {lo hi n c : Nat} {A : Option Addr} {M : Nat → Mb} {x : Mb} {f : Nat → Value} (h : RowOwn e w lo hi A (n + 1) c 3 (catF (n * 3) (MbF M) f)) (hf : ∀ j, j < 3 → f j = MbC x j) :
    RowOwn e w lo hi A (n + 1) c 3 (MbF (snocM M n x)) := by
  refine RowOwn.congr h fun j hj => ?_
  have hd := Nat.div_add_mod j 3
  show (if j < n * 3 then MbC (M (j / 3)) (j % 3) else f (j - n * 3)) = MbC (if j / 3 < n then M (j / 3) else x) (j % 3)
  by_cases h1 : j < n * 3
  · rw [if_pos h1, if_pos (by omega)]
  · rw [if_neg h1, if_neg (by omega), hf _ (by omega), show j - n * 3 = j % 3 by omega]
theorem RmO.snoc {lo k cb cb2 : Nat} {B B2 : Option Addr} {M : Nat → Mb} {x : Mb} {wx w5 w7 : World} {f : Nat → Value} (h : RmO lo B k cb M wx) (hlo : lo ≤ wx.heap.size) (hb : Below wx.heap.size wx w5)
    (hA : OwnI w5 wx.heap.size w5.heap.size x.A x.p.n x.c x.p.z) (hg : w5.grownBy w7 (Value.slice B k cb).ownBlock) (hr : RowOwn 28 w7 lo w7.heap.size B2 (k + 1) cb2 3 (catF (k * 3) (MbF M) f)) (hf : ∀ j, j < 3 → f j = MbC x j)
    (hL : (Value.slice B2 (k + 1) cb2).ownBlock = (Value.slice B k cb).ownBlock ∨ (Value.slice B2 (k + 1) cb2).ownBlock = some w5.heap.size) : RmO lo B2 (k + 1) cb2 (snocM M k x) w7 := by
  have hB : ∀ g, (Value.slice B k cb).ownBlock = some g → g < wx.heap.size := fun g hg => (h.row.1.lt g hg).2
  have hX : ∀ g, ownM x = some g → wx.heap.size ≤ g ∧ g < w5.heap.size := fun g hg => hA.1.lt g hg
  have hM : ∀ i, i < k → ∀ g, ownM (M i) = some g → g < wx.heap.size := fun i hi g hg => ((h.hears i hi).1.lt g hg).2
  refine ⟨snoc_mb hr hf, fun i hi => ?_, fun i hi g hg e => ?_, fun i j hij hj g hg e => ?_⟩
  · unfold snocM
    by_cases e : i < k
    · simp only [if_pos e]
      exact (RowOwn.apartR (fun g hg e2 => h.dis i e g e2 hg) ((h.hears i e).below (Nat.le_refl _) hb) hg).wide (Nat.le_refl _) (Nat.le_trans hb.size hg.size)
    · simp only [if_neg e]
      exact (RowOwn.apartR (fun g hg e2 => by have h1 := hB g hg; have h2 := (hX g e2).1; omega) hA hg).wide hlo hg.size
  · unfold snocM at hg
    by_cases h1 : i < k
    · rw [if_pos h1] at hg
      rcases hL with hl | hl
      · rw [hl] at e; exact h.dis i h1 g hg e
      · rw [hl] at e; cases e; have h2 := hM i h1 _ hg; have h3 := hb.size; omega
    · rw [if_neg h1] at hg
      have h2 := hX g hg
      rcases hL with hl | hl
      · rw [hl] at e; have h3 := hB g e; omega
      · rw [hl] at e; cases e; omega
  · unfold snocM at hg e
    rw [if_pos (show i < k by omega)] at hg
    by_cases h1 : j < k
    · rw [if_pos h1] at e; exact h.two i j hij h1 g hg e
    · rw [if_neg h1] at e
      have h2 := hM i (by omega) g hg
      have h3 := hX g e
      omega
theorem mb_at (w : World) (b0 : Nat) (a b c : Value) (t : TypeId) (hb : b0 = w.heap.size) : RowAt (w.alloc (.cells #[a, b, c] t)) b0 (b0 + 1) (some ⟨b0, 0, none⟩) 1 3 (fun j => [a, b, c].getD j a) := by
  subst hb
  refine ⟨w.heap.size, 0, fun _ => ⟨rfl, Nat.le_refl _, Nat.lt_succ_self _⟩, fun j hj => ?_⟩
  have h1 : (w.alloc (.cells #[a, b, c] t)).heap[w.heap.size]? = some (.cells #[a, b, c] t (0, 0)) := heap_alloc_new w _
  rw [cell_of_row _ _ _ _ _ _ h1]
  rcases (by omega : j = 0 ∨ j = 1 ∨ j = 2) with rfl | rfl | rfl <;> rfl
theorem exc_cells {X : Nat → Prop} {W w1 : World} (hb : Exc X W w1) : (∀ b o, b < W.heap.size → ¬ X b → w1.cell? ⟨b, o, none⟩ = W.cell? ⟨b, o, none⟩) ∧ (∀ b o, b < W.heap.size → ¬ X b → w1.frozen? ⟨b, o, none⟩ = W.frozen? ⟨b, o, none⟩) :=
  ⟨fun b o h1 h2 => hb.cell h1 h2, fun b o h1 h2 => hb.frozen h1 h2⟩
theorem Exc.drew {X : Nat → Prop} {w w' : World} (h : Exc X w w') : Exc X w w'.drew := ⟨h.os, h.tape, h.output, h.size, h.block⟩
theorem Exc.alloc {X : Nat → Prop} {w w' : World} (h : Exc X w w') (o : Obj) : Exc X w (w'.alloc o) :=
  h.trans ⟨rfl, rfl, rfl, by simp, fun k hk _ => Below.heap_alloc _ _ _ hk⟩
theorem Exc.grown {X : Nat → Prop} {w w' w2 : World} {r : Option Nat} (h : Exc X w w') (hX : ∀ g, r = some g → X g ∨ w.heap.size ≤ g) (hG : w'.grownBy w2 r) : Exc X w w2 :=
  ⟨hG.os.trans h.os, hG.tape.trans h.tape, hG.output.trans h.output, Nat.le_trans h.size hG.size, fun k hk hx => (hG.block k (Nat.lt_of_lt_of_le hk h.size) (fun e => by rcases hX k e.symm with h1 | h1; exact hx h1; omega)).trans (h.block k hk hx)⟩
end Go.Proofs.Ytelcclhaepfmgaa
