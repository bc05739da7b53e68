/- Rooms in the exact laws: sizes, copies, equality; what is marked, and what is read again. -/
import Derived.Test.YtelcclhaepfmgaaRlw
namespace Go.Proofs.Ytelcclhaepfmgaa
open Go Go.RowKit Go.Maps
set_option linter.unusedVariables false
set_option linter.unusedSimpArgs false
/-- A room of the call's own, in the blocks from lo on, below hi. -/
structure RmH (lo hi : Nat) (B : Option Addr) (n c : Nat) (M : Nat → Mb) (wx : World) : Prop where
  row : RowOwn 28 wx lo hi B n c 3 (MbF M)
  hears : ∀ i, i < n → OwnI wx lo hi (M i).A (M i).p.n (M i).c (M i).p.z
  dis : ∀ i, i < n → ∀ g, ownM (M i) = some g → (Value.slice B n c).ownBlock ≠ some g
  two : ∀ i j, i < j → j < n → ∀ g, ownM (M i) = some g → ownM (M j) ≠ some g
theorem RmO.rh {lo n c : Nat} {B : Option Addr} {M : Nat → Mb} {w : World} (h : RmO lo B n c M w) : RmH lo w.heap.size B n c M w := ⟨h.row, h.hears, h.dis, h.two⟩
theorem RmH.room {lo hi n c : Nat} {B : Option Addr} {M : Nat → Mb} {w : World} (h : RmH lo hi B n c M w) : Room w lo hi B n M := ⟨h.row.row, fun i hi => (h.hears i hi).ints⟩
theorem RmH.below {lo hi n c B0 : Nat} {B : Option Addr} {M : Nat → Mb} {w w' : World} (hB : hi ≤ B0) (h : RmH lo hi B n c M w) (hb : Below B0 w w') : RmH lo hi B n c M w' :=
  ⟨h.row.below hB hb, fun i hi => (h.hears i hi).below hB hb, h.dis, h.two⟩
theorem RowOwn.excH {e : TypeId} {X : Nat → Prop} {w w' : World} {lo hi n c sz : Nat} {A : Option Addr} {f : Nat → Value} (h : RowOwn e w lo hi A n c sz f) (hE : Exc X w w') (hX : ∀ k, lo ≤ k → k < hi → ¬ X k) : RowOwn e w' lo hi A n c sz f := by
  refine ⟨⟨h.1.1, ?_⟩, h.2⟩
  rcases h.1.2 with h3 | ⟨g', cap, cur, hv, hlo, hg, hr⟩
  · exact .inl h3
  · exact .inr ⟨g', cap, cur, hv, hlo, (hE.block g' (Array.getElem?_eq_some_iff.1 hg).1 (hX g' hlo (h.2 g' (by rw [hv]; rfl)))).trans hg, hr⟩
theorem RmH.exc {lo hi n c : Nat} {X : Nat → Prop} {B : Option Addr} {M : Nat → Mb} {w w' : World} (h : RmH lo hi B n c M w) (hE : Exc X w w') (hX : ∀ k, lo ≤ k → k < hi → ¬ X k) : RmH lo hi B n c M w' :=
  ⟨h.row.excH hE hX, fun i hi => (h.hears i hi).excH hE hX, h.dis, h.two⟩
theorem RmH.lt {lo hi n c : Nat} {B : Option Addr} {M : Nat → Mb} {w : World} (h : RmH lo hi B n c M w) {i : Nat} (hi' : i < n) {g : Nat} (hg : ownM (M i) = some g) : lo ≤ g ∧ g < hi := ⟨((h.hears i hi').1.lt g hg).1, (h.hears i hi').2 g hg⟩
/-- A whole member is stored. -/
theorem RmO.putM {lo n c a g : Nat} {M : Nat → Mb} {w : World} {x : Mb} (h : RmO lo (some ⟨g, 0, none⟩) n c M w) (ha : a < n) (hA : OwnI w lo w.heap.size x.A x.p.n x.c x.p.z)
    (hne : ∀ q, ownM x = some q → q ≠ g) (hno : ∀ i, i < n → ∀ q, ownM (M i) = some q → ownM x ≠ some q) :
    RmO lo (some ⟨g, 0, none⟩) n c (updE M a x) (((w.setCell ⟨g, a * 3, none⟩ (.int .i64 x.p.id)).setCell ⟨g, a * 3 + 1, none⟩ (.bool x.p.s)).setCell ⟨g, a * 3 + 2, none⟩ (.slice x.A x.p.n x.c)) := by
  have hG : w.grownBy (((w.setCell ⟨g, a * 3, none⟩ (.int .i64 x.p.id)).setCell ⟨g, a * 3 + 1, none⟩ (.bool x.p.s)).setCell ⟨g, a * 3 + 2, none⟩ (.slice x.A x.p.n x.c)) (some g) :=
    ((grown_setCell w ⟨g, a * 3, none⟩ _).trans (grown_setCell _ ⟨g, a * 3 + 1, none⟩ _)).trans (grown_setCell _ ⟨g, a * 3 + 2, none⟩ _)
  have hsz : (((w.setCell ⟨g, a * 3, none⟩ (.int .i64 x.p.id)).setCell ⟨g, a * 3 + 1, none⟩ (.bool x.p.s)).setCell ⟨g, a * 3 + 2, none⟩ (.slice x.A x.p.n x.c)).heap.size = w.heap.size := by simp [World.setCell]
  refine ⟨?_, fun i hi => ?_, fun i hi q hq e => ?_, fun i j hij hj q hq e => ?_⟩
  · rw [hsz]
    refine (((h.row.store (a * 3) _).store (a * 3 + 1) _).store (a * 3 + 2) _).congr fun j hj => ?_
    refine RowF_put (sz := 3) (C := MbC) (q := M) (k := a) (x := x) (by decide) ?_ ?_ j
    · intro r hr
      rcases (by omega : r = 0 ∨ r = 1 ∨ r = 2) with rfl | rfl | rfl <;> simp [updF, MbC]
    · intro i hi
      unfold updF
      rw [if_neg (by omega), if_neg (by omega), if_neg (by omega)]
      rfl
  · rw [hsz]
    unfold updE
    by_cases e : i = a
    · simp only [if_pos e]
      exact RowOwn.apartR (r := some g) (fun q hq e2 => by cases hq; exact hne _ e2 rfl) hA hG
    · simp only [if_neg e]
      exact RowOwn.apartR (r := some g) (fun q hq e2 => by cases hq; exact h.dis i hi _ e2 rfl) (h.hears i hi) hG
  · unfold updE at hq
    cases e
    by_cases e2 : i = a
    · rw [if_pos e2] at hq; exact hne _ hq rfl
    · rw [if_neg e2] at hq; exact h.dis i hi _ hq rfl
  · unfold updE at hq e
    by_cases e1 : i = a
    · rw [if_pos e1] at hq
      rw [if_neg (by omega)] at e
      exact hno j hj q e hq
    · rw [if_neg e1] at hq
      by_cases e2 : j = a
      · rw [if_pos e2] at e
        exact hno i (by omega) q hq e
      · rw [if_neg e2] at e
        exact h.two i j hij hj q hq e
/-- How many numbers the first k members hear. -/
def sumN (M : Nat → Mb) : Nat → Nat
  | 0 => 0
  | k + 1 => sumN M k + (M k).p.n
theorem sumN_le (M : Nat → Mb) : ∀ {k n : Nat}, k ≤ n → sumN M k ≤ sumN M n
  | k, 0, h => by obtain rfl : k = 0 := by omega
                  exact Nat.le_refl _
  | k, n + 1, h => by
    by_cases e : k = n + 1
    · subst e; exact Nat.le_refl _
    · have := sumN_le M (k := k) (n := n) (by omega)
      unfold sumN
      cases k with
      | zero => exact Nat.zero_le _
      | succ k => exact Nat.le_trans this (Nat.le_add_right _ _)
theorem sumN_at (M : Nat → Mb) {k n : Nat} (h : k < n) : sumN M k + (M k).p.n ≤ sumN M n := sumN_le M (k := k + 1) h
theorem sumN_congr {M M' : Nat → Mb} (h : ∀ i, (M i).p.n = (M' i).p.n) : ∀ k, sumN M k = sumN M' k
  | 0 => rfl
  | k + 1 => by unfold sumN; rw [sumN_congr h k, h k]
/-- The mark at place i. -/
def endQ (M : Nat → Mb) (q i : Nat) : Nat := q + 2 * i + sumN M i
def mb3 (x : Int) : Bool := x % 3 == 0
def mkdM (M : Nat → Mb) (q : Nat) (i : Nat) : Mb := ⟨⟨(endQ M q i : Nat), mb3 ((endQ M q i : Nat) + 1), (M i).p.n, fun j => ((endQ M q i + 2 : Nat) : Int) + j⟩, (M i).A, (M i).c⟩
def mixM (M : Nat → Mb) (q k : Nat) : Nat → Mb := fun i => if i < k then mkdM M q i else M i
theorem mix_n (M : Nat → Mb) (q k i : Nat) : (mixM M q k i).p.n = (M i).p.n := by unfold mixM; split <;> rfl
theorem mix_A (M : Nat → Mb) (q k i : Nat) : (mixM M q k i).A = (M i).A := by unfold mixM; split <;> rfl
theorem mix_c (M : Nat → Mb) (q k i : Nat) : (mixM M q k i).c = (M i).c := by unfold mixM; split <;> rfl
theorem mix_own (M : Nat → Mb) (q k i : Nat) : ownM (mixM M q k i) = ownM (M i) := by unfold mixM; split <;> rfl
theorem RmH.congr {lo hi n c : Nat} {B : Option Addr} {M M' : Nat → Mb} {w : World} (h : RmH lo hi B n c M w) (e : ∀ i, i < n → M i = M' i) : RmH lo hi B n c M' w :=
  ⟨h.row.congr (RowF_congr (by decide) e), fun i hi => by rw [← e i hi]; exact h.hears i hi, fun i hi => by rw [← e i hi]; exact h.dis i hi, fun i j hij hj => by rw [← e i (by omega), ← e j hj]; exact h.two i j hij hj⟩
/-- One more member is marked. -/
theorem RmH.mark {lo hi n c g k q : Nat} {M : Nat → Mb} {w w' : World} (h : RmH lo hi (some ⟨g, 0, none⟩) n c (mixM M q k) w) (hk : k < n)
    (hI : OwnI w' lo hi (M k).A (M k).p.n (M k).c (fun j => ((endQ M q k + 2 : Nat) : Int) + j))
    (hG : ((w.setCell ⟨g, k * 3, none⟩ (.int .i64 (endQ M q k : Nat))).setCell ⟨g, k * 3 + 1, none⟩ (.bool (mb3 ((endQ M q k : Nat) + 1)))).grownBy w' (Value.slice (M k).A (M k).p.n (M k).c).ownBlock) :
    RmH lo hi (some ⟨g, 0, none⟩) n c (mixM M q (k + 1)) w' := by
  have hself : mixM M q k k = M k := if_neg (Nat.lt_irrefl k)
  have hdk : ∀ q', (Value.slice (M k).A (M k).p.n (M k).c).ownBlock = some q' → (Value.slice (some ⟨g, 0, none⟩) n c).ownBlock ≠ some q' := fun q' hq' => h.dis k hk q' (by rw [hself]; exact hq')
  have hG1 : w.grownBy ((w.setCell ⟨g, k * 3, none⟩ (.int .i64 (endQ M q k : Nat))).setCell ⟨g, k * 3 + 1, none⟩ (.bool (mb3 ((endQ M q k : Nat) + 1)))) (some g) := (grown_setCell w ⟨g, k * 3, none⟩ _).trans (grown_setCell _ ⟨g, k * 3 + 1, none⟩ _)
  refine ⟨?_, fun i hi' => ?_, fun i hi' => ?_, fun i j hij hj => ?_⟩
  · have h1 := RowOwn.apartR (r := (Value.slice (M k).A (M k).p.n (M k).c).ownBlock) (fun q' hq' e => hdk q' hq' e) ((h.row.store (k * 3) (.int .i64 (endQ M q k : Nat))).store (k * 3 + 1) (.bool (mb3 ((endQ M q k : Nat) + 1)))) hG
    refine h1.congr fun j hj => ?_
    refine (RowF_put (sz := 3) (C := MbC) (q := mixM M q k) (k := k) (x := mkdM M q k) (by decide) ?_ ?_ j).trans (RowF_congr (n := n) (by decide) (fun i hi => ?_) j hj)
    · intro r hr
      rcases (by omega : r = 2 ∨ r = 0 ∨ r = 1) with rfl | rfl | rfl
      · unfold updF
        rw [if_neg (by omega), if_neg (by omega)]
        refine (RowF_at (sz := 3) (C := MbC) (q := mixM M q k) (k := k) (r := 2) (by decide)).trans ?_
        rw [hself]; rfl
      · simp [updF, MbC, mkdM]
      · simp [updF, MbC, mkdM]
    · intro i hi
      unfold updF
      rw [if_neg (by omega), if_neg (by omega)]
      rfl
    · unfold updE
      by_cases e : i = k
      · subst e; rw [if_pos rfl]; exact (if_pos (Nat.lt_succ_self _)).symm
      · rw [if_neg e]
        unfold mixM
        by_cases e2 : i < k
        · rw [if_pos e2, if_pos (by omega)]
        · rw [if_neg e2, if_neg (by omega)]
  · by_cases e : i = k
    · subst e
      rw [show mixM M q (i + 1) i = mkdM M q i from if_pos (Nat.lt_succ_self _)]
      exact hI
    · rw [show mixM M q (k + 1) i = mixM M q k i by
        unfold mixM
        by_cases e2 : i < k
        · rw [if_pos e2, if_pos (by omega)]
        · rw [if_neg e2, if_neg (by omega)]]
      refine RowOwn.apartR (r := (Value.slice (M k).A (M k).p.n (M k).c).ownBlock) (fun q' hq' e2 => ?_) (RowOwn.apartR (r := some g) (fun q' hq' e2 => by cases hq'; exact h.dis i hi' _ e2 rfl) (h.hears i hi') hG1) hG
      have hk2 : ownM (mixM M q k k) = some q' := by rw [hself]; exact hq'
      rcases Nat.lt_or_gt_of_ne e with h1 | h1
      · exact h.two i k h1 hk q' e2 hk2
      · exact h.two k i h1 hi' q' hk2 e2
  · rw [mix_own, ← mix_own M q k]; exact h.dis i hi'
  · rw [mix_own, mix_own, ← mix_own M q k i, ← mix_own M q k j]; exact h.two i j hij hj
end Go.Proofs.Ytelcclhaepfmgaa
