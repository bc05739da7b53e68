/- Rooms: who hears another one, by the reference, where it succeeds. -/
import Derived.Test.YtelcclhaepfmgaaRsr
namespace Go.Proofs.Ytelcclhaepfmgaa
open Go Go.RowKit
set_option linter.unusedVariables false
set_option linter.unusedSimpArgs false
/-- What member a hears afterwards. -/
def hrB (m : Mm) (other : Int) (on : Bool) (v : Int) : Bool := (v == other && on) || (!(v == other) && hasB m.n m.z v)
def hrL (r : Nat → Mm) (m : Mm) (other : Int) (on : Bool) : Nat → List Int
  | 0 => []
  | n + 1 => if hrB m other on (r n).id = true then hrL r m other on n ++ [(r n).id] else hrL r m other on n
theorem hrL_len (r : Nat → Mm) (m : Mm) (other : Int) (on : Bool) : ∀ n, (hrL r m other on n).length ≤ n
  | 0 => Nat.le_refl _
  | n + 1 => by
    have := hrL_len r m other on n
    unfold hrL
    split
    · simp; omega
    · omega
def putR (r : Nat → Mm) (a : Nat) (l : List Int) : Nat → Mm := fun i => if i = a then ⟨(r a).id, (r a).s, l.length, atL l⟩ else r i
def hearOk (n : Nat) (r : Nat → Mm) (id other : Int) (on : Bool) : Prop := RmOk n r ∧ atR r id n < n ∧ ¬ placeI n r other < 0 ∧ id ≠ other ∧ hasB (r (atR r id n)).n (r (atR r id n)).z other ≠ on
instance (n : Nat) (r : Nat → Mm) (id other : Int) (on : Bool) : Decidable (hearOk n r id other on) := inferInstanceAs (Decidable (_ ∧ _ ∧ _ ∧ _ ∧ _))
def HearRet (n : Nat) (r' : Nat → Mm) (w : World) (e : Ending) (w' : World) : Prop :=
  ∃ B cb M', RmO w.heap.size B n cb M' w' ∧ (∀ i, i < n → (M' i).p = r' i) ∧ e = .returned (.tuple #[.slice B n cb, .bool true]) ∧ Below w.heap.size w w'
/-- The hears of one member are stored anew. -/
theorem RmO.putH {lo n c a g : Nat} {M : Nat → Mb} {w : World} {A : Option Addr} {l : List Int} {ca L : Nat} (h : RmO lo (some ⟨g, 0, none⟩) n c M w) (ha : a < n) (hL : L = l.length) (hA : OwnI w lo w.heap.size A L ca (atL l))
    (hne : ∀ q, (Value.slice A L ca).ownBlock = some q → q ≠ g) (hno : ∀ i, i < n → ∀ q, ownM (M i) = some q → (Value.slice A L ca).ownBlock ≠ some q) :
    RmO lo (some ⟨g, 0, none⟩) n c (updE M a ⟨⟨(M a).p.id, (M a).p.s, l.length, atL l⟩, A, ca⟩) (w.setCell ⟨g, a * 3 + 2, none⟩ (.slice A L ca)) := by
  subst hL
  have hg : (Value.slice (some ⟨g, 0, none⟩) n c).ownBlock = some g := rfl
  have hsz : (w.setCell ⟨g, a * 3 + 2, none⟩ (.slice A l.length ca)).heap.size = w.heap.size := by simp [World.setCell]
  refine ⟨?_, fun i hi => ?_, fun i hi q hq e => ?_, fun i j hij hj q hq e => ?_⟩
  · rw [hsz]
    refine (h.row.store (a * 3 + 2) (.slice A l.length ca)).congr fun j hj => ?_
    refine RowF_put (sz := 3) (C := MbC) (q := M) (k := a) (x := ⟨⟨(M a).p.id, (M a).p.s, l.length, atL l⟩, A, ca⟩) (by decide) ?_ ?_ j
    · intro r hr
      rcases (by omega : r = 2 ∨ r < 2) with rfl | hr2
      · exact if_pos rfl
      · refine (if_neg (by omega)).trans ((RowF_at (sz := 3) (C := MbC) (q := M) (k := a) (r := r) (by omega)).trans ?_)
        rcases (by omega : r = 0 ∨ r = 1) with rfl | rfl <;> rfl
    · exact fun i hi => if_neg (by omega)
  · rw [hsz]
    unfold updE
    by_cases e : i = a
    · simp only [if_pos e]
      exact RowOwn.apartR (r := some g) (fun q hq e2 => by cases hq; exact hne _ e2 rfl) hA (grown_setCell w ⟨g, a * 3 + 2, none⟩ _)
    · simp only [if_neg e]
      exact RowOwn.apartR (r := some g) (fun q hq e2 => by cases hq; exact h.dis i hi _ e2 rfl) (h.hears i hi) (grown_setCell w ⟨g, a * 3 + 2, none⟩ _)
  · unfold updE at hq
    cases e
    by_cases e2 : i = a
    · rw [if_pos e2] at hq; exact hne _ hq rfl
    · rw [if_neg e2] at hq; exact h.dis i hi _ hq rfl
  · unfold updE at hq e
    by_cases e1 : i = a
    · rw [if_pos e1] at hq
      rw [if_neg (by omega)] at e
      exact hno j hj q e hq
    · rw [if_neg e1] at hq
      by_cases e2 : j = a
      · rw [if_pos e2] at e; exact hno i (by omega) q hq e
      · rw [if_neg e2] at e; exact h.two i j hij hj q hq e
end Go.Proofs.Ytelcclhaepfmgaa
