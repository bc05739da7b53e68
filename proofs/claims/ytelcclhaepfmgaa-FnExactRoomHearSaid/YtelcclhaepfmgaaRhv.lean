/- Rooms: a hearing as a function from numbers to lists, of the call's own. -/
import Derived.Test.YtelcclhaepfmgaaRhu
namespace Go.Proofs.Ytelcclhaepfmgaa
open Go Go.RowKit Go.Maps
set_option linter.unusedVariables false
set_option linter.unusedSimpArgs false
theorem RowOwn.exc {e : TypeId} {X : Nat → Prop} {w w' : World} {lo hi n c sz : Nat} {A : Option Addr} {f : Nat → Value} (h : RowOwn e w lo hi A n c sz f) (hE : Exc X w w') (hX : ∀ k, lo ≤ k → ¬ X k) : RowOwn e w' lo hi A n c sz f := by
  refine ⟨⟨h.1.1, ?_⟩, h.2⟩
  rcases h.1.2 with h3 | ⟨g', cap, cur, hv, hlo, hg, hr⟩
  · exact .inl h3
  · exact .inr ⟨g', cap, cur, hv, hlo, (hE.block g' (Array.getElem?_eq_some_iff.1 hg).1 (hX g' hlo)).trans hg, hr⟩
/-- Where a list lies, and what it says. -/
structure Sl where
  A : Option Addr
  n : Nat
  c : Nat
  z : Nat → Int
def slV (s : Sl) : Value := .slice s.A s.n s.c
def updS (S : Int → Sl) (id : Int) (s : Sl) : Int → Sl := fun v => if v = id then s else S v
/-- Block b is a hearing whose lists lie behind it. -/
def Hrg (w : World) (b m : Nat) (S : Int → Sl) : Prop := MapOf w b m (fun v => slV (S v)) ∧ ∀ v, OwnI w (b + 1) w.heap.size (S v).A (S v).n (S v).c (S v).z
theorem Hrg.lt {w : World} {b m : Nat} {S : Int → Sl} (h : Hrg w b m S) : b < w.heap.size := h.1.lt
theorem Hrg.below {w w' : World} {b m : Nat} {S : Int → Sl} (h : Hrg w b m S) (hb : Below w.heap.size w w') : Hrg w' b m S :=
  ⟨h.1.below hb h.lt, fun v => ((h.2 v).below (Nat.le_refl _) hb).wide (Nat.le_refl _) hb.size⟩
theorem Hrg.put {w w' : World} {b m : Nat} {S : Int → Sl} {id : Int} {L : List Int} {e : Ending} (h : Hrg w b m S) (hp : PutRet w b m (fun v => slV (S v)) id L e w') :
    ∃ B cb, e = .returned (.tuple #[]) ∧ Hrg w' b (m + 1) (updS S id ⟨B, L.length, cb, atL L⟩) ∧ Exc (fun g => g = b) w w' := by
  obtain ⟨B, cb, h1, h2, h3, h4⟩ := hp
  refine ⟨B, cb, h1, ⟨?_, fun v => ?_⟩, h4⟩
  · rw [show (fun v => slV (updS S id ⟨B, L.length, cb, atL L⟩ v)) = (fun x => if x = id then Value.slice B L.length cb else slV (S x)) from funext fun v => by
      unfold updS
      by_cases e : v = id
      · rw [if_pos e, if_pos e]; rfl
      · rw [if_neg e, if_neg e]]
    exact h2
  · unfold updS
    by_cases e : v = id
    · rw [if_pos e]
      exact h3.wide (by have := h.lt; omega) (Nat.le_refl _)
    · rw [if_neg e]
      exact RowOwn.wide (RowOwn.exc (h.2 v) h4 (fun k hk e => by omega)) (Nat.le_refl _) h4.size
end Go.Proofs.Ytelcclhaepfmgaa
