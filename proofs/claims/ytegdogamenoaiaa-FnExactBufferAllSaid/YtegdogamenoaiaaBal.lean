/- All packets that are returned at a time: what both compute (plain), and where their loop stands. -/
import Derived.Test.YtegdogamenoaiaaBdr
import Derived.Test.YtegdogamenoaiaaDro
namespace Go.Proofs.Ytegdogamenoaiaa
open Go Go.RowKit
set_option linter.unusedVariables false
set_option linter.unusedSimpArgs false
def dropQ (q : Nat → Hd) (k : Nat) : Nat → Hd := fun i => q (i + k)
theorem dropQ_suc (q : Nat → Hd) (k : Nat) : sucQ (dropQ q k) = dropQ q (k + 1) := by
  funext i
  show q (i + 1 + k) = q (i + (k + 1))
  rw [show i + 1 + k = i + (k + 1) by omega]
theorem dropQ_zero (q : Nat → Hd) : dropQ q 0 = q := rfl
theorem dropQ_at (q : Nat → Hd) (k : Nat) : dropQ q k 0 = q k := by show q (0 + k) = q k; rw [Nat.zero_add]
def yAt (y : Int) (q : Nat → Hd) : Nat → Int
  | 0 => y
  | k + 1 => (q k).p.w + 1
/-- The k-th is returned. -/
def tkA (y d : Int) (n : Nat) (q : Nat → Hd) (now : Int) (k : Nat) : Prop := tkOk (yAt y q k) d (n - k) (dropQ q k) now
instance (y d : Int) (n : Nat) (q : Nat → Hd) (now : Int) (k : Nat) : Decidable (tkA y d n q now k) := inferInstanceAs (Decidable (tkOk _ _ _ _ _))
theorem tkA_end (y d : Int) (n : Nat) (q : Nat → Hd) (now : Int) : ¬ tkA y d n q now n := fun h => by have := h.2.2.1; omega
theorem first_no {P : Nat → Prop} [DecidablePred P] {n : Nat} (hn : ¬ P n) : ∃ K, K ≤ n ∧ ¬ P K ∧ ∀ k, k < K → P k := by
  have h : ∀ m, (∀ k, k < m → P k) ∨ ∃ K, K < m ∧ ¬ P K ∧ ∀ k, k < K → P k := by
    intro m
    induction m with
    | zero => exact Or.inl fun k hk => absurd hk (by omega)
    | succ m ih =>
      rcases ih with h | ⟨K, h1, h2, h3⟩
      · by_cases hp : P m
        · refine Or.inl fun k hk => ?_
          by_cases e : k = m
          · subst e; exact hp
          · exact h k (by omega)
        · exact Or.inr ⟨m, by omega, hp, h⟩
      · exact Or.inr ⟨K, by omega, h2, h3⟩
  rcases h n with h | ⟨K, h1, h2, h3⟩
  · exact ⟨n, Nat.le_refl _, hn, h⟩
  · exact ⟨K, by omega, h2, h3⟩
def lenV : Value → Nat
  | .slice _ n _ => n
  | _ => 0
/-- What both hand back. -/
def GivesBA (yy dd : Int) (nn : Nat) (qq : Nat → Hd) (K : Nat) (pp : Nat → Pk) (ok : Bool) (w : World) (e : Ending) (w' : World) : Prop :=
  ∃ A c B cb, RowOwn 54 w' w.heap.size w'.heap.size A nn c 7 (HdF qq) ∧ RowOwn 30 w' w.heap.size w'.heap.size B K cb 6 (PkF pp) ∧
    (∀ g, (Value.slice B K cb).ownBlock = some g → (Value.slice A nn c).ownBlock ≠ some g) ∧ e = .returned (.tuple #[.agg #[.int .i64 yy, .int .i64 dd, .slice A nn c], .slice B K cb, .bool ok]) ∧ Below w.heap.size w w'
/-- A take that goes on. -/
theorem take_on {y d now : Int} {n k : Nat} {q : Nat → Hd} {w : World} {e : Ending} {w' : World} (hk : tkA y d n q now k) (h : TakeRet (yAt y q k) d (n - k) (dropQ q k) now w e w') :
    ∃ A c, RowOwn 54 w' w.heap.size w'.heap.size A (n - (k + 1)) c 7 (HdF (dropQ q (k + 1))) ∧ e = .returned (.tuple #[.agg #[.int .i64 (yAt y q (k + 1)), .int .i64 d, .slice A (n - (k + 1)) c], .agg #[.int .i64 (q k).p.w, .int .i64 (q k).p.t, .int .i64 (q k).p.l, .int .i64 (q k).p.s, .bool (q k).p.k, .bool (q k).p.z], .bool true]) ∧ Below w.heap.size w w' := by
  rcases h with ⟨h1, _⟩ | ⟨_, A, c, he, hr, hb⟩
  · exact absurd hk h1
  · rw [dropQ_at] at he
    rw [dropQ_suc] at hr
    rw [show n - k - 1 = n - (k + 1) by omega] at he hr
    exact ⟨A, c, hr, he, hb⟩
theorem take_off {y d now : Int} {n k : Nat} {q : Nat → Hd} {w : World} {e : Ending} {w' : World} (hk : ¬ tkA y d n q now k) (h : TakeRet (yAt y q k) d (n - k) (dropQ q k) now w e w') :
    e = .returned (.tuple #[.agg #[.int .i64 0, .int .i64 0, .slice none 0 0], .agg #[.int .i64 0, .int .i64 0, .int .i64 0, .int .i64 0, .bool false, .bool false], .bool false]) ∧ Below w.heap.size w w' := by
  rcases h with ⟨_, he, hb⟩ | ⟨h1, _⟩
  · exact ⟨he, hb⟩
  · exact absurd h1 hk
/-- Where the loop stands: the box of the rest at b8, the result's box at r4. -/
structure ASt (w : World) (lo r4 b8 : Nat) (y d : Int) (n : Nat) (q : Nat → Hd) (k : Nat) (A : Option Addr) (c : Nat) (B : Option Addr) (cb : Nat) (wx : World) : Prop where
  bel : Below w.heap.size w wx
  res : Bx wx r4 0 0 none 0 0
  box : Bx wx b8 (yAt y q k) d A (n - k) c
  ra : RowOwn 54 wx lo wx.heap.size A (n - k) c 7 (HdF (dropQ q k))
  rb : RowOwn 30 wx lo wx.heap.size B k cb 6 (PkF fun i => (q i).p)
  nb : ∀ g, (Value.slice B k cb).ownBlock = some g → g ≠ b8
  dis : ∀ g, (Value.slice B k cb).ownBlock = some g → (Value.slice A (n - k) c).ownBlock ≠ some g
theorem Bx.below {w w' : World} {b : Nat} {y d : Int} {A : Option Addr} {n c : Nat} (h : Bx w b y d A n c) (hp : Below w.heap.size w w') : Bx w' b y d A n c := by
  obtain ⟨h1, h2, h3, h4, h5⟩ := h
  exact ⟨(hp.cell (p := ⟨b, 0, none⟩) h5).trans h1, (hp.cell (p := ⟨b, 1, none⟩) h5).trans h2, (hp.cell (p := ⟨b, 2, none⟩) h5).trans h3, fun j => (hp.frozen (p := ⟨b, j, none⟩) h5).trans (h4 j), Nat.lt_of_lt_of_le h5 hp.size⟩
theorem Bx.grown {w w' : World} {b : Nat} {y d : Int} {A : Option Addr} {n c : Nat} {r : Option Nat} (h : Bx w b y d A n c) (hp : w.grownBy w' r) (hne : some b ≠ r) : Bx w' b y d A n c := by
  obtain ⟨h1, h2, h3, h4, h5⟩ := h
  have hb := hp.block b h5 hne
  have hc : ∀ o : Nat, w'.cell? ⟨b, o, none⟩ = w.cell? ⟨b, o, none⟩ := fun o => by simp only [World.cell?, hb]
  have hf : ∀ o : Nat, w'.frozen? ⟨b, o, none⟩ = w.frozen? ⟨b, o, none⟩ := fun o => by simp only [World.frozen?, hb]
  exact ⟨(hc 0).trans h1, (hc 1).trans h2, (hc 2).trans h3, fun j => (hf j).trans (h4 j), Nat.lt_of_lt_of_le h5 hp.size⟩
theorem ASt.below {w wx w2 : World} {lo r4 b8 : Nat} {y d : Int} {n : Nat} {q : Nat → Hd} {k : Nat} {A : Option Addr} {c : Nat} {B : Option Addr} {cb : Nat} (h : ASt w lo r4 b8 y d n q k A c B cb wx) (hp : Below wx.heap.size wx w2) : ASt w lo r4 b8 y d n q k A c B cb w2 :=
  ⟨h.bel.trans (hp.mono h.bel.size), h.res.below hp, h.box.below hp, (h.ra.below (Nat.le_refl _) hp).wide (Nat.le_refl _) hp.size, (h.rb.below (Nat.le_refl _) hp).wide (Nat.le_refl _) hp.size, h.nb, h.dis⟩
/-- One more is appended, and the rest is what the take left. -/
theorem ASt.next {w wx w3 : World} {lo r4 b8 : Nat} {y d : Int} {n : Nat} {q : Nat → Hd} {k : Nat} {A A2 : Option Addr} {c c2 : Nat} {B B2 : Option Addr} {cb cb2 : Nat} {hw : w.heap.size ≤ lo}
    (h : ASt w lo r4 b8 y d n q k A c B cb wx) (hr : r4 < lo) (hr8 : r4 ≠ b8) (hwb : w.heap.size ≤ b8) (hg : wx.grownBy w3 (Value.slice B k cb).ownBlock)
    (hA : ∃ s, RowOwn 54 w3 s w3.heap.size A2 (n - (k + 1)) c2 7 (HdF (dropQ q (k + 1))) ∧ lo ≤ s ∧ b8 < s ∧ (∀ g, (Value.slice B2 (k + 1) cb2).ownBlock = some g → (Value.slice A2 (n - (k + 1)) c2).ownBlock ≠ some g))
    (hB : RowOwn 30 w3 lo w3.heap.size B2 (k + 1) cb2 6 (PkF fun i => (q i).p)) (hnb : ∀ g, (Value.slice B2 (k + 1) cb2).ownBlock = some g → g ≠ b8) :
    ASt w lo r4 b8 y d n q (k + 1) A2 c2 B2 cb2 (((w3.setCell ⟨b8, 0, none⟩ (.int .i64 (yAt y q (k + 1)))).setCell ⟨b8, 1, none⟩ (.int .i64 d)).setCell ⟨b8, 2, none⟩ (.slice A2 (n - (k + 1)) c2)) := by
  obtain ⟨s, hA, hs, hs8, hdis⟩ := hA
  have hlt : ∀ g, (Value.slice B k cb).ownBlock = some g → lo ≤ g := fun g hg => (h.rb.1.lt g hg).1
  have hbel : Below w.heap.size w w3 := h.bel.trans ⟨hg.os, hg.tape, hg.output, hg.size, fun i hi => hg.block i (by have := h.bel.size; omega) (fun e => by have := hlt i e.symm; omega)⟩
  refine ⟨((hbel.setCell (p := ⟨b8, 0, none⟩) hwb _).setCell (p := ⟨b8, 1, none⟩) hwb _).setCell (p := ⟨b8, 2, none⟩) hwb _, (h.res.grown hg (fun e => by have := hlt r4 e.symm; omega)).off hr8 _ _ _, (h.box.grown hg (fun e => h.nb b8 e.symm rfl)).put, ?_, ?_, hnb, hdis⟩
  · have h1 := ((hA.setC (p := ⟨b8, 0, none⟩) (Or.inl hs8) (.int .i64 (yAt y q (k + 1)))).setC (p := ⟨b8, 1, none⟩) (Or.inl hs8) (.int .i64 d)).setC (p := ⟨b8, 2, none⟩) (Or.inl hs8) (.slice A2 (n - (k + 1)) c2)
    exact h1.wide hs (by simp [World.setCell])
  · rcases RowOwn.cases hB with ⟨e1, e2, e3⟩ | ⟨g, rfl, hlo, _⟩
    · exact absurd e2 (by omega)
    · have hne : b8 ≠ g := fun e => hnb g rfl e.symm
      have h1 := ((RowOwn.other (p := ⟨b8, 0, none⟩) hne hB (.int .i64 (yAt y q (k + 1)))).other (p := ⟨b8, 1, none⟩) hne (.int .i64 d)).other (p := ⟨b8, 2, none⟩) hne (.slice A2 (n - (k + 1)) c2)
      exact h1.wide (Nat.le_refl _) (by simp [World.setCell])
theorem six_at (w : World) (b0 : Nat) (a b c d x y : Value) (t : TypeId) (hb : b0 = w.heap.size) : RowAt (w.alloc (.cells #[a, b, c, d, x, y] t)) b0 (b0 + 1) (some ⟨b0, 0, none⟩) 1 6 (fun j => [a, b, c, d, x, y].getD j a) := by
  subst hb
  exact six_row w a b c d x y t
end Go.Proofs.Ytegdogamenoaiaa
