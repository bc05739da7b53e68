/- What the steps of the speakers keep, and what follows from three of them. Nothing here walks the program. -/
import Derived.Test.YtcdpalpoanlbmaaStp
namespace Go.Proofs.Ytcdpalpoanlbmaa
open Go Go.RowKit
set_option linter.unusedVariables false
set_option linter.unusedSimpArgs false

theorem st_facts {a b d : Int} {n : Nat} {z : Nat → Int} (h : OkStep a b d n z) :
    ∃ B : Nat, bestF z n = B ∧ B < n ∧ n ≤ 6 ∧ (∀ i, i < n → z i ≤ z B) ∧ 0 ≤ z B ∧
      ((a = -1 ∧ b = -1 ∧ d = 0 ∧ ((20 ≤ z B ∧ stN a b d n z = B) ∨ (z B < 20 ∧ stN a b d n z = -1)) ∧ stX a b d n z = -1 ∧ stW a b d n z = 0) ∨
       (∃ N : Nat, a = N ∧ N < n ∧ (((B = N ∨ z B < z N + 10) ∧ stN a b d n z = a ∧ stX a b d n z = -1 ∧ stW a b d n z = 0) ∨
         (B ≠ N ∧ z N + 10 ≤ z B ∧ ((b = B ∧ d = 2 ∧ stN a b d n z = B ∧ stX a b d n z = -1 ∧ stW a b d n z = 0) ∨
           (b = B ∧ d = 1 ∧ stN a b d n z = a ∧ stX a b d n z = B ∧ stW a b d n z = 2) ∨ (b ≠ B ∧ stN a b d n z = a ∧ stX a b d n z = B ∧ stW a b d n z = 1)))))) := by
  obtain ⟨⟨⟨h1, h2, h3, h4⟩, h5⟩, ⟨⟨h6, h7⟩, h8⟩, h9, h10⟩ := h
  have hB := bestF_lt z (show 0 < n by omega) n (Nat.le_refl _)
  have hm := bestF_max z n
  refine ⟨bestF z n, rfl, hB, h7, fun i hi => hm i hi, (h8 _ hB).1, ?_⟩
  generalize hG : bestF z n = B at *
  unfold stN stX stW
  rw [hG]
  by_cases ha : a = -1
  · left
    subst ha
    have hb : b = -1 ∧ d = 0 := by omega
    refine ⟨rfl, hb.1, hb.2, ?_, by simp, by simp⟩
    simp only [if_true]
    by_cases hz : 20 ≤ z B
    · left; simp [hz]
    · right; simp [hz]; omega
  · right
    obtain ⟨N, rfl⟩ : ∃ N : Nat, a = N := ⟨a.toNat, by omega⟩
    refine ⟨N, rfl, by omega, ?_⟩
    simp only [ha, if_false, Int.toNat_natCast]
    by_cases h11 : B = N ∨ z B < z N + 10
    · left
      have : ((B : Int) = N ∨ z B < z N + 10) := by omega
      simp only [this, if_true]
      exact ⟨h11, by simp⟩
    · right
      have hno : ¬ ((B : Int) = N ∨ z B < z N + 10) := by omega
      simp only [hno, if_false]
      refine ⟨by omega, by omega, ?_⟩
      by_cases h12 : b = B
      · subst h12
        rcases (by omega : d = 1 ∨ d = 2) with rfl | rfl
        · right; left; simp
        · left; simp
      · right; right
        have : ¬ ((B : Int) = b) := fun e => h12 e.symm
        simp [this, h12]
theorem st_ok {a b d : Int} {n : Nat} {z : Nat → Int} (h : OkStep a b d n z) : OkStep (stN a b d n z) (stX a b d n z) (stW a b d n z) n z := by
  obtain ⟨B, _, hB, hn6, hm, hz0, hc⟩ := st_facts h
  obtain ⟨⟨⟨h1, h2, h3, h4⟩, h5⟩, hL, h9, h10⟩ := h
  refine ⟨?_, hL, ?_, ?_⟩
  · unfold SpkOk
    rcases hc with ⟨_, _, _, (⟨_, e1⟩ | ⟨_, e1⟩), e2, e3⟩ | ⟨N, hN, hNn, (⟨_, e1, e2, e3⟩ | ⟨_, _, (⟨_, _, e1, e2, e3⟩ | ⟨_, _, e1, e2, e3⟩ | ⟨_, e1, e2, e3⟩)⟩)⟩ <;> rw [e1, e2, e3] <;> omega
  · rcases hc with ⟨_, _, _, (⟨_, e1⟩ | ⟨_, e1⟩), e2, e3⟩ | ⟨N, hN, hNn, (⟨_, e1, e2, e3⟩ | ⟨_, _, (⟨_, _, e1, e2, e3⟩ | ⟨_, _, e1, e2, e3⟩ | ⟨_, e1, e2, e3⟩)⟩)⟩ <;> rw [e1] <;> omega
  · rcases hc with ⟨_, _, _, (⟨_, e1⟩ | ⟨_, e1⟩), e2, e3⟩ | ⟨N, hN, hNn, (⟨_, e1, e2, e3⟩ | ⟨_, _, (⟨_, _, e1, e2, e3⟩ | ⟨_, _, e1, e2, e3⟩ | ⟨_, e1, e2, e3⟩)⟩)⟩ <;> rw [e2] <;> omega
theorem st_now {a b d : Int} {n : Nat} {z : Nat → Int} (h : OkStep a b d n z) :
    ∃ B : Nat, B < n ∧ n ≤ 6 ∧ (∀ i, i < n → z i ≤ z B) ∧ 0 ≤ z B ∧ (stN a b d n z = a ∨ stN a b d n z = B) := by
  obtain ⟨B, _, hB, hn6, hm, hz0, hc⟩ := st_facts h
  refine ⟨B, hB, hn6, hm, hz0, ?_⟩
  rcases hc with ⟨e0, _, _, (⟨_, e1⟩ | ⟨_, e1⟩), e2, e3⟩ | ⟨N, hN, hNn, (⟨_, e1, e2, e3⟩ | ⟨_, _, (⟨_, _, e1, e2, e3⟩ | ⟨_, _, e1, e2, e3⟩ | ⟨_, e1, e2, e3⟩)⟩)⟩ <;> omega
theorem sp_yes {a b d : Int} {n : Nat} {z : Nat → Int} (h : OkStep a b d n z) : spN a b d n z = stN a b d n z ∧ spX a b d n z = stX a b d n z ∧ spW a b d n z = stW a b d n z ∧ spB a b d n z = true := by
  unfold spN spX spW spB
  rw [if_pos h, if_pos h, if_pos h]
  exact ⟨rfl, rfl, rfl, decide_eq_true h⟩
theorem sp_no {a b d : Int} {n : Nat} {z : Nat → Int} (h : ¬ OkStep a b d n z) : spN a b d n z = 0 ∧ spX a b d n z = 0 ∧ spW a b d n z = 0 ∧ spB a b d n z = false := by
  unfold spN spX spW spB
  rw [if_neg h, if_neg h, if_neg h]
  exact ⟨rfl, rfl, rfl, decide_eq_false h⟩
/-- The same loudness, step by step. -/
def stT (n : Nat) (z : Nat → Int) (a b d : Int) : Nat → Int × Int × Int
  | 0 => (a, b, d)
  | k + 1 => let t := stT n z a b d k; (stN t.1 t.2.1 t.2.2 n z, stX t.1 t.2.1 t.2.2 n z, stW t.1 t.2.1 t.2.2 n z)
theorem stT_ok {a b d : Int} {n : Nat} {z : Nat → Int} (h : OkStep a b d n z) : ∀ k, OkStep (stT n z a b d k).1 (stT n z a b d k).2.1 (stT n z a b d k).2.2 n z
  | 0 => h
  | k + 1 => st_ok (stT_ok h k)
theorem stT_three {a b d : Int} {n N : Nat} {z : Nat → Int} (h : OkStep a b d n z) (ha : a = N) :
    (stT n z a b d 3).1 = if bestF z n = N ∨ z (bestF z n) < z N + 10 then (N : Int) else (bestF z n : Int) := by
  have key : ∀ a b d : Int, OkStep a b d n z → a = N → (bestF z n = N ∨ z (bestF z n) < z N + 10) → stN a b d n z = N := by
    intro a b d h ha hc
    obtain ⟨B, e, hB, hn6, hm, hz0, hq⟩ := st_facts h
    rw [e] at hc
    rcases hq with ⟨e1, _⟩ | ⟨M, hM, hMn, (⟨_, e1, _, _⟩ | ⟨h1, h2, _⟩)⟩
    · omega
    · omega
    · obtain rfl : M = N := by omega
      omega
  have stay : ∀ a b d : Int, OkStep a b d n z → a = (bestF z n : Nat) → stN a b d n z = (bestF z n : Nat) := by
    intro a b d h ha
    obtain ⟨B, e, hB, hn6, hm, hz0, hq⟩ := st_facts h
    rw [e] at ha ⊢
    rcases hq with ⟨e1, _⟩ | ⟨M, hM, hMn, (⟨_, e1, _, _⟩ | ⟨h1, h2, _⟩)⟩ <;> omega
  have o1 := stT_ok h 1
  have o2 := stT_ok h 2
  split
  · rename_i hc
    have n1 := key _ _ _ h ha hc
    have n2 := key _ _ _ o1 n1 hc
    exact key _ _ _ o2 n2 hc
  · rename_i hc
    have step : ∀ a b d : Int, OkStep a b d n z → a = N → ((b = (bestF z n : Nat) ∧ d = 2 ∧ stN a b d n z = (bestF z n : Nat)) ∨ (b = (bestF z n : Nat) ∧ d = 1 ∧ stN a b d n z = N ∧ stX a b d n z = (bestF z n : Nat) ∧ stW a b d n z = 2) ∨ (b ≠ (bestF z n : Nat) ∧ stN a b d n z = N ∧ stX a b d n z = (bestF z n : Nat) ∧ stW a b d n z = 1)) := by
      intro a b d h ha
      obtain ⟨B, e, hB, hn6, hm, hz0, hq⟩ := st_facts h
      rw [e] at hc ⊢
      rcases hq with ⟨e1, _⟩ | ⟨M, hM, hMn, (⟨h1, e1, _, _⟩ | ⟨h1, h2, h3⟩)⟩
      · omega
      · obtain rfl : M = N := by omega
        exact absurd h1 hc
      · obtain rfl : M = N := by omega
        rcases h3 with ⟨g1, g2, g3, g4, g5⟩ | ⟨g1, g2, g3, g4, g5⟩ | ⟨g1, g3, g4, g5⟩
        · exact .inl ⟨g1, g2, g3⟩
        · exact .inr (.inl ⟨g1, g2, g3.trans ha, g4, g5⟩)
        · exact .inr (.inr ⟨g1, g3.trans ha, g4, g5⟩)
    rcases step _ _ _ h ha with ⟨_, _, s1⟩ | ⟨_, _, s1, s2, s3⟩ | ⟨_, s1, s2, s3⟩
    · exact stay _ _ _ o2 (stay _ _ _ o1 s1)
    · rcases step _ _ _ o1 s1 with ⟨_, _, t1⟩ | ⟨_, g2, _⟩ | ⟨g1, _⟩
      · exact stay _ _ _ o2 t1
      · exact absurd (s3.symm.trans g2) (by decide)
      · exact absurd s2 g1
    · rcases step _ _ _ o1 s1 with ⟨_, g2, _⟩ | ⟨_, _, t1, t2, t3⟩ | ⟨g1, _⟩
      · exact absurd (s3.symm.trans g2) (by decide)
      · rcases step _ _ _ o2 t1 with ⟨_, _, u1⟩ | ⟨_, g2, _⟩ | ⟨g1, _⟩
        · exact u1
        · exact absurd (t3.symm.trans g2) (by decide)
        · exact absurd t2 g1
      · exact absurd s2 g1
end Go.Proofs.Ytcdpalpoanlbmaa
