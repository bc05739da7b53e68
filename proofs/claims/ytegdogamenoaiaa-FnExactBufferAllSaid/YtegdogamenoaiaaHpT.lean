/- A heap of ranks: what sifting up and down keeps, and that the least is taken first. Plain: nothing here speaks of the program. -/
namespace Go.Proofs.Ytegdogamenoaiaa
set_option linter.unusedVariables false

def swapR (r : Nat → Nat) (i j : Nat) : Nat → Nat := fun k => if k = i then r j else if k = j then r i else r k
theorem swapR_i (r : Nat → Nat) (i j : Nat) : swapR r i j i = r j := by simp [swapR]
theorem swapR_j (r : Nat → Nat) (i j : Nat) : swapR r i j j = r i := by unfold swapR; split <;> simp_all
theorem swapR_o (r : Nat → Nat) {i j k : Nat} (h1 : k ≠ i) (h2 : k ≠ j) : swapR r i j k = r k := by simp [swapR, h1, h2]

/-- Each place's parent is no greater. -/
def HP (m : Nat) (r : Nat → Nat) : Prop := ∀ k, 0 < k → k < m → r ((k - 1) / 2) ≤ r k
/-- .. but maybe place i's children. -/
def HDn (m : Nat) (r : Nat → Nat) (i : Nat) : Prop :=
  (∀ k, 0 < k → k < m → (k - 1) / 2 ≠ i → r ((k - 1) / 2) ≤ r k) ∧ (0 < i → ∀ k, 0 < k → k < m → (k - 1) / 2 = i → r ((i - 1) / 2) ≤ r k)
/-- .. but maybe place j. -/
def HUp (m : Nat) (r : Nat → Nat) (j : Nat) : Prop :=
  (∀ k, 0 < k → k < m → k ≠ j → r ((k - 1) / 2) ≤ r k) ∧ (0 < j → ∀ k, 0 < k → k < m → (k - 1) / 2 = j → r ((j - 1) / 2) ≤ r k)
/-- The m places hold just the ranks from t up to n, each once. -/
structure Cov (t n m : Nat) (r : Nat → Nat) : Prop where
  lo : ∀ k, k < m → t ≤ r k ∧ r k < n
  all : ∀ v, t ≤ v → v < n → ∃ k, k < m ∧ r k = v
  inj : ∀ k l, k < m → l < m → r k = r l → k = l

theorem HP.root {m : Nat} {r : Nat → Nat} (h : HP m r) : ∀ k, k < m → r 0 ≤ r k := by
  intro k
  induction k using Nat.strongRecOn with
  | ind k ih =>
    intro hk
    rcases Nat.eq_zero_or_pos k with h0 | h0
    · subst h0; exact Nat.le_refl _
    · exact Nat.le_trans (ih ((k - 1) / 2) (by omega) (by omega)) (h k h0 hk)
theorem Cov.root {t n m : Nat} {r : Nat → Nat} (h : Cov t n m r) (hp : HP m r) (ht : t < n) : r 0 = t := by
  obtain ⟨k, hk, e⟩ := h.all t (Nat.le_refl _) ht
  have h1 := hp.root k hk
  have h2 := (h.lo 0 (by omega)).1
  omega
theorem Cov.swap {t n m : Nat} {r : Nat → Nat} (h : Cov t n m r) {i j : Nat} (hi : i < m) (hj : j < m) : Cov t n m (swapR r i j) := by
  have hs : ∀ k, k < m → ∃ k', k' < m ∧ swapR r i j k = r k' ∧ (k' = i ∧ k = j ∨ k' = j ∧ k = i ∨ k' = k ∧ (k ≠ i ∧ k ≠ j)) := by
    intro k hk
    by_cases h1 : k = i
    · subst h1; exact ⟨j, hj, swapR_i r k j, .inr (.inl ⟨rfl, rfl⟩)⟩
    · by_cases h2 : k = j
      · subst h2; exact ⟨i, hi, swapR_j r i k, .inl ⟨rfl, rfl⟩⟩
      · exact ⟨k, hk, swapR_o r h1 h2, .inr (.inr ⟨rfl, h1, h2⟩)⟩
  refine ⟨fun k hk => ?_, fun v h1 h2 => ?_, fun k l hk hl e => ?_⟩
  · obtain ⟨k', hk', e, _⟩ := hs k hk
    rw [e]; exact h.lo k' hk'
  · obtain ⟨k, hk, e⟩ := h.all v h1 h2
    by_cases h3 : k = i
    · subst h3; exact ⟨j, hj, by rw [swapR_j]; exact e⟩
    · by_cases h4 : k = j
      · subst h4; exact ⟨i, hi, by rw [swapR_i]; exact e⟩
      · exact ⟨k, hk, by rw [swapR_o r h3 h4]; exact e⟩
  · obtain ⟨k', hk', e1, c1⟩ := hs k hk
    obtain ⟨l', hl', e2, c2⟩ := hs l hl
    rw [e1, e2] at e
    have := h.inj k' l' hk' hl' e
    omega
/-- The least one put last, and left out. -/
theorem Cov.pop {t n m : Nat} {r : Nat → Nat} (h : Cov t n (m + 1) r) (h0 : r 0 = t) : Cov (t + 1) n m (swapR r 0 m) := by
  have hs := h.swap (i := 0) (j := m) (by omega) (by omega)
  have hm : swapR r 0 m m = t := by rw [swapR_j]; exact h0
  refine ⟨fun k hk => ?_, fun v h1 h2 => ?_, fun k l hk hl e => hs.inj k l (by omega) (by omega) e⟩
  · have h1 := hs.lo k (by omega)
    have h2 : swapR r 0 m k ≠ t := fun e => by have := hs.inj k m (by omega) (by omega) (by omega); omega
    omega
  · obtain ⟨k, hk, e⟩ := hs.all v (by omega) h2
    refine ⟨k, ?_, e⟩
    have : k ≠ m := fun e2 => by subst e2; omega
    omega
theorem HP.pop {m : Nat} {r : Nat → Nat} (h : HP (m + 1) r) : HDn m (swapR r 0 m) 0 := by
  refine ⟨fun k h1 h2 h3 => ?_, fun h1 => absurd h1 (by omega)⟩
  rw [swapR_o r (by omega) (by omega), swapR_o r (by omega) (by omega)]
  exact h k h1 (by omega)
theorem HDn.done1 {m : Nat} {r : Nat → Nat} {i : Nat} (h : HDn m r i) (hn : m ≤ 2 * i + 1) : HP m r := fun k h1 h2 => h.1 k h1 h2 (by omega)
theorem HDn.done {m : Nat} {r : Nat → Nat} {i : Nat} (h : HDn m r i) (h1 : r i ≤ r (2 * i + 1)) (h2 : 2 * i + 2 < m → r i ≤ r (2 * i + 2)) : HP m r := fun k h3 h4 => by
  by_cases h5 : (k - 1) / 2 = i
  · rw [h5]
    rcases (by omega : k = 2 * i + 1 ∨ k = 2 * i + 2) with e | e
    · subst e; exact h1
    · subst e; exact h2 h4
  · exact h.1 k h3 h4 h5
theorem HDn.step {m : Nat} {r : Nat → Nat} {i j : Nat} (h : HDn m r i) (hj : j = 2 * i + 1 ∨ j = 2 * i + 2) (hm : j < m) (hlt : r j < r i) (hle : ∀ k, 0 < k → k < m → (k - 1) / 2 = i → r j ≤ r k) : HDn m (swapR r i j) j := by
  have hji : (j - 1) / 2 = i := by omega
  refine ⟨fun k h1 h2 h3 => ?_, fun _ k h1 h2 h3 => ?_⟩
  · by_cases hki : k = i
    · subst hki
      rw [swapR_i, swapR_o r (by omega) (by omega)]
      exact h.2 h1 j (by omega) hm hji
    · by_cases hkj : k = j
      · subst hkj
        rw [hji, swapR_i, swapR_j]; omega
      · rw [swapR_o r hki hkj]
        by_cases hp : (k - 1) / 2 = i
        · rw [hp, swapR_i]; exact hle k h1 h2 hp
        · rw [swapR_o r hp h3]; exact h.1 k h1 h2 hp
  · rw [hji, swapR_i, swapR_o r (by omega) (by omega)]
    have := h.1 k h1 h2 (by omega)
    rw [h3] at this; exact this
theorem HUp.done0 {m : Nat} {r : Nat → Nat} (h : HUp m r 0) : HP m r := fun k h1 h2 => h.1 k h1 h2 (by omega)
theorem HUp.done {m : Nat} {r : Nat → Nat} {j : Nat} (h : HUp m r j) (hle : r ((j - 1) / 2) ≤ r j) : HP m r := fun k h1 h2 => by
  by_cases e : k = j
  · subst e; exact hle
  · exact h.1 k h1 h2 e
theorem HUp.step {m : Nat} {r : Nat → Nat} {j : Nat} (h : HUp m r j) (h0 : 0 < j) (hm : j < m) (hlt : r j < r ((j - 1) / 2)) : HUp m (swapR r ((j - 1) / 2) j) ((j - 1) / 2) := by
  refine ⟨fun k h1 h2 h3 => ?_, fun hi k h1 h2 h3 => ?_⟩
  · by_cases hkj : k = j
    · subst hkj
      rw [swapR_i, swapR_j]; omega
    · rw [swapR_o r h3 hkj]
      by_cases hp : (k - 1) / 2 = j
      · rw [hp, swapR_j]; exact h.2 h0 k h1 h2 hp
      · by_cases hp2 : (k - 1) / 2 = (j - 1) / 2
        · rw [hp2, swapR_i]
          have := h.1 k h1 h2 hkj
          rw [hp2] at this; omega
        · rw [swapR_o r hp2 hp]; exact h.1 k h1 h2 hkj
  · have h4 := h.1 ((j - 1) / 2) hi (by omega) (by omega)
    rw [swapR_o r (i := (j - 1) / 2) (j := j) (k := ((j - 1) / 2 - 1) / 2) (by omega) (by omega)]
    by_cases hkj : k = j
    · subst hkj; rw [swapR_j]; exact h4
    · rw [swapR_o r (by omega) hkj]
      have := h.1 k h1 h2 hkj
      rw [h3] at this; omega
/-- One put behind a heap. -/
theorem HP.push {m : Nat} {r : Nat → Nat} (h : ∀ k, 0 < k → k < m → r ((k - 1) / 2) ≤ r k) : HUp (m + 1) r m :=
  ⟨fun k h1 h2 h3 => h k h1 (by omega), fun _ k h1 h2 h3 => by omega⟩
/-- What ascends is a heap; each rank lies at its own place. -/
theorem HP.id (m : Nat) : HP m (fun k => k) := fun k h1 h2 => by show (k - 1) / 2 ≤ k; omega
theorem Cov.id (n : Nat) : Cov 0 n n (fun k => k) := ⟨fun k hk => ⟨Nat.zero_le _, hk⟩, fun v _ h => ⟨v, h, rfl⟩, fun k l _ _ e => e⟩
/-- A new one of rank at behind n others that ascend. -/
def pushR (at_ n : Nat) : Nat → Nat := fun k => if k < n then (if k < at_ then k else k + 1) else at_
theorem pushR_mono {at_ n k l : Nat} (h : k ≤ l) (hl : l < n) : pushR at_ n k ≤ pushR at_ n l := by unfold pushR; split <;> split <;> (try split) <;> (try split) <;> omega
theorem Cov.push {at_ n : Nat} (h : at_ ≤ n) : Cov 0 (n + 1) (n + 1) (pushR at_ n) := by
  refine ⟨fun k hk => ⟨Nat.zero_le _, by unfold pushR; split <;> (try split) <;> omega⟩, fun v _ hv => ?_, fun k l hk hl e => ?_⟩
  · rcases (by omega : v < at_ ∨ v = at_ ∨ at_ < v) with h1 | h1 | h1
    · exact ⟨v, by omega, by unfold pushR; rw [if_pos (by omega), if_pos h1]⟩
    · exact ⟨n, by omega, by unfold pushR; rw [if_neg (by omega)]; exact h1.symm⟩
    · exact ⟨v - 1, by omega, by unfold pushR; rw [if_pos (by omega), if_neg (by omega)]; omega⟩
  · unfold pushR at e
    split at e <;> split at e <;> (try split at e) <;> (try split at e) <;> omega
theorem HUp.push {at_ n : Nat} : HUp (n + 1) (pushR at_ n) n :=
  HP.push fun k h1 h2 => pushR_mono (by omega) h2
end Go.Proofs.Ytegdogamenoaiaa
