/- Rooms: plain laws: members by lists; what is valid stays valid. -/
import Derived.Test.YtelcclhaepfmgaaRhx
namespace Go.Proofs.Ytelcclhaepfmgaa
open Go Go.RowKit
set_option linter.unusedVariables false
set_option linter.unusedSimpArgs false
/-- A member from a list. -/
def mkM (id : Int) (s : Bool) (l : List Int) : Mm := ⟨id, s, l.length, atL l⟩
/-- What a member hears, as a list. -/
def lz (m : Mm) : List Int := (List.range m.n).map m.z
/-- A member with nothing behind its list. -/
def nm (m : Mm) : Mm := mkM m.id m.s (lz m)
theorem lz_len (m : Mm) : (lz m).length = m.n := by simp [lz]
theorem atL_lz {m : Mm} {i : Nat} (h : i < m.n) : atL (lz m) i = m.z i := by simp [atL, lz, List.getD, h]
theorem lz_mk (id : Int) (s : Bool) (l : List Int) : lz (mkM id s l) = l := by
  apply List.ext_getElem?
  intro i
  by_cases h : i < l.length
  · simp [lz, mkM, atL, h, List.getD]
  · simp [lz, mkM, h]
theorem nm_mk (id : Int) (s : Bool) (l : List Int) : nm (mkM id s l) = mkM id s l := by unfold nm; rw [lz_mk]; rfl
theorem nm_id (m : Mm) : (nm m).id = m.id := rfl
theorem nm_s (m : Mm) : (nm m).s = m.s := rfl
theorem nm_n (m : Mm) : (nm m).n = m.n := lz_len m
theorem lz_nm (m : Mm) : lz (nm m) = lz m := lz_mk _ _ _
theorem nm_nm (m : Mm) : nm (nm m) = nm m := nm_mk _ _ _
theorem nm_eq {m : Mm} {id : Int} {s : Bool} {l : List Int} (h1 : m.id = id) (h2 : m.s = s) (h3 : lz m = l) : nm m = mkM id s l := by unfold nm; rw [h1, h2, h3]
theorem mem_lz {m : Mm} {x : Int} : x ∈ lz m ↔ ∃ i, i < m.n ∧ m.z i = x := by simp [lz]
theorem hasB_lz (m : Mm) (v : Int) : hasB m.n m.z v = decide (v ∈ lz m) := by
  unfold hasB
  exact decide_eq_decide.2 mem_lz.symm
theorem woL_filter (z : Nat → Int) (v : Int) : ∀ n, woL z v n = ((List.range n).map z).filter (fun x => decide (x ≠ v))
  | 0 => rfl
  | n + 1 => by
    unfold woL
    rw [List.range_succ, List.map_append, List.filter_append, woL_filter z v n]
    by_cases e : z n = v <;> simp [e]
theorem woL_lz (m : Mm) (v : Int) : woL m.z v m.n = (lz m).filter (fun x => decide (x ≠ v)) := woL_filter _ _ _
theorem foL_filter (l : List Int) (p : Int → Bool) (z : Nat → Int) : ∀ n, foL l p z n = l ++ ((List.range n).map z).filter p
  | 0 => by simp [foL]
  | n + 1 => by
    unfold foL
    rw [List.range_succ, List.map_append, List.filter_append, foL_filter l p z n]
    by_cases e : p (z n) = true <;> simp [e]
theorem addL_lz (m : Mm) (v : Int) : addL m.z v m.n = (lz m).filter (fun x => decide (x < v)) ++ [v] ++ (lz m).filter (fun x => decide (v < x)) := by
  unfold addL
  rw [foL_filter, foL_filter]
  rfl
theorem lz_less (m : Mm) (v : Int) : lz (lessM m v) = (lz m).filter (fun x => decide (x ≠ v)) := (lz_mk m.id m.s (woL m.z v m.n)).trans (woL_lz m v)
def ids (n : Nat) (r : Nat → Mm) : List Int := (List.range n).map fun i => (r i).id
theorem mem_ids {n : Nat} {r : Nat → Mm} {x : Int} : x ∈ ids n r ↔ ∃ i, i < n ∧ (r i).id = x := by simp [ids]
theorem hrL_filter (r : Nat → Mm) (m : Mm) (other : Int) (on : Bool) : ∀ n, hrL r m other on n = (ids n r).filter (hrB m other on)
  | 0 => rfl
  | n + 1 => by
    unfold hrL ids
    rw [List.range_succ, List.map_append, List.filter_append, hrL_filter r m other on n]
    by_cases e : hrB m other on (r n).id = true <;> simp [e, ids]
/-- Two ascending lists with the same numbers are the same. -/
theorem asc_ext : ∀ {l1 l2 : List Int}, l1.Pairwise (· < ·) → l2.Pairwise (· < ·) → (∀ x, x ∈ l1 ↔ x ∈ l2) → l1 = l2
  | [], [], _, _, _ => rfl
  | [], b :: l, _, _, h => absurd ((h b).2 (by simp)) (by simp)
  | a :: l, [], _, _, h => absurd ((h a).1 (by simp)) (by simp)
  | a :: k, b :: l, h1, h2, h => by
    rw [List.pairwise_cons] at h1 h2
    have e : a = b := by
      have ha : a ∈ b :: l := (h a).1 (by simp)
      have hb : b ∈ a :: k := (h b).2 (by simp)
      rcases List.mem_cons.1 ha with e | e
      · exact e
      · rcases List.mem_cons.1 hb with e2 | e2
        · exact e2.symm
        · have h3 := h2.1 a e
          have h4 := h1.1 b e2
          omega
    subst e
    rw [asc_ext h1.2 h2.2 fun x => ?_]
    constructor
    · intro hx
      have h3 := h1.1 x hx
      rcases List.mem_cons.1 ((h x).1 (by simp [hx])) with e | e
      · omega
      · exact e
    · intro hx
      have h3 := h2.1 x hx
      rcases List.mem_cons.1 ((h x).2 (by simp [hx])) with e | e
      · omega
      · exact e
theorem asc_iff (f : Nat → Int) : ∀ n, (∀ i, i < n → 0 < i → f (i - 1) < f i) ↔ ∀ i j, i < j → j < n → f i < f j
  | n => by
    constructor
    · intro h i j hij hj
      induction j with
      | zero => omega
      | succ j ih =>
        have h1 := h (j + 1) hj (by omega)
        simp at h1
        by_cases e : i = j
        · subst e; exact h1
        · have := ih (by omega) (by omega)
          omega
    · intro h i hi h0
      exact h (i - 1) i (by omega) hi
theorem asc_pair {f : Nat → Int} {n : Nat} (h : ∀ i j, i < j → j < n → f i < f j) : ((List.range n).map f).Pairwise (· < ·) := by
  rw [List.pairwise_iff_getElem]
  intro i j hi hj hij
  simp at hi hj ⊢
  exact h i j hij hj
theorem pair_asc {f : Nat → Int} {n : Nat} (h : ((List.range n).map f).Pairwise (· < ·)) : ∀ i j, i < j → j < n → f i < f j := by
  rw [List.pairwise_iff_getElem] at h
  intro i j hij hj
  have := h i j (by simp; omega) (by simpa using hj) hij
  simpa using this
/-- Valid, by lists. -/
structure OkM (n : Nat) (r : Nat → Mm) : Prop where
  six : n ≤ 6
  rng : ∀ i, i < n → 0 ≤ (r i).id ∧ (r i).id ≤ 99
  asc : ∀ i j, i < j → j < n → (r i).id < (r j).id
  up : ∀ i, i < n → (lz (r i)).Pairwise (· < ·)
  oth : ∀ i, i < n → ∀ x, x ∈ lz (r i) → x ≠ (r i).id ∧ x ∈ ids n r
theorem okM_iff {n : Nat} {r : Nat → Mm} : RmOk n r ↔ OkM n r := by
  constructor
  · rintro ⟨h6, h⟩
    refine ⟨h6, fun i hi => (h i hi).1, (asc_iff (fun i => (r i).id) n).1 fun i hi h0 => (h i hi).2.2 h0, fun i hi => ?_, fun i hi x hx => ?_⟩
    · exact asc_pair ((asc_iff (r i).z (r i).n).1 fun j hj h0 => ((h i hi).2.1 j hj).2.2 h0)
    · obtain ⟨j, hj, rfl⟩ := mem_lz.1 hx
      have h1 := (h i hi).2.1 j hj
      exact ⟨h1.1, mem_ids.2 h1.2.1⟩
  · intro h
    refine ⟨h.six, fun i hi => ⟨h.rng i hi, fun j hj => ⟨?_, ?_, ?_⟩, fun h0 => ?_⟩⟩
    · exact (h.oth i hi _ (mem_lz.2 ⟨j, hj, rfl⟩)).1
    · exact mem_ids.1 (h.oth i hi _ (mem_lz.2 ⟨j, hj, rfl⟩)).2
    · exact fun h0 => pair_asc (h.up i hi) (j - 1) j (by omega) hj
    · exact h.asc (i - 1) i (by omega) hi
theorem OkM.inj {n : Nat} {r : Nat → Mm} (h : OkM n r) {i j : Nat} (hi : i < n) (hj : j < n) (e : (r i).id = (r j).id) : i = j := by
  rcases Nat.lt_trichotomy i j with h1 | h1 | h1
  · have := h.asc i j h1 hj; omega
  · exact h1
  · have := h.asc j i h1 hi; omega
/-- Ascending numbers in a range are few. -/
theorem asc_few {f : Nat → Int} {n : Nat} (h : ∀ i j, i < j → j < n → f i < f j) (h0 : ∀ i, i < n → 0 ≤ f i ∧ f i ≤ 99) : n ≤ 100 := by
  have : ∀ i, i < n → (i : Int) ≤ f i := by
    intro i
    induction i with
    | zero => intro hi; exact (h0 0 hi).1
    | succ i ih =>
      intro hi
      have h1 := ih (by omega)
      have h2 := h i (i + 1) (by omega) hi
      omega
  by_cases e : n = 0
  · omega
  · have h1 := this (n - 1) (by omega)
    have h2 := (h0 (n - 1) (by omega)).2
    omega
theorem OkM.few {n : Nat} {r : Nat → Mm} (h : OkM n r) {i : Nat} (hi : i < n) : (r i).n ≤ 100 := by
  refine asc_few (pair_asc (h.up i hi)) fun j hj => ?_
  obtain ⟨k, hk, e⟩ := mem_ids.1 (h.oth i hi _ (mem_lz.2 ⟨j, hj, rfl⟩)).2
  have := h.rng k hk
  omega
theorem ids_nm (n : Nat) (r : Nat → Mm) : ids n (fun i => nm (r i)) = ids n r := rfl
theorem OkM.nm_iff {n : Nat} {r : Nat → Mm} : OkM n (fun i => nm (r i)) ↔ OkM n r := by
  constructor
  · intro h
    exact ⟨h.six, h.rng, h.asc, fun i hi => by have := h.up i hi; rwa [lz_nm] at this, fun i hi x hx => h.oth i hi x (by rw [lz_nm]; exact hx)⟩
  · intro h
    exact ⟨h.six, h.rng, h.asc, fun i hi => by rw [lz_nm]; exact h.up i hi, fun i hi x hx => h.oth i hi x (by rwa [lz_nm] at hx)⟩
theorem insR_cases {r : Nat → Mm} {a n : Nat} {x : Mm} (ha : a ≤ n) {i : Nat} (hi : i < n + 1) : (∃ k, k < n ∧ insR r a x i = r k ∧ (k = i ∧ i < a ∨ k + 1 = i ∧ a < i)) ∨ (i = a ∧ insR r a x i = x) := by
  by_cases h1 : i < a
  · exact Or.inl ⟨i, by omega, if_pos h1, Or.inl ⟨rfl, h1⟩⟩
  · by_cases h2 : i = a
    · exact Or.inr ⟨h2, (if_neg h1).trans (if_pos h2)⟩
    · exact Or.inl ⟨i - 1, by omega, (if_neg h1).trans (if_neg h2), Or.inr ⟨by omega, by omega⟩⟩
theorem JAt.gt {n a : Nat} {r : Nat → Mm} {v : Int} (h : JAt n r v a) (hr : OkM n r) (hno : ∀ i, i < n → (r i).id ≠ v) : ∀ i, a ≤ i → i < n → v < (r i).id := by
  intro i hai hi
  have h1 := h.2.2 (by omega)
  have h2 := hno a (by omega)
  by_cases e : a = i
  · subst e; omega
  · have := hr.asc a i (by omega) hi
    omega
theorem join_ok {n a : Nat} {r : Nat → Mm} {id : Int} {x : Mm} (h : joinOk n r id) (ha : JAt n r id a) (hx : x.id = id) (hz : lz x = []) : OkM (n + 1) (insR r a x) := by
  obtain ⟨h1, h2, h3, h4⟩ := h
  have hr := okM_iff.1 h1
  have hno := placeI_neg.1 h3
  have hgt := ha.gt hr hno
  have h6 := hr.six
  refine ⟨by omega, fun i hi => ?_, fun i j hij hj => ?_, fun i hi => ?_, fun i hi y hy => ?_⟩
  · rcases insR_cases (r := r) (x := x) ha.1 hi with ⟨k, hk, e, _⟩ | ⟨_, e⟩
    · rw [e]; exact hr.rng k hk
    · rw [e, hx]; exact h2
  · rcases insR_cases (r := r) (x := x) ha.1 (show i < n + 1 by omega) with ⟨k, hk, e, o1⟩ | ⟨o1, e⟩
    · rcases insR_cases (r := r) (x := x) ha.1 hj with ⟨l, hl, e2, o2⟩ | ⟨o2, e2⟩
      · rw [e, e2]; exact hr.asc k l (by omega) hl
      · rw [e, e2, hx]; exact ha.2.1 k (by omega)
    · rcases insR_cases (r := r) (x := x) ha.1 hj with ⟨l, hl, e2, o2⟩ | ⟨o2, e2⟩
      · rw [e, e2, hx]; exact hgt l (by omega) hl
      · omega
  · rcases insR_cases (r := r) (x := x) ha.1 hi with ⟨k, hk, e, _⟩ | ⟨_, e⟩
    · rw [e]; exact hr.up k hk
    · rw [e, hz]; exact List.Pairwise.nil
  · rcases insR_cases (r := r) (x := x) ha.1 hi with ⟨k, hk, e, _⟩ | ⟨_, e⟩
    · rw [e] at hy ⊢
      have h7 := hr.oth k hk y hy
      refine ⟨h7.1, ?_⟩
      obtain ⟨l, hl, el⟩ := mem_ids.1 h7.2
      refine mem_ids.2 ?_
      by_cases e2 : l < a
      · exact ⟨l, by omega, by unfold insR; rw [if_pos e2]; exact el⟩
      · exact ⟨l + 1, by omega, by unfold insR; rw [if_neg (by omega), if_neg (by omega)]; exact el⟩
    · rw [e, hz] at hy; cases hy
end Go.Proofs.Ytelcclhaepfmgaa
