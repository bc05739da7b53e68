/- Rooms: plain laws: who leaves, who hears. -/
import Derived.Test.YtelcclhaepfmgaaRpl
namespace Go.Proofs.Ytelcclhaepfmgaa
open Go Go.RowKit
set_option linter.unusedVariables false
set_option linter.unusedSimpArgs false
/-- What a new hearing says. -/
def hL (r : Nat → Mm) : Nat → Int → List Int
  | 0 => fun _ => []
  | n + 1 => fun v => if v = (r n).id then lz (r n) else hL r n v
theorem hL_at {r : Nat → Mm} : ∀ {n i : Nat}, (∀ i j, i < j → j < n → (r i).id ≠ (r j).id) → i < n → hL r n (r i).id = lz (r i)
  | 0, i, _, h => absurd h (by omega)
  | n + 1, i, hd, hi => by
    unfold hL
    by_cases e : i = n
    · subst e; simp
    · rw [if_neg (hd i n (by omega) (by omega))]
      exact hL_at (fun i j h1 h2 => hd i j h1 (by omega)) (by omega)
theorem OkM.dis {n : Nat} {r : Nat → Mm} (h : OkM n r) : ∀ i j, i < j → j < n → (r i).id ≠ (r j).id := fun i j h1 h2 => by have := h.asc i j h1 h2; omega
theorem OkM.hL {n i : Nat} {r : Nat → Mm} (h : OkM n r) (hi : i < n) : hL r n (r i).id = lz (r i) := hL_at h.dis hi
theorem atR_spec {r : Nat → Mm} {v : Int} {n : Nat} (h : atR r v n < n) : (r (atR r v n)).id = v := by
  induction n with
  | zero => omega
  | succ n ih =>
    unfold atR at h ⊢
    split
    · exact ih ‹_›
    · split
      · assumption
      · rename_i h1 h2
        rw [if_neg h1, if_neg h2] at h
        omega
theorem atR_lt {r : Nat → Mm} {v : Int} {n : Nat} (h : ¬ placeI n r v < 0) : atR r v n < n := by
  unfold placeI at h
  split at h
  · assumption
  · exact absurd (by decide) h
theorem placeI_lt {r : Nat → Mm} {v : Int} {n : Nat} (h : atR r v n < n) : ¬ placeI n r v < 0 := by
  unfold placeI; rw [if_pos h]; omega
theorem ids_of {r : Nat → Mm} {v : Int} {n : Nat} : ¬ placeI n r v < 0 ↔ v ∈ ids n r := by
  rw [placeI_neg, mem_ids]
  constructor
  · intro h
    exact Classical.byContradiction fun k => h fun i hi e => k ⟨i, hi, e⟩
  · rintro ⟨i, hi, e⟩ h
    exact h i hi e
theorem OkM.at_ {n i : Nat} {r : Nat → Mm} (h : OkM n r) (hi : i < n) : atR r (r i).id n = i :=
  atR_hit (fun j hj => h.dis j i hj hi) rfl n hi
/-- Adding, and dropping, is what the reference does. -/
theorem hear_same {n a : Nat} {r : Nat → Mm} {other : Int} {on : Bool} (h : OkM n r) (ha : a < n) (ho : other ∈ ids n r) :
    (if on = true then addL (r a).z other (r a).n else woL (r a).z other (r a).n) = hrL r (r a) other on n := by
  have hp : (ids n r).Pairwise (· < ·) := asc_pair h.asc
  have hup := h.up a ha
  have hm : ∀ x, x ∈ lz (r a) → x ∈ ids n r := fun x hx => (h.oth a ha x hx).2
  rw [hrL_filter]
  cases on
  · rw [if_neg (by simp), woL_lz]
    refine asc_ext (hup.filter _) (hp.filter _) fun x => ?_
    rw [List.mem_filter, List.mem_filter]
    unfold hrB
    rw [hasB_lz]
    by_cases e : x = other
    · simp [e]
    · simp [e]; exact fun h => hm x h
  · rw [if_pos rfl, addL_lz]
    refine asc_ext ?_ (hp.filter _) fun x => ?_
    · rw [List.pairwise_append, List.pairwise_append]
      refine ⟨⟨hup.filter _, by simp, ?_⟩, hup.filter _, ?_⟩
      · intro x hx y hy
        simp at hx hy
        subst hy; exact hx.2
      · intro x hx y hy
        simp at hx hy
        rcases hx with hx | hx
        · have := hx.2; have := hy.2; omega
        · subst hx; exact hy.2
    · rw [List.mem_filter]
      unfold hrB
      rw [hasB_lz]
      by_cases e : x = other
      · subst e; simp [ho]
      · simp [e]
        constructor
        · rintro (h1 | h1)
          · exact ⟨hm x h1.1, h1.1⟩
          · exact ⟨hm x h1.1, h1.1⟩
        · rintro ⟨_, h1⟩
          rcases (by omega : x < other ∨ other < x) with h2 | h2
          · exact Or.inl ⟨h1, h2⟩
          · exact Or.inr ⟨h1, h2⟩
theorem mem_hrL {n : Nat} {r : Nat → Mm} {m : Mm} {other x : Int} {on : Bool} : x ∈ hrL r m other on n ↔ x ∈ ids n r ∧ (if x = other then on = true else x ∈ lz m) := by
  rw [hrL_filter, List.mem_filter]
  unfold hrB
  rw [hasB_lz]
  by_cases e : x = other
  · simp [e]
  · simp [e]
theorem putR_at {r : Nat → Mm} {a : Nat} {l : List Int} : putR r a l a = mkM (r a).id (r a).s l := if_pos rfl
theorem putR_ne {r : Nat → Mm} {a i : Nat} {l : List Int} (h : i ≠ a) : putR r a l i = r i := if_neg h
theorem putR_id {r : Nat → Mm} {a i : Nat} {l : List Int} : (putR r a l i).id = (r i).id := by
  by_cases e : i = a
  · subst e; rw [putR_at]; rfl
  · rw [putR_ne e]
theorem ids_put {n a : Nat} {r : Nat → Mm} {l : List Int} : ids n (putR r a l) = ids n r := by
  unfold ids
  exact List.map_congr_left fun i _ => putR_id
theorem hear_ok {n a : Nat} {r : Nat → Mm} {l : List Int} (h : OkM n r) (hl : l.Pairwise (· < ·)) (hm : ∀ x, x ∈ l → x ≠ (r a).id ∧ x ∈ ids n r) : OkM n (putR r a l) := by
  refine ⟨h.six, fun i hi => by rw [putR_id]; exact h.rng i hi, fun i j hij hj => by rw [putR_id, putR_id]; exact h.asc i j hij hj, fun i hi => ?_, fun i hi x hx => ?_⟩
  · by_cases e : i = a
    · subst e; rw [putR_at, lz_mk]; exact hl
    · rw [putR_ne e]; exact h.up i hi
  · rw [putR_id, ids_put]
    by_cases e : i = a
    · subst e; rw [putR_at, lz_mk] at hx; exact hm x hx
    · rw [putR_ne e] at hx; exact h.oth i hi x hx
theorem hrL_asc {n : Nat} {r : Nat → Mm} {m : Mm} {other : Int} {on : Bool} (h : OkM n r) : (hrL r m other on n).Pairwise (· < ·) := by
  have hp : (ids n r).Pairwise (· < ·) := asc_pair h.asc
  rw [hrL_filter]; exact hp.filter _
theorem hearR_ok {n a : Nat} {r : Nat → Mm} {id other : Int} {on : Bool} (h : hearOk n r id other on) (ha : atR r id n = a) : OkM n (putR r a (hrL r (r a) other on n)) := by
  obtain ⟨h1, h2, h3, h4, h5⟩ := h
  subst ha
  have hr := okM_iff.1 h1
  refine hear_ok hr (hrL_asc hr) fun x hx => ?_
  obtain ⟨h6, h7⟩ := mem_hrL.1 hx
  refine ⟨?_, h6⟩
  by_cases e : x = other
  · rw [atR_spec h2, e]; exact fun e => h4 e.symm
  · rw [if_neg e] at h7; exact (hr.oth _ h2 x h7).1
/-- The members but the one at p, who do not hear v. -/
def delR (r : Nat → Mm) (p : Nat) (v : Int) : Nat → Mm := fun i => lessM (if i < p then r i else r (i + 1)) v
theorem lvL_del {r : Nat → Mm} {p : Nat} {v : Int} (hv : (r p).id = v) : ∀ k, (∀ i, i < k → i ≠ p → (r i).id ≠ v) → lvL r v k = listR (if k ≤ p then k else k - 1) (delR r p v)
  | 0, _ => by simp [lvL, listR]
  | k + 1, hd => by
    unfold lvL
    rw [lvL_del hv k fun i hi hp => hd i (by omega) hp]
    by_cases e : k = p
    · subst e
      rw [if_pos hv, if_pos (Nat.le_refl _), if_neg (by omega)]; rfl
    · rw [if_neg (hd k (by omega) e)]
      by_cases h1 : k < p
      · rw [if_pos (by omega), if_pos (by omega), listR_succ]
        congr 2
        unfold delR; rw [if_pos h1]
      · rw [if_neg (by omega), if_neg (by omega)]
        obtain ⟨q, rfl⟩ : ∃ q, k = q + 1 := ⟨k - 1, by omega⟩
        rw [show q + 1 + 1 - 1 = q + 1 by omega, show q + 1 - 1 = q by omega, listR_succ]
        congr 2
        unfold delR; rw [if_neg (by omega)]
theorem lvL_eq {n p : Nat} {r : Nat → Mm} {v : Int} (h : OkM n r) (hp : p < n) (hv : (r p).id = v) : lvL r v n = listR (n - 1) (delR r p v) := by
  rw [lvL_del hv n fun i hi hne e => hne (h.inj hi hp (e.trans hv.symm)), if_neg (by omega)]
theorem delR_id {r : Nat → Mm} {p i : Nat} {v : Int} : (delR r p v i).id = (if i < p then r i else r (i + 1)).id := rfl
theorem delR_cases (r : Nat → Mm) (p : Nat) (v : Int) {n i : Nat} (hp : p < n) (hi : i < n - 1) : ∃ k, k < n ∧ k ≠ p ∧ delR r p v i = lessM (r k) v ∧ (k = i ∧ i < p ∨ k = i + 1 ∧ p ≤ i) := by
  unfold delR
  by_cases e : i < p
  · rw [if_pos e]; exact ⟨i, by omega, by omega, rfl, Or.inl ⟨rfl, e⟩⟩
  · rw [if_neg e]; exact ⟨i + 1, by omega, by omega, rfl, Or.inr ⟨rfl, by omega⟩⟩
theorem delR_of (r : Nat → Mm) (p : Nat) (v : Int) {n k : Nat} (hp : p < n) (hk : k < n) (hkp : k ≠ p) : ∃ i, i < n - 1 ∧ delR r p v i = lessM (r k) v := by
  by_cases e : k < p
  · exact ⟨k, by omega, by unfold delR; rw [if_pos e]⟩
  · exact ⟨k - 1, by omega, by unfold delR; rw [if_neg (by omega), show k - 1 + 1 = k by omega]⟩
theorem leave_ok {n p : Nat} {r : Nat → Mm} {v : Int} (h : OkM n r) (hp : p < n) (hv : (r p).id = v) : OkM (n - 1) (delR r p v) := by
  have h6 := h.six
  refine ⟨by omega, fun i hi => ?_, fun i j hij hj => ?_, fun i hi => ?_, fun i hi x hx => ?_⟩
  · obtain ⟨k, hk, _, e, _⟩ := delR_cases r p v hp hi
    rw [e]; exact h.rng k hk
  · obtain ⟨k, hk, _, e, o1⟩ := delR_cases r p v hp (show i < n - 1 by omega)
    obtain ⟨l, hl, _, e2, o2⟩ := delR_cases r p v hp hj
    rw [e, e2]
    exact h.asc k l (by omega) hl
  · obtain ⟨k, hk, _, e, o1⟩ := delR_cases r p v hp hi
    rw [e, lz_less]
    exact (h.up k hk).filter _
  · obtain ⟨k, hk, _, e, o1⟩ := delR_cases r p v hp hi
    rw [e, lz_less] at hx
    obtain ⟨h1, h2⟩ := List.mem_filter.1 hx
    obtain ⟨h3, h4⟩ := h.oth k hk x h1
    rw [e]
    refine ⟨h3, ?_⟩
    obtain ⟨l, hl, el⟩ := mem_ids.1 h4
    have h5 : l ≠ p := fun e => by subst e; exact absurd (el.symm.trans hv) (by simpa using h2)
    obtain ⟨i2, hi2, e2⟩ := delR_of r p v hp hl h5
    exact mem_ids.2 ⟨i2, hi2, by rw [e2]; exact el⟩
theorem filter_all {l : List Int} {v : Int} (h : v ∉ l) : l.filter (fun x => decide (x ≠ v)) = l := by
  rw [List.filter_eq_self]
  intro x hx
  simp only [decide_eq_true_eq]
  exact fun e => h (e ▸ hx)
theorem nm_less {m : Mm} {v : Int} (h : v ∉ lz m) : nm (lessM m v) = nm m :=
  nm_eq rfl rfl ((lz_less m v).trans (filter_all h))
/-- Who joins and leaves: all as before. -/
theorem del_ins {n a : Nat} {r : Nat → Mm} {id : Int} {x : Mm} (h : OkM n r) (ha : a ≤ n) (hno : ∀ i, i < n → (r i).id ≠ id) {i : Nat} (hi : i < n) : nm (delR (insR r a x) a id i) = nm (r i) := by
  have h1 : (if i < a then insR r a x i else insR r a x (i + 1)) = r i := by
    by_cases e : i < a
    · rw [if_pos e]; exact if_pos e
    · rw [if_neg e]; unfold insR; rw [if_neg (by omega), if_neg (by omega)]; rfl
  unfold delR
  rw [h1]
  refine nm_less fun hm => ?_
  obtain ⟨j, hj, e⟩ := mem_ids.1 (h.oth i hi id hm).2
  exact hno j hj e
end Go.Proofs.Ytelcclhaepfmgaa
