/- Rooms: plain laws, as the laws ask for them. -/
import Derived.Test.YtelcclhaepfmgaaRlw
namespace Go.Proofs.Ytelcclhaepfmgaa
open Go Go.RowKit Go.Maps
set_option linter.unusedVariables false
set_option linter.unusedSimpArgs false
theorem nm_less_nm (m : Mm) (v : Int) : nm (lessM (nm m) v) = nm (lessM m v) :=
  (nm_eq (m := lessM (nm m) v) rfl rfl (by rw [lz_less, lz_nm])).trans (nm_eq (m := lessM m v) rfl rfl (lz_less _ _)).symm
theorem delR_nm (r : Nat → Mm) (p : Nat) (v : Int) (i : Nat) : nm (delR (fun i => nm (r i)) p v i) = nm (delR r p v i) := by
  unfold delR
  by_cases e : i < p
  · rw [if_pos e, if_pos e]; exact nm_less_nm _ _
  · rw [if_neg e, if_neg e]; exact nm_less_nm _ _
section
variable {n : Nat} {r : Nat → Mm} {id other : Int} {s on : Bool}
theorem joinF_ok (h : joinOk n r id) : OkM (n + 1) (joinF n r id s) := OkM.nm_iff.2 (join_ok h (jpos_at r id n) rfl rfl)
theorem joinF_at : joinF n r id s (jpos r id n) = nm ⟨id, s, 0, fun _ => 0⟩ := by
  unfold joinF insR
  rw [if_neg (Nat.lt_irrefl _), if_pos rfl]
theorem joinF_lt {i : Nat} (h : i < jpos r id n) : joinF n r id s i = nm (r i) := by
  unfold joinF insR
  rw [if_pos h]
theorem joinF_gt {i : Nat} (h : jpos r id n < i) : joinF n r id s i = nm (r (i - 1)) := by
  unfold joinF insR
  rw [if_neg (by omega), if_neg (by omega)]
theorem jpos_le : jpos r id n ≤ n := (jpos_at r id n).1
theorem joinF_atR (h : joinOk n r id) : atR (joinF n r id s) id (n + 1) = jpos r id n := by
  have h1 := (joinF_ok (s := s) h).at_ (i := jpos r id n) (by have := jpos_le (r := r) (id := id) (n := n); omega)
  rwa [joinF_at] at h1
theorem jl_ok (h : joinOk n r id) : leaveOk (n + 1) (joinF n r id s) id :=
  ⟨okM_iff.2 (joinF_ok h), placeI_lt (by rw [joinF_atR h]; have := jpos_le (r := r) (id := id) (n := n); omega)⟩
theorem jl_same (h : joinOk n r id) {i : Nat} (hi : i < n) : leaveF (n + 1) (joinF n r id s) id i = nm (r i) := by
  unfold leaveF
  rw [joinF_atR h]
  unfold joinF
  rw [delR_nm]
  exact del_ins (okM_iff.1 h.1) jpos_le (placeI_neg.1 h.2.2.1) hi
theorem leaveF_ok (h : leaveOk n r id) : OkM (n - 1) (leaveF n r id) := OkM.nm_iff.2 (leave_ok (okM_iff.1 h.1) (atR_lt h.2) (atR_spec (atR_lt h.2)))
theorem leaveF_cases (h : leaveOk n r id) {i : Nat} (hi : i < n - 1) : ∃ k, k < n ∧ (r k).id ≠ id ∧ leaveF n r id i = mkM (r k).id (r k).s ((lz (r k)).filter (fun x => decide (x ≠ id))) := by
  have hr := okM_iff.1 h.1
  have hp := atR_lt h.2
  obtain ⟨k, hk, hne, e, _⟩ := delR_cases r (atR r id n) id hp hi
  refine ⟨k, hk, fun e2 => hne (hr.inj hk hp (e2.trans (atR_spec hp).symm)), ?_⟩
  unfold leaveF
  rw [e]
  exact nm_eq (m := lessM (r k) id) rfl rfl (lz_less _ _)
theorem leaveF_no (h : leaveOk n r id) {i : Nat} (hi : i < n - 1) : (leaveF n r id i).id ≠ id ∧ hasB (leaveF n r id i).n (leaveF n r id i).z id = false := by
  obtain ⟨k, hk, hne, e⟩ := leaveF_cases h hi
  rw [hasB_lz, e]
  refine ⟨hne, ?_⟩
  rw [lz_mk]
  simp
theorem filter_len {v : Int} : ∀ {l : List Int}, l.Pairwise (· < ·) → (l.filter (fun x => decide (x ≠ v))).length = if v ∈ l then l.length - 1 else l.length
  | [], _ => rfl
  | a :: l, h => by
    rw [List.pairwise_cons] at h
    have ih := filter_len (v := v) h.2
    by_cases e : a = v
    · subst e
      have hno : a ∉ l := fun hm => by have := h.1 a hm; omega
      rw [if_neg hno] at ih
      rw [if_pos (List.mem_cons_self ..), List.filter_cons_of_neg (by simp), ih]
      simp
    · rw [List.filter_cons_of_pos (by simpa using e), List.length_cons, ih]
      by_cases hm : v ∈ l
      · have h2 : 0 < l.length := List.length_pos_of_mem hm
        rw [if_pos hm, if_pos (List.mem_cons_of_mem _ hm), List.length_cons]
        omega
      · rw [if_neg hm, if_neg (by simp only [List.mem_cons, not_or]; exact ⟨fun e2 => e e2.symm, hm⟩), List.length_cons]
theorem lo_same (h : leaveOk n r id) {k i : Nat} (hk : k < n - 1) (hi : i < n) (e : (leaveF n r id k).id = (r i).id) :
    (leaveF n r id k).s = (r i).s ∧ (leaveF n r id k).n = if hasB (r i).n (r i).z id = true then (r i).n - 1 else (r i).n := by
  have hr := okM_iff.1 h.1
  obtain ⟨q, hq, hne, e2⟩ := leaveF_cases h hk
  rw [e2] at e ⊢
  obtain rfl : q = i := hr.inj hq hi e
  refine ⟨rfl, ?_⟩
  show (List.filter _ _).length = _
  rw [filter_len (hr.up q hq), hasB_lz, lz_len]
  by_cases hm : id ∈ lz (r q)
  · rw [if_pos hm, decide_eq_true hm, if_pos rfl]
  · rw [if_neg hm, decide_eq_false hm, if_neg (by simp)]
theorem hasB_pos {n : Nat} {z : Nat → Int} {v : Int} (h : hasB n z v = true) : 0 < n := by
  obtain ⟨i, hi, _⟩ := of_decide_eq_true h
  omega
theorem hearF_ok (h : hearOk n r id other on) : OkM n (hearF n r id other on) := OkM.nm_iff.2 (hearR_ok h rfl)
theorem hearF_ne {i : Nat} (h : i ≠ atR r id n) : hearF n r id other on i = nm (r i) := by unfold hearF; rw [putR_ne h]
theorem hearF_at : hearF n r id other on (atR r id n) = mkM (r (atR r id n)).id (r (atR r id n)).s (hrL r (r (atR r id n)) other on n) := by unfold hearF; rw [putR_at, nm_mk]
theorem hearF_id {i : Nat} : (hearF n r id other on i).id = (r i).id := by unfold hearF; rw [nm_id, putR_id]
theorem hearF_atR (h : hearOk n r id other on) : atR (hearF n r id other on) id n = atR r id n := by
  have h1 := (hearF_ok h).at_ (i := atR r id n) h.2.1
  rwa [hearF_id, atR_spec h.2.1] at h1
theorem hearF_ids : ids n (hearF n r id other on) = ids n r := by
  unfold ids
  exact List.map_congr_left fun i _ => hearF_id
theorem hearF_has (h : hearOk n r id other on) : hasB (hearF n r id other on (atR r id n)).n (hearF n r id other on (atR r id n)).z other = on := by
  rw [hasB_lz, hearF_at, lz_mk]
  have h1 := ids_of.1 h.2.2.1
  have h2 := mem_hrL (n := n) (r := r) (m := r (atR r id n)) (other := other) (x := other) (on := on)
  rw [if_pos rfl] at h2
  cases on
  · exact decide_eq_false fun h3 => by have := (h2.1 h3).2; cases this
  · exact decide_eq_true (h2.2 ⟨h1, rfl⟩)
theorem hb_ok (h : hearOk n r id other on) : hearOk n (hearF n r id other on) id other (!on) := by
  refine ⟨okM_iff.2 (hearF_ok h), by rw [hearF_atR h]; exact h.2.1, ?_, h.2.2.2.1, ?_⟩
  · rw [ids_of, hearF_ids]; exact ids_of.1 h.2.2.1
  · rw [hearF_atR h, hearF_has h]; cases on <;> decide
theorem hb_no (h : hearOk n r id other on) : ¬ hearOk n (hearF n r id other on) id other on := by
  intro h2
  have h3 := h2.2.2.2.2
  rw [hearF_atR h, hearF_has h] at h3
  exact h3 rfl
theorem hb_same (h : hearOk n r id other on) {i : Nat} (hi : i < n) : hearF n (hearF n r id other on) id other (!on) i = nm (r i) := by
  have hr := okM_iff.1 h.1
  by_cases e : i = atR r id n
  · have e1 : i = atR (hearF n r id other on) id n := e.trans (hearF_atR h).symm
    subst e
    have h1 := hearF_at (n := n) (r := hearF n r id other on) (id := id) (other := other) (on := !on)
    rw [hearF_atR h] at h1
    rw [h1, hearF_id, hearF_at]
    refine (nm_eq rfl rfl ?_).symm
    refine asc_ext (hr.up _ hi) (hrL_asc (OkM.nm_iff.2 (hearR_ok h rfl))) fun x => ?_
    rw [mem_hrL, hearF_ids, lz_mk, mem_hrL]
    have h5 := h.2.2.2.2
    rw [hasB_lz] at h5
    by_cases ex : x = other
    · rw [if_pos ex]
      subst ex
      have h6 := ids_of.1 h.2.2.1
      constructor
      · intro hm
        rw [decide_eq_true hm] at h5
        exact ⟨h6, by cases on; rfl; exact absurd rfl h5⟩
      · rintro ⟨_, h7⟩
        cases on
        · exact Classical.byContradiction fun hm => h5 (decide_eq_false hm)
        · cases h7
    · rw [if_neg ex, if_neg ex]
      exact ⟨fun hm => ⟨(hr.oth _ hi x hm).2, (hr.oth _ hi x hm).2, hm⟩, fun hm => hm.2.2⟩
  · rw [hearF_ne (by rw [hearF_atR h]; exact e), hearF_ne e, nm_nm]
end
end Go.Proofs.Ytelcclhaepfmgaa
