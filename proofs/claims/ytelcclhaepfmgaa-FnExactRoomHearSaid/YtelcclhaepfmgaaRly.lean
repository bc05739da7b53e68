/- Rooms: plain laws on who gets what a member sends; a room that is not valid. -/
import Derived.Test.YtelcclhaepfmgaaRlx
namespace Go.Proofs.Ytelcclhaepfmgaa
open Go Go.RowKit Go.Maps
set_option linter.unusedVariables false
set_option linter.unusedSimpArgs false
/-- One of the first k members is v, and sends. -/
def sB (r : Nat → Mm) (v : Int) (k : Nat) : Bool := decide (∃ i, i < k ∧ (r i).id = v ∧ (r i).s = true)
section
variable {n k : Nat} {r : Nat → Mm} {v : Int}
theorem sB_zero : sB r v 0 = false := decide_eq_false (fun ⟨i, h, _⟩ => absurd h (by omega))
theorem sB_true (h : sB r v k = true) : sB r v (k + 1) = true := by
  obtain ⟨i, h1, h2⟩ := of_decide_eq_true h
  exact decide_eq_true ⟨i, by omega, h2⟩
theorem sB_hit (h1 : (r k).id = v) (h2 : (r k).s = true) : sB r v (k + 1) = true := decide_eq_true ⟨k, by omega, h1, h2⟩
theorem sB_miss (h : sB r v k = false) (h1 : ¬ ((r k).id = v ∧ (r k).s = true)) : sB r v (k + 1) = false := by
  refine decide_eq_false ?_
  rintro ⟨i, hi, h2⟩
  by_cases e : i = k
  · subst e; exact h1 h2
  · exact of_decide_eq_false h ⟨i, by omega, h2⟩
theorem routeL_yes (h : RmOk n r) (hs : sB r v n = true) : routeL n r v = rtL r v n := by
  obtain ⟨i, hi, h1, h2⟩ := of_decide_eq_true hs
  have ha := (okM_iff.1 h).at_ hi
  rw [h1] at ha
  exact if_pos ⟨h, by rw [ha]; exact hi, by rw [ha]; exact h2⟩
theorem routeL_no (hs : sB r v n = false) : routeL n r v = [] := by
  refine if_neg ?_
  rintro ⟨_, h1, h2⟩
  exact of_decide_eq_false hs ⟨_, h1, atR_spec h1, h2⟩
theorem rtL_pre : ∀ {n k : Nat}, k ≤ n → ∃ t, rtL r v n = rtL r v k ++ t
  | 0, k, h => ⟨[], by obtain rfl : k = 0 := by omega
                       simp⟩
  | n + 1, k, h => by
    by_cases e : k = n + 1
    · subst e; exact ⟨[], by simp⟩
    · obtain ⟨t, ht⟩ := rtL_pre (n := n) (k := k) (by omega)
      rw [show rtL r v (n + 1) = if hasB (r n).n (r n).z v = true then rtL r v n ++ [(r n).id] else rtL r v n from rfl]
      split
      · exact ⟨t ++ [(r n).id], by rw [ht, List.append_assoc]⟩
      · exact ⟨t, ht⟩
theorem rtL_at (hk : k < n) (h : hasB (r k).n (r k).z v = true) : (rtL r v k).length < (rtL r v n).length ∧ atL (rtL r v n) (rtL r v k).length = (r k).id := by
  obtain ⟨t, ht⟩ := rtL_pre (r := r) (v := v) (n := n) (k := k + 1) (by omega)
  have e : rtL r v (k + 1) = rtL r v k ++ [(r k).id] := if_pos h
  rw [ht, e]
  refine ⟨by simp, ?_⟩
  simp [atL, List.getD]
theorem mem_rtL {x : Int} : ∀ {n : Nat}, x ∈ rtL r v n → ∃ i, i < n ∧ (r i).id = x ∧ hasB (r i).n (r i).z v = true
  | 0, h => by cases h
  | n + 1, h => by
    rw [show rtL r v (n + 1) = if hasB (r n).n (r n).z v = true then rtL r v n ++ [(r n).id] else rtL r v n from rfl] at h
    split at h
    · rcases List.mem_append.1 h with h1 | h1
      · obtain ⟨i, hi, h2⟩ := mem_rtL h1
        exact ⟨i, by omega, h2⟩
      · obtain rfl := List.mem_singleton.1 h1
        exact ⟨n, by omega, rfl, by assumption⟩
    · obtain ⟨i, hi, h2⟩ := mem_rtL h
      exact ⟨i, by omega, h2⟩
theorem routeL_self : hasB (routeL n r v).length (atL (routeL n r v)) v = false := by
  rw [hasB_at]
  refine decide_eq_false fun h => ?_
  unfold routeL at h
  split at h
  · rename_i hr
    obtain ⟨i, hi, h1, h2⟩ := mem_rtL h
    rw [hasB_lz] at h2
    exact ((okM_iff.1 hr.1).oth i hi v (of_decide_eq_true h2)).1 h1.symm
  · cases h
theorem rs_leave (h : (routeL n r v).length ≠ 0) : leaveOk n r v := by
  unfold routeL at h
  split at h
  · rename_i hr
    exact ⟨hr.1, placeI_lt hr.2.1⟩
  · exact absurd rfl h
theorem rs_none (h : leaveOk n r v) : routeL (n - 1) (leaveF n r v) v = [] := by
  refine if_neg ?_
  rintro ⟨_, h1, _⟩
  exact (leaveF_no h h1).1 (atR_spec h1)
theorem rtL_six (h : RmOk n r) : (routeL n r v).length ≤ 6 := by
  unfold routeL
  split
  · have := rtL_len r v n
    have := (okM_iff.1 h).six
    omega
  · simp
end
end Go.Proofs.Ytelcclhaepfmgaa
