/- The heap of packets: container/heap.Push. -/
import Derived.Test.YtegdogamenoaiaaHpq
namespace Go.Proofs.Ytegdogamenoaiaa
open Go Go.RowKit
set_option linter.unusedVariables false
set_option linter.unusedSimpArgs false
/-- A new one of rank at: the others' ranks step up. -/
def rankR (r : Nat → Nat) (at_ n : Nat) : Nat → Nat := fun k => if k < n then (if r k < at_ then r k else r k + 1) else at_
theorem rankR_mono {r : Nat → Nat} {at_ n k l : Nat} (h : r k ≤ r l) (hk : k < n) (hl : l < n) : rankR r at_ n k ≤ rankR r at_ n l := by
  unfold rankR; rw [if_pos hk, if_pos hl]; split <;> split <;> omega
theorem Cov.rank {r : Nat → Nat} {at_ n : Nat} (hr : Cov 0 n n r) (h : at_ ≤ n) : Cov 0 (n + 1) (n + 1) (rankR r at_ n) := by
  refine ⟨fun k hk => ⟨Nat.zero_le _, ?_⟩, fun v _ hv => ?_, fun k l hk hl e => ?_⟩
  · unfold rankR
    split
    · have := (hr.lo k (by assumption)).2; split <;> omega
    · omega
  · rcases (by omega : v < at_ ∨ v = at_ ∨ at_ < v) with h1 | h1 | h1
    · obtain ⟨k, hk, ek⟩ := hr.all v (Nat.zero_le _) (by omega)
      exact ⟨k, by omega, by unfold rankR; rw [if_pos hk, ek, if_pos h1]⟩
    · exact ⟨n, by omega, by unfold rankR; rw [if_neg (by omega), h1]⟩
    · obtain ⟨k, hk, ek⟩ := hr.all (v - 1) (Nat.zero_le _) (by omega)
      exact ⟨k, by omega, by unfold rankR; rw [if_pos hk, ek, if_neg (by omega)]; omega⟩
  · unfold rankR at e
    by_cases h1 : k < n
    · by_cases h2 : l < n
      · rw [if_pos h1, if_pos h2] at e
        refine hr.inj k l h1 h2 ?_
        split at e <;> split at e <;> omega
      · rw [if_pos h1, if_neg h2] at e
        split at e <;> omega
    · by_cases h2 : l < n
      · rw [if_neg h1, if_pos h2] at e
        split at e <;> omega
      · omega
theorem HUp.rank {r : Nat → Nat} {at_ n : Nat} (h : HP n r) : HUp (n + 1) (rankR r at_ n) n :=
  HP.push fun k h1 h2 => rankR_mono (h k h1 h2) (by omega) h2
/-- e with x laid in at place at. -/
def insH (e : Nat → Hd) (at_ : Nat) (x : Hd) : Nat → Hd := fun i => if i < at_ then e i else if i = at_ then x else e (i - 1)
theorem snoc_rank {e : Nat → Hd} {r : Nat → Nat} {at_ n : Nat} {x : Hd} {k : Nat} (hk : k < n + 1) : snocH (fun k => e (r k)) n x k = insH e at_ x (rankR r at_ n k) := by
  unfold snocH insH rankR
  by_cases h : k < n
  · simp only [if_pos h]
    by_cases h1 : r k < at_
    · simp [h1]
    · simp only [if_neg h1]
      rw [if_neg (by omega), if_neg (by omega)]
      rfl
  · simp only [if_neg h]
    rw [if_neg (Nat.lt_irrefl _)]
    simp
def HPushed (lo HB g n at_ : Nat) (e : Nat → Hd) (x : Hd) (w : World) (en : Ending) (w' : World) : Prop :=
  (∃ v, en = .returned v) ∧ ∃ r' g' c', HP (n + 1) r' ∧ Cov 0 (n + 1) (n + 1) r' ∧ HpSt lo HB g' (n + 1) c' (fun k => insH e at_ x (r' k)) w' ∧ Exc (fun k => k = HB ∨ k = g) w w'
set_option maxHeartbeats 2000000 in
theorem push_any (w : World) {lo HB g n c at_ : Nat} {e : Nat → Hd} {r : Nat → Nat} (x : Hd) (h : HpSt lo HB g n c (fun k => e (r k)) w) (hn : n ≤ 90) (hat : at_ ≤ n) (he : EAsc (n + 1) (insH e at_ x)) (hP : HP n r) (hC : Cov 0 n n r) :
    Calls Try.prog 59 #[.iface 64 (.pointer (some ⟨HB, 0, none⟩)), .iface 54 (HdV x)] w (HPushed lo HB g n at_ e x w) := by
  have H := Lib.hid h
  have HC1 := Lib.hid (hC.rank hat)
  have HD1 := Lib.hid (HUp.rank (at_ := at_) hP)
  have HE := Lib.hid he
  have hl := h.lt
  clear h hP hC he
  have mp := m_push w HB
  go_enter Try.func59, Try.ntmps59
  go_wp2_with fail
  refine (mpush_any w x H.out (by omega)).mono ?_
  rintro en w1 ⟨⟨v1, rfl⟩, g', c', h1, h2, h3⟩
  have A1 := Lib.hid (h1.congr fun k hk => snoc_rank (at_ := at_) hk)
  have E1 := Lib.hid h2
  have hcell := h1.cell
  clear h1 h2 mp
  have ml := m_len w1 HB _ hcell
  go_wp2_with fail
  refine (len_any _ _ _ _).mono ?_
  rintro en w' ⟨rfl, rfl⟩
  clear ml hcell
  go_wp2_with fail
  refine (up_any w1 (r0 := rankR r at_ n) A1.out (by omega) (by omega) HE.out HD1.out HC1.out).mono ?_
  rintro en w2 ⟨⟨v2, rfl⟩, r', hp', hc', hr', hst', hg', hs'⟩
  have B1 := Lib.hid hp'
  have B2 := Lib.hid hc'
  have B3 := Lib.hid hst'
  have B4 := Lib.hid hg'
  clear hp' hc' hr' hst' hg' hs'
  go_wp2_with fail
  have hE2 : Exc (fun k => k = HB ∨ k = g) w w2 := by
    have h1 := E1.out
    have h2 := B4.out
    refine ⟨h2.os.trans h1.os, h2.tape.trans h1.tape, h2.output.trans h1.output, Nat.le_trans h1.size h2.size, fun k hk hx => (h2.block k (Nat.lt_of_lt_of_le hk h1.size) ?_).trans (h1.block k hk hx)⟩
    intro e'
    cases e'
    rcases h3 with rfl | h3
    · exact hx (Or.inr rfl)
    · omega
  exact bodyPost_end (v := .tuple #[]) (by simp [results, Try.results59, go_sem]) rfl ⟨⟨_, rfl⟩, r', g', _, B1.out, B2.out, B3.out, hE2⟩
end Go.Proofs.Ytegdogamenoaiaa
