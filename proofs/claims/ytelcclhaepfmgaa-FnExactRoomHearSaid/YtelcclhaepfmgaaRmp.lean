/- Rooms: the place of a member, and what it may hear (printed by gen_rmp.py). -/
import Derived.Test.YtelcclhaepfmgaaRom
namespace Go.Proofs.Ytelcclhaepfmgaa
open Go Go.RowKit
set_option linter.unusedVariables false
set_option linter.unusedSimpArgs false
def plain (M : Nat → Mb) : Nat → Mm := fun i => (M i).p
def hasB (n : Nat) (z : Nat → Int) (v : Int) : Bool := decide (∃ i, i < n ∧ z i = v)
set_option maxHeartbeats 4000000 in
theorem placeOf_any (w : World) (lo hi : Nat) (A : Option Addr) (n c : Nat) (v : Int) (M : Nat → Mb) (h : RowAt w lo hi A n 3 (MbF M)) (hi' : hi ≤ w.heap.size) (hn : n ≤ 1048576) :
    Calls Try.prog 48 #[.slice A n c, .int .i64 v] w fun e w' => e = .returned (.int .i64 (placeI n (plain M) v)) ∧ Below w.heap.size w w' := by
  have H := Lib.hid h
  clear h
  go_enter Try.func48, Try.ntmps48
  go_wp2_with fail
  go_loopw [9] (fun i wr => ∃ k, k ≤ n ∧ i = .int .i64 (k : Nat) ∧ Hid (∀ i, i < k → (plain M i).id ≠ v) ∧ Hid (Below w.heap.size w wr)) (fun i _ => n - (intOf i).toNat)
  case atStart => exact ⟨0, Nat.zero_le _, rfl, Lib.hid (fun i h => absurd h (by omega)), Lib.hid (Below.refl _ _)⟩
  case round =>
    obtain ⟨k, hk, rfl, hA, hB⟩ := hrel
    have hBs := hB.out.size
    have HR := Lib.hid (H.out.below hi' hB.out)
    by_cases hkn : k < n
    rotate_left
    · obtain rfl : k = n := by omega
      have HN := Lib.hid (placeI_miss hA.out).symm
      go_wp2_with fail
      go_ret
      exact ⟨ret_int HN.out, hB.out⟩
    obtain ⟨b, off, rfl, _, hb2, c0, c1, c2⟩ := Mb_at HR.out hkn
    have hbw : b < wr.heap.size := by omega
    by_cases he : (M k).p.id = v
    · have HN := Lib.hid (placeI_hit hA.out he hkn).symm
      go_wp2_with fail
      go_ret
      go_light
      refine ⟨ret_int HN.out, ?_⟩
      refine hB.out.trans (Below.mono (B := wr.heap.size) ?_ hBs)
      repeat (first | (with_reducible exact Below.refl _ _) | (with_reducible refine Bal ?_ _) | (with_reducible refine Below.drew ?_) | (with_reducible refine below_drewN ?_ _) | (with_reducible refine Bset ?_ ?_ _; focus (first | (with_reducible exact Nat.le_refl _) | (simp; done) | (simp; omega) | omega)) | (with_reducible refine Bt ?_ (by assumption)) | (with_reducible refine Bp (g := g) ?_ (by assumption) (by assumption)))
    · have HQ := Lib.hid he
      go_wp2_with fail
      go_roundw
      case rel =>
        refine ⟨k + 1, by omega, by go_num, Lib.hid (fun i hi => ?_), Lib.hid (hB.out.trans (Below.mono (B := wr.heap.size) ?_ hBs))⟩
        · by_cases e : i = k
          · subst e; exact HQ.out
          · exact hA.out i (by omega)
        repeat (first | (with_reducible exact Below.refl _ _) | (with_reducible refine Bal ?_ _) | (with_reducible refine Below.drew ?_) | (with_reducible refine below_drewN ?_ _) | (with_reducible refine Bset ?_ ?_ _; focus (first | (with_reducible exact Nat.le_refl _) | (simp; done) | (simp; omega) | omega)) | (with_reducible refine Bt ?_ (by assumption)) | (with_reducible refine Bp (g := g) ?_ (by assumption) (by assumption)))
      case measure => simp [intOf]; omega
set_option maxHeartbeats 4000000 in
theorem l31At_any (w : World) (lo hi : Nat) (A : Option Addr) (n c : Nat) (v : Int) (M : Nat → Mb) (h : RowAt w lo hi A n 3 (MbF M)) (hi' : hi ≤ w.heap.size) (hn : n ≤ 1048576) :
    Calls Try.prog 51 #[.slice A n c, .int .i64 v] w fun e w' => e = .returned (.int .i64 (placeI n (plain M) v)) ∧ Below w.heap.size w w' := by
  have H := Lib.hid h
  clear h
  go_enter Try.func51, Try.ntmps51
  go_wp2_with fail
  go_loopw [5] (fun i wr => ∃ k, k ≤ n ∧ i = .int .i64 (k : Nat) ∧ Hid (∀ i, i < k → (plain M i).id ≠ v) ∧ Hid (Below w.heap.size w wr)) (fun i _ => n - (intOf i).toNat)
  case atStart => exact ⟨0, Nat.zero_le _, rfl, Lib.hid (fun i h => absurd h (by omega)), Lib.hid (Below.refl _ _)⟩
  case round =>
    obtain ⟨k, hk, rfl, hA, hB⟩ := hrel
    have hBs := hB.out.size
    have HR := Lib.hid (H.out.below hi' hB.out)
    by_cases hkn : k < n
    rotate_left
    · obtain rfl : k = n := by omega
      have HN := Lib.hid (placeI_miss hA.out).symm
      go_wp2_with fail
      go_ret
      exact ⟨ret_int HN.out, hB.out⟩
    obtain ⟨b, off, rfl, _, hb2, c0, c1, c2⟩ := Mb_at HR.out hkn
    have hbw : b < wr.heap.size := by omega
    by_cases he : (M k).p.id = v
    · have HN := Lib.hid (placeI_hit hA.out he hkn).symm
      go_wp2_with fail
      go_ret
      go_light
      refine ⟨ret_int HN.out, ?_⟩
      refine hB.out.trans (Below.mono (B := wr.heap.size) ?_ hBs)
      repeat (first | (with_reducible exact Below.refl _ _) | (with_reducible refine Bal ?_ _) | (with_reducible refine Below.drew ?_) | (with_reducible refine below_drewN ?_ _) | (with_reducible refine Bset ?_ ?_ _; focus (first | (with_reducible exact Nat.le_refl _) | (simp; done) | (simp; omega) | omega)) | (with_reducible refine Bt ?_ (by assumption)) | (with_reducible refine Bp (g := g) ?_ (by assumption) (by assumption)))
    · have HQ := Lib.hid he
      go_wp2_with fail
      go_roundw
      case rel =>
        refine ⟨k + 1, by omega, by go_num, Lib.hid (fun i hi => ?_), Lib.hid (hB.out.trans (Below.mono (B := wr.heap.size) ?_ hBs))⟩
        · by_cases e : i = k
          · subst e; exact HQ.out
          · exact hA.out i (by omega)
        repeat (first | (with_reducible exact Below.refl _ _) | (with_reducible refine Bal ?_ _) | (with_reducible refine Below.drew ?_) | (with_reducible refine below_drewN ?_ _) | (with_reducible refine Bset ?_ ?_ _; focus (first | (with_reducible exact Nat.le_refl _) | (simp; done) | (simp; omega) | omega)) | (with_reducible refine Bt ?_ (by assumption)) | (with_reducible refine Bp (g := g) ?_ (by assumption) (by assumption)))
      case measure => simp [intOf]; omega
set_option maxHeartbeats 4000000 in
theorem l31Has_any (w : World) (lo hi : Nat) (A : Option Addr) (n c : Nat) (v : Int) (z : Nat → Int) (h : Ints w lo hi A n z) (hi' : hi ≤ w.heap.size) (hn : n ≤ 1048576) :
    Calls Try.prog 56 #[.slice A n c, .int .i64 v] w fun e w' => e = .returned (.bool (hasB n z v)) ∧ Below w.heap.size w w' := by
  have H := Lib.hid h
  clear h
  go_enter Try.func56, Try.ntmps56
  go_wp2_with fail
  go_loopw [5] (fun i wr => ∃ k, k ≤ n ∧ i = .int .i64 (k : Nat) ∧ Hid (∀ i, i < k → z i ≠ v) ∧ w = wr) (fun i _ => n - (intOf i).toNat)
  case atStart => exact ⟨0, Nat.zero_le _, rfl, Lib.hid (fun i h => absurd h (by omega)), rfl⟩
  case round =>
    obtain ⟨k, hk, rfl, hA, rfl⟩ := hrel
    by_cases hkn : k < n
    rotate_left
    · obtain rfl : k = n := by omega
      have HN := Lib.hid (show false = hasB k z v from (decide_eq_false (fun ⟨i, hi, e⟩ => hA.out i hi e)).symm)
      go_wp2_with fail
      go_ret
      exact ⟨ret_bool HN.out, Below.refl _ _⟩
    obtain ⟨b, off, rfl, _, hb2, c0⟩ := Ints.at_ H.out hkn
    have hbw : b < w.heap.size := by omega
    by_cases he : z k = v
    · have HN := Lib.hid (show true = hasB n z v from (decide_eq_true ⟨k, hkn, he⟩).symm)
      go_wp2_with fail
      go_ret
      exact ⟨ret_bool HN.out, Below.refl _ _⟩
    · have HQ := Lib.hid he
      go_wp2_with fail
      go_roundw
      case rel =>
        refine ⟨k + 1, by omega, by go_num, Lib.hid (fun i hi => ?_), by first | rfl | trivial⟩
        by_cases e : i = k
        · subst e; exact HQ.out
        · exact hA.out i (by omega)
      case measure => simp [intOf]; omega
end Go.Proofs.Ytelcclhaepfmgaa
