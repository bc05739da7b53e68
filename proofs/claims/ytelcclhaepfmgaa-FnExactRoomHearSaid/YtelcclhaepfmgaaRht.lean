/- Rooms: a hearing: the map that the program keeps, and what it answers. -/
import Derived.Test.YtelcclhaepfmgaaRst
import Derived.Test.YtelcclhaepfmgaaMap
namespace Go.Proofs.Ytelcclhaepfmgaa
open Go Go.RowKit Go.Maps
set_option linter.unusedVariables false
set_option linter.unusedSimpArgs false
set_option maxHeartbeats 4000000 in
theorem ihears_any (w : World) (lo hi b k : Nat) (f : Int → Value) (A : Option Addr) (n c : Nat) (id v : Int) (z : Nat → Int) (hm : MapOf w b k f) (hid : (Lit.int .i64 id).wf = true) (hf : f id = .slice A n c) (h : Ints w lo hi A n z) (hi' : hi ≤ w.heap.size) (hn : n ≤ 1048576) :
    Calls Try.prog 55 #[.map (some b), .int .i64 id, .int .i64 v] w fun e w' => e = .returned (.bool (hasB n z v)) ∧ Below w.heap.size w w' := by
  have H := Lib.hid h
  have HM := Lib.hid hm
  have HW := Lib.hid hid
  have HF := Lib.hid hf
  clear h hm hid hf
  go_enter Try.func55, Try.ntmps55
  go_upto_region 2 with (refine wpList_mapLook _ rfl (.tmp 9) (.tmp 10) rfl (b := b) (f := f) (by rfl) HM.out id (by rfl) HW.out ?_; rw [HF.out])
  go_wp2_with fail
  go_loopw [13] (fun i wr => ∃ k, k ≤ n ∧ i = .int .i64 (k : Nat) ∧ Hid (∀ i, i < k → z i ≠ v) ∧ w = wr) (fun i _ => n - (intOf i).toNat)
  case atStart => exact ⟨0, Nat.zero_le _, rfl, Lib.hid (fun i h => absurd h (by omega)), rfl⟩
  case round =>
    obtain ⟨k, hk, rfl, hA, rfl⟩ := hrel
    by_cases hkn : k < n
    rotate_left
    · obtain rfl : k = n := by omega
      have HN := Lib.hid (show false = hasB k z v from (decide_eq_false (fun ⟨i, hi, e⟩ => hA.out i hi e)).symm)
      go_wp2_with fail
      go_ret
      exact ⟨ret_bool HN.out, Below.refl _ _⟩
    obtain ⟨b, off, rfl, _, hb2, c0⟩ := Ints.at_ H.out hkn
    have hbw : b < w.heap.size := by omega
    by_cases he : z k = v
    · have HN := Lib.hid (show true = hasB n z v from (decide_eq_true ⟨k, hkn, he⟩).symm)
      go_wp2_with fail
      go_ret
      exact ⟨ret_bool HN.out, Below.refl _ _⟩
    · have HQ := Lib.hid he
      go_wp2_with fail
      go_roundw
      case rel =>
        refine ⟨k + 1, by omega, by go_num, Lib.hid (fun i hi => ?_), by first | rfl | trivial⟩
        by_cases e : i = k
        · subst e; exact HQ.out
        · exact hA.out i (by omega)
      case measure => simp [intOf]; omega
end Go.Proofs.Ytelcclhaepfmgaa
