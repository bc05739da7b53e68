/- The draws of how loud some are. -/
import Derived.Test.YtcdpalpoanlbmaaDsp
import Derived.Test.YtcdpalpoanlbmaaDro
namespace Go.Proofs.Ytcdpalpoanlbmaa
open Go Go.RowKit
set_option linter.unusedVariables false
set_option linter.unusedSimpArgs false
set_option maxHeartbeats 2000000 in
theorem loud_draw (w : World) (g k n : Nat) (h : RdLe w g k) (hk : k ≤ 999000) (hn : n ≤ 20) :
    Calls Try.prog 19 #[.pointer (some ⟨g, 0, none⟩), .int .i64 n] w (DrawnL g (k + 2 * n) n w) := by
  obtain ⟨i0, q1, q2, q3, q4⟩ := info_parts info_int
  have hg := h.lt
  go_enter Try.func19, Try.ntmps19
  go_wp2
  go_loopw [5, 6] (fun o i wr => ∃ j A c z, j ≤ n ∧ i = .int .i64 (j : Nat) ∧ o = .slice A j c ∧ OwnI wr w.heap.size wr.heap.size A j c z ∧ RdLe wr g (k + 2 * j) ∧ Past g w.heap.size w wr) (fun _ i _ => n - (intOf i).toNat)
  case atStart =>
    refine ⟨0, _, _, fun _ => 0, Nat.zero_le _, rfl, rfl, ?_, by repeat (first | assumption | (with_reducible refine RdLe.drew ?_) | (with_reducible refine RdLe.drewN ?_ _) | (with_reducible refine RdLe.alloc ?_ _) | (with_reducible refine RdLe.setC ?_ ?_ _; focus (first | (simp; done) | (simp; omega) | omega))), ?_⟩
    · exact (empty_row w _ 1 _).wide (Nat.le_refl _) (by simp)
    · skip
      repeat (first | (with_reducible exact Past.refl _ _ _) | (with_reducible refine Past.alloc ?_ (by simp) _) | (with_reducible refine Past.drew ?_) | (with_reducible refine Past.drewN ?_ _) | (with_reducible refine Past.setC ?_ ?_ _; focus (first | (with_reducible exact Nat.le_refl _) | (simp; done) | (simp; omega) | omega)) | (with_reducible refine Past.step ?_ (by simp) (by assumption)))
  case round =>
    obtain ⟨j, A, c, z, hj, rfl, rfl, hO, hR, hP⟩ := hrel
    have hPs := hP.size
    by_cases hjn : j < n
    · go_wp2_with fail
      refine (pk _ g (k + 2 * j) _ (by repeat (first | assumption | (with_reducible refine RdLe.drew ?_) | (with_reducible refine RdLe.drewN ?_ _) | (with_reducible refine RdLe.alloc ?_ _) | (with_reducible refine RdLe.setC ?_ ?_ _; focus (first | (simp; done) | (simp; omega) | omega)))) (by omega) (by omega) (by omega)).mono ?_
      rintro e w2 ⟨⟨v2, ⟨vl2, vh2⟩, rfl, hR2, hb2⟩, hs2⟩
      clear hs2
      go_wp2_with fail
      refine (pk _ g (k + 2 * j + 1) _ (by repeat (first | assumption | (with_reducible refine RdLe.drew ?_) | (with_reducible refine RdLe.drewN ?_ _) | (with_reducible refine RdLe.alloc ?_ _) | (with_reducible refine RdLe.setC ?_ ?_ _; focus (first | (simp; done) | (simp; omega) | omega)))) (by omega) (by omega) (by omega)).mono ?_
      rintro e w3 ⟨⟨v3, ⟨vl3, vh3⟩, rfl, hR3, hb3⟩, hs3⟩
      clear hs3
      have hO2 := RowOwn.past hg (Nat.le_refl _) hO hb2
      have hO3 := RowOwn.past hg hb2.size hO2 hb3
      have hs3' := hb3.size
      have hs2' := hb2.size
      go_wp2_with (at_builtin; go_loud (refine wpList_rowAppend _ rfl (.tmp 13) (.tmp 21) _ rfl 3 i0 _ 1 8 Try.underlying25 q1 q2 q3 q4 rfl (by decide) w.heap.size _ A j c (intV z) rfl (hO3.alloc _) _ _ _ 1 1 _ rfl (one_row _ _ _) ?_ (by unfold maxLen; omega) (by omega) (by simp; omega) ?_); (focus (intro _ _; rfl)); intro A' c' w4 hO4 hG4 _)
      have hO5 := snoc_row hO4
      have hP4 : Past g w.heap.size w w4 := by
        refine (hP.trans ((hb2.mono (by omega)).trans (hb3.mono (by omega)))).trans (Past.trans (Past.of ((Below.refl _ _).alloc (by omega) _)) (past_grownAt (Nat.le_refl _) (fun k hk => ?_) hG4 (by simp; omega)))
        exact (hO3.1.lt k hk).1
      have hgA : ∀ k, (Value.slice A j c).ownBlock = some k → g < k := fun k hk => by have := (hO3.1.lt k hk).1; omega
      have hR4 : RdLe w4 g (k + 2 * (j + 1)) := RdLe.mono (k := k + 2 * j + 1 + 1) ((RdLe.alloc hR3 _).only hgA hG4) (by omega)
      clear hO2 hO3 hG4 hR2 hR3 hb2 hb3
      go_wp2
      go_roundw
      case rel => exact ⟨j + 1, A', c', _, by omega, by go_num, rfl, hO5, hR4, hP4⟩
      case measure => simp [intOf]; omega
    · obtain rfl : j = n := by omega
      go_wp2
      go_ret
      exact ⟨_, _, _, hO, rfl, hR, hP⟩
end Go.Proofs.Ytcdpalpoanlbmaa
