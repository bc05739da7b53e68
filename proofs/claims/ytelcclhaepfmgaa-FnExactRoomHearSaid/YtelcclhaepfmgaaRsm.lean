/- Equal rooms, and a number in a list, as the laws compare them. -/
import Derived.Test.YtelcclhaepfmgaaRsl
namespace Go.Proofs.Ytelcclhaepfmgaa
open Go Go.RowKit
set_option linter.unusedVariables false
set_option linter.unusedSimpArgs false
set_option maxHeartbeats 4000000 in
theorem hasInt_any (w : World) (lo hi : Nat) (A : Option Addr) (n c : Nat) (v : Int) (z : Nat → Int) (h : Ints w lo hi A n z) (hi' : hi ≤ w.heap.size) (hn : n ≤ 1048576) :
    Calls Try.prog 28 #[.slice A n c, .int .i64 v] w fun e w' => e = .returned (.bool (hasB n z v)) ∧ Below w.heap.size w w' := by
  have H := Lib.hid h
  clear h
  go_enter Try.func28, Try.ntmps28
  go_wp2_with fail
  go_loopw [5] (fun i wr => ∃ k, k ≤ n ∧ i = .int .i64 (k : Nat) ∧ Hid (∀ i, i < k → z i ≠ v) ∧ w = wr) (fun i _ => n - (intOf i).toNat)
  case atStart => exact ⟨0, Nat.zero_le _, rfl, Lib.hid (fun i h => absurd h (by omega)), rfl⟩
  case round =>
    obtain ⟨k, hk, rfl, hA, rfl⟩ := hrel
    by_cases hkn : k < n
    rotate_left
    · obtain rfl : k = n := by omega
      have HN := Lib.hid (show false = hasB k z v from (decide_eq_false (fun ⟨i, hi, e⟩ => hA.out i hi e)).symm)
      go_wp2_with fail
      go_ret
      exact ⟨ret_bool HN.out, Below.refl _ _⟩
    obtain ⟨b, off, rfl, _, hb2, c0⟩ := Ints.at_ H.out hkn
    have hbw : b < w.heap.size := by omega
    by_cases he : z k = v
    · have HN := Lib.hid (show true = hasB n z v from (decide_eq_true ⟨k, hkn, he⟩).symm)
      go_wp2_with fail
      go_ret
      exact ⟨ret_bool HN.out, Below.refl _ _⟩
    · have HQ := Lib.hid he
      go_wp2_with fail
      go_roundw
      case rel =>
        refine ⟨k + 1, by omega, by go_num, Lib.hid (fun i hi => ?_), by first | rfl | trivial⟩
        by_cases e : i = k
        · subst e; exact HQ.out
        · exact hA.out i (by omega)
      case measure => simp [intOf]; omega
set_option maxRecDepth 100000 in
set_option maxHeartbeats 8000000 in
theorem sameRoom_same (w : World) {lo hi lo2 hi2 : Nat} {A B : Option Addr} {n c d : Nat} {M M2 : Nat → Mb} (h : Room w lo hi A n M) (h2 : Room w lo2 hi2 B n M2) (hh : hi ≤ w.heap.size) (hh2 : hi2 ≤ w.heap.size) (hn : n ≤ 1048576) (hb : ∀ i, i < n → (M i).p.n ≤ 1048576) (he : ∀ i, i < n → (M i).p = (M2 i).p) :
    Calls Try.prog 22 #[.slice A n c, .slice B n d] w fun e w' => e = .returned (.bool true) ∧ Below w.heap.size w w' := by
  have H := Lib.hid h
  have H2 := Lib.hid h2
  have HE := Lib.hid he
  have HN := Lib.hid hb
  clear h h2 he hb
  go_enter Try.func22, Try.ntmps22
  go_wp2_with fail
  go_loopw [5] (fun i wr => ∃ k, k ≤ n ∧ i = .int .i64 (k : Nat) ∧ Hid (Below w.heap.size w wr)) (fun i _ => n - (intOf i).toNat)
  case atStart => exact ⟨0, Nat.zero_le _, rfl, Lib.hid (Below.refl _ _)⟩
  case round =>
    obtain ⟨k, hk, rfl, hB⟩ := hrel
    have hbs := hB.out.size
    by_cases hkn : k < n
    rotate_left
    · go_wp2_with fail
      go_ret
      exact ⟨rfl, hB.out⟩
    have hzk := HN.out k hkn
    have HZ := Lib.hid ((H.out.2 k hkn).below hh hB.out)
    have HZ2 := Lib.hid (show Ints wr lo2 hi2 (M2 k).A (M k).p.n (M k).p.z by rw [HE.out k hkn]; exact (H2.out.2 k hkn).below hh2 hB.out)
    obtain ⟨b, off, rfl, _, hb1, c0, c1, c2⟩ := Mb_at (H.out.1.below hh hB.out) hkn
    obtain ⟨b2, off2, rfl, _, hb2, d0, d1, d2⟩ := Mb_at (H2.out.1.below hh2 hB.out) hkn
    rw [← HE.out k hkn] at d0 d1 d2
    have hb1' : b < wr.heap.size := by omega
    have hb2' : b2 < wr.heap.size := by omega
    have hhr : hi ≤ wr.heap.size := by omega
    have hhr2 : hi2 ≤ wr.heap.size := by omega
    go_wp2_with fail
    refine wp_region_mixB (by kernel_rfl) (by kernel_rfl) ?_
    repeat (first
      | (refine mix_skip rfl ?_; have e0 : True := trivial; clear e0; refine mix_putK ?_; intro K hK; go_simp; refine hK _ ?_; clear hK K)
      | (refine mix_readE rfl rfl rfl ?_; apply Exists.intro; refine ⟨fun w' hb' => ?_, ?_⟩; (focus (obtain ⟨hc', hf'⟩ := Old.cells hb'; clear hb'; go_simp; try exact rfl)); have e0 : True := trivial; clear e0; refine mix_putK ?_; intro K hK; go_simp; refine hK _ ?_; clear hK K)
      | (refine mix_pureE rfl rfl ?_; apply Exists.intro; refine ⟨fun w' => ?_, ?_⟩; (focus (go_simp; try exact rfl)); have e0 : True := trivial; clear e0; refine mix_putK ?_; intro K hK; go_simp; refine hK _ ?_; clear hK K)
      | (refine mix_eff rfl rfl ?_; go_wp2_with ((go_at_call 27; refine (sameInts_same _ (HZ.out.below hhr (by repeat (first | (with_reducible exact Below.refl _ _) | (with_reducible refine Bal ?_ _) | (with_reducible refine Below.drew ?_) | (with_reducible refine below_drewN ?_ _) | (with_reducible refine Bset ?_ ?_ _; focus (first | (with_reducible exact Nat.le_refl _) | (simp; done) | (simp; omega) | omega)) | (with_reducible refine Bt ?_ (by assumption)) | (with_reducible refine Bp (g := g) ?_ (by assumption) (by assumption))))) (HZ2.out.below hhr2 (by repeat (first | (with_reducible exact Below.refl _ _) | (with_reducible refine Bal ?_ _) | (with_reducible refine Below.drew ?_) | (with_reducible refine below_drewN ?_ _) | (with_reducible refine Bset ?_ ?_ _; focus (first | (with_reducible exact Nat.le_refl _) | (simp; done) | (simp; omega) | omega)) | (with_reducible refine Bt ?_ (by assumption)) | (with_reducible refine Bp (g := g) ?_ (by assumption) (by assumption))))) (by first | exact Nat.le_refl _ | (simp; done) | (simp; omega) | omega) (by first | exact Nat.le_refl _ | (simp; done) | (simp; omega) | omega) hzk).mono ?_; rintro e w2 ⟨rfl, hbv⟩)); refine then_mix rfl ?_ ?_; (first | (intro h; have h2 : false = true := h; cases h2) | (intro _; assumption) | (intro _; refine Old.mk ?_; repeat (first | (with_reducible exact Below.refl _ _) | (with_reducible refine Bal ?_ _) | (with_reducible refine Below.drew ?_) | (with_reducible refine below_drewN ?_ _) | (with_reducible refine Bset ?_ ?_ _; focus (first | (with_reducible exact Nat.le_refl _) | (simp; done) | (simp; omega) | omega)) | (with_reducible refine Bt ?_ (by assumption)) | (with_reducible refine Bp (g := g) ?_ (by assumption) (by assumption)))))))
    refine mix_nil ?_
    go_wp2_with fail
    go_roundw
    case rel =>
      refine ⟨k + 1, by omega, by go_num, Lib.hid (hB.out.trans (Below.mono (B := wr.heap.size) ?_ hbs))⟩
      repeat (first | (with_reducible exact Below.refl _ _) | (with_reducible refine Bal ?_ _) | (with_reducible refine Below.drew ?_) | (with_reducible refine below_drewN ?_ _) | (with_reducible refine Bset ?_ ?_ _; focus (first | (with_reducible exact Nat.le_refl _) | (simp; done) | (simp; omega) | omega)) | (with_reducible refine Bt ?_ (by assumption)) | (with_reducible refine Bp (g := g) ?_ (by assumption) (by assumption)))
    case measure => simp [intOf]; omega
end Go.Proofs.Ytelcclhaepfmgaa
