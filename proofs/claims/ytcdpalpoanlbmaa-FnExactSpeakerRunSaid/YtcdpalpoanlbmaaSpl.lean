/- Who speaks next: the program's step and the reference's. -/
import Derived.Test.YtcdpalpoanlbmaaSpk
import Derived.Test.YtcdpalpoanlbmaaInts
namespace Go.Proofs.Ytcdpalpoanlbmaa
open Go Go.RowKit
set_option linter.unusedVariables false
set_option linter.unusedSimpArgs false

def LoudOk (n : Nat) (z : Nat → Int) : Prop := (1 ≤ n ∧ n ≤ 6) ∧ ∀ i, i < n → 0 ≤ z i ∧ z i ≤ 127
instance (n : Nat) (z : Nat → Int) : Decidable (LoudOk n z) := inferInstanceAs (Decidable (_ ∧ _))
def loudB (n : Nat) (z : Nat → Int) : Bool := decide (LoudOk n z)
theorem loudB_t {n : Nat} {z : Nat → Int} (h : LoudOk n z) : loudB n z = true := decide_eq_true h
theorem loudB_f {n : Nat} {z : Nat → Int} (h : ¬ LoudOk n z) : loudB n z = false := decide_eq_false h
/-- The loudest of the first k. -/
def bestF (z : Nat → Int) : Nat → Nat
  | 0 => 0
  | k + 1 => if z (bestF z k) < z k then k else bestF z k
theorem bestF_lt (z : Nat → Int) {n : Nat} (hn : 0 < n) : ∀ k, k ≤ n → bestF z k < n
  | 0, _ => hn
  | k + 1, h => by
    have := bestF_lt z hn k (by omega)
    unfold bestF; split <;> omega
theorem bestF_max (z : Nat → Int) : ∀ k i, i < k → z i ≤ z (bestF z k)
  | 0, _, h => by omega
  | k + 1, i, h => by
    have ih := bestF_max z k
    unfold bestF
    split
    · by_cases e : i = k
      · subst e; exact Int.le_refl _
      · have := ih i (by omega); omega
    · by_cases e : i = k
      · subst e; omega
      · exact ih i (by omega)
/-- .. and the first of those. -/
theorem bestF_first (z : Nat → Int) : ∀ k i, i < bestF z k → z i < z (bestF z k)
  | 0, i, h => by simp [bestF] at h
  | k + 1, i, h => by
    unfold bestF at h ⊢
    split at h
    · rename_i hlt
      rw [if_pos hlt]
      have := bestF_max z k i h
      omega
    · rename_i hlt
      rw [if_neg hlt]
      exact bestF_first z k i h

set_option maxHeartbeats 1000000 in
theorem iloud_any (w : World) {lo hi : Nat} {A : Option Addr} {n c : Nat} {z : Nat → Int} (h : Ints w lo hi A n z) (hn : n ≤ 1048576) :
    Calls Try.prog 20 #[.slice A n c] w fun e w' => e = .returned (.bool (loudB n z)) ∧ w = w' := by
  have H := Lib.hid h
  clear h
  by_cases h1 : 1 ≤ n
  · by_cases h6 : n ≤ 6
    · go_enter Try.func20, Try.ntmps20
      go_wp2
      go_loop [15] (fun i => ∃ k, k ≤ n ∧ i = .int .i64 k ∧ Hid (∀ j, j < k → 0 ≤ z j ∧ z j ≤ 127)) (fun i => n - (intOf i).toNat)
      case atStart => exact ⟨0, Nat.zero_le _, rfl, fun j hj => absurd hj (by omega)⟩
      case round =>
        obtain ⟨k, hk, rfl, hA⟩ := hrel
        by_cases hkn : k < n
        · obtain ⟨b, off, rfl, _, hb1, hc⟩ := H.out.at_ hkn
          by_cases hz0 : 0 ≤ z k
          · by_cases hz1 : z k ≤ 127
            · go_wp2
              go_round
              case rel => exact ⟨k + 1, by omega, by go_num, fun j hj => by
                by_cases e : j = k
                · subst e; exact ⟨hz0, hz1⟩
                · exact hA.out j (by omega)⟩
              case measure => simp [intOf]; omega
            · go_wp2
              go_ret
              exact ⟨ret_bool (loudB_f fun h => by have := (h.2 k hkn).2; omega).symm, rfl⟩
          · go_wp2
            go_ret
            exact ⟨ret_bool (loudB_f fun h => by have := (h.2 k hkn).1; omega).symm, rfl⟩
        · go_wp2
          go_ret
          exact ⟨ret_bool (loudB_t ⟨⟨h1, h6⟩, fun j hj => hA.out j (by omega)⟩).symm, rfl⟩
    · go_enter Try.func20, Try.ntmps20
      go_wp2
      go_ret
      exact ⟨ret_bool (loudB_f fun h => h6 h.1.2).symm, rfl⟩
  · go_enter Try.func20, Try.ntmps20
    go_wp2
    go_ret
    exact ⟨ret_bool (loudB_f fun h => h1 h.1.1).symm, rfl⟩
set_option maxHeartbeats 1000000 in
theorem sloud_any (w : World) {lo hi : Nat} {A : Option Addr} {n c : Nat} {z : Nat → Int} (h : Ints w lo hi A n z) (hn : n ≤ 1048576) :
    Calls Try.prog 22 #[.slice A n c] w fun e w' => e = .returned (.bool (loudB n z)) ∧ w = w' := by
  have H := Lib.hid h
  clear h
  go_enter Try.func22, Try.ntmps22
  go_wp2
  go_loop [3] (fun i => ∃ k, k ≤ n ∧ i = .int .i64 k ∧ Hid (∀ j, j < k → 0 ≤ z j ∧ z j ≤ 127)) (fun i => n - (intOf i).toNat)
  case atStart => exact ⟨0, Nat.zero_le _, rfl, fun j hj => absurd hj (by omega)⟩
  case round =>
    obtain ⟨k, hk, rfl, hA⟩ := hrel
    by_cases hkn : k < n
    · obtain ⟨b, off, rfl, _, hb1, hc⟩ := H.out.at_ hkn
      by_cases hz : inB (z k) 0 127 = true
      · go_wp2_with (go_at_call 28; refine (l6In_any _ _ _ _).mono ?_; rintro e w' ⟨rfl, rfl⟩)
        go_round
        case rel => exact ⟨k + 1, by omega, by go_num, fun j hj => by
          by_cases e : j = k
          · subst e; simpa [inB] using hz
          · exact hA.out j (by omega)⟩
        case measure => simp [intOf]; omega
      · have hz' : inB (z k) 0 127 = false := by simpa using hz
        go_wp2_with (go_at_call 28; refine (l6In_any _ _ _ _).mono ?_; rintro e w' ⟨rfl, rfl⟩)
        go_ret
        exact ⟨ret_bool (loudB_f fun h => by have := h.2 k hkn; simp [inB] at hz'; omega).symm, rfl⟩
    · go_wp2_with (go_at_call 28; refine (l6In_any _ _ _ _).mono ?_; rintro e w' ⟨rfl, rfl⟩)
      go_ret
      refine ⟨ret_bool ?_, rfl⟩
      by_cases h16 : 1 ≤ n ∧ n ≤ 6
      · rw [loudB_t ⟨h16, fun j hj => hA.out j (by omega)⟩]; simp [inB]; omega
      · rw [loudB_f fun h => h16 h.1]; simp [inB]; omega
set_option maxHeartbeats 1000000 in
theorem ibest_any (w : World) {lo hi : Nat} {A : Option Addr} {n c : Nat} {z : Nat → Int} (h : Ints w lo hi A n z) (h1 : 1 ≤ n) (hn : n ≤ 1048576) :
    Calls Try.prog 27 #[.slice A n c] w fun e w' => e = .returned (.int .i64 (bestF z n)) ∧ w = w' := by
  have H := Lib.hid h
  clear h
  go_enter Try.func27, Try.ntmps27
  go_wp2
  go_loop [3, 8] (fun best i => ∃ k B, k ≤ n ∧ i = .int .i64 (k : Nat) ∧ best = .int .i64 (B : Nat) ∧ Hid (B = bestF z k)) (fun _ i => n - (intOf i).toNat)
  case atStart => exact ⟨0, 0, Nat.zero_le _, rfl, rfl, rfl⟩
  case round =>
    obtain ⟨k, B, hk, rfl, rfl, hB⟩ := hrel
    have hBn : B < n := by rw [hB.out]; exact bestF_lt z (by omega) k hk
    by_cases hkn : k < n
    · obtain ⟨b, off, rfl, _, hb1, hc⟩ := H.out.at_ hkn
      have hcB := H.out.cell hBn
      by_cases hlt : z B < z k
      · go_wp2
        go_round
        case rel => exact ⟨k + 1, k, by omega, by go_num, rfl, (show k = bestF z (k + 1) by unfold bestF; rw [← hB.out, if_pos (by omega)])⟩
        case measure => simp [intOf]; omega
      · go_wp2
        go_round
        case rel => exact ⟨k + 1, B, by omega, by go_num, rfl, (show B = bestF z (k + 1) by unfold bestF; rw [← hB.out, if_neg (by omega)])⟩
        case measure => simp [intOf]; omega
    · go_wp2
      go_ret
      exact ⟨ret_int (by rw [hB.out]; rw [show k = n by omega]), rfl⟩
set_option maxHeartbeats 1000000 in
theorem sbest_any (w : World) {lo hi : Nat} {A : Option Addr} {n c : Nat} {z : Nat → Int} (h : Ints w lo hi A n z) (hh : hi ≤ w.heap.size) (h1 : 1 ≤ n) (hn : n ≤ 1048576) :
    Calls Try.prog 29 #[.slice A n c] w fun e w' => e = .returned (.int .i64 (bestF z n)) ∧ Below w.heap.size w w' := by
  have H := Lib.hid h
  clear h
  go_enter Try.func29, Try.ntmps29
  go_wp2
  go_loopw [3, 4] (fun best i wr => ∃ k B, 1 ≤ k ∧ k ≤ n ∧ i = .int .i64 (k : Nat) ∧ best = .int .i64 (B : Nat) ∧ Hid (B = bestF z k) ∧ Below w.heap.size w wr) (fun _ i _ => n - (intOf i).toNat)
  case atStart => exact ⟨1, 0, Nat.le_refl _, h1, rfl, rfl, (show 0 = bestF z 1 by simp [bestF]), Below.refl _ _⟩
  case round =>
    obtain ⟨k, B, hk1, hk, rfl, rfl, hB, hW⟩ := hrel
    have hBn : B < n := by rw [hB.out]; exact bestF_lt z (by omega) k hk
    by_cases hkn : k < n
    · obtain ⟨b, off, rfl, _, hb1, hc⟩ := (H.out.below hh hW).at_ hkn
      have hcB := (H.out.below hh hW).cell hBn
      have hs := hW.size
      have hb1' : b < wr.heap.size := by omega
      by_cases hlt : z B < z k
      · go_wp2
        refine wp_region_mixB (by kernel_rfl) (by kernel_rfl) ?_
        repeat (first
          | (refine mix_skip rfl ?_; have e0 : True := trivial; clear e0; refine mix_putK ?_; intro K hK; go_simp; refine hK _ ?_; clear hK K)
          | (refine mix_readE rfl rfl rfl ?_; apply Exists.intro; refine ⟨fun w' hb' => ?_, ?_⟩; (focus (obtain ⟨hc', hf'⟩ := Old.cells hb'; clear hb'; go_simp; try exact rfl)); have e0 : True := trivial; clear e0; refine mix_putK ?_; intro K hK; go_simp; refine hK _ ?_; clear hK K)
          | (refine mix_pureE rfl rfl ?_; apply Exists.intro; refine ⟨fun w' => ?_, ?_⟩; (focus (go_simp; try exact rfl)); have e0 : True := trivial; clear e0; refine mix_putK ?_; intro K hK; go_simp; refine hK _ ?_; clear hK K)
          | (refine mix_eff rfl rfl ?_; go_wp2_with (fail); refine then_mix rfl ?_ ?_; (first | (intro h; have h2 : false = true := h; cases h2) | (intro _; assumption) | (intro _; refine Old.mk ?_; repeat (first | (with_reducible exact Below.refl _ _) | (with_reducible refine Bal ?_ _) | (with_reducible refine Below.drew ?_) | (with_reducible refine below_drewN ?_ _) | (with_reducible refine Bset ?_ ?_ _; focus (first | (with_reducible exact Nat.le_refl _) | (simp; done) | (simp; omega) | omega)) | (with_reducible refine Bt ?_ (by assumption)) | (with_reducible refine Bp (g := g) ?_ (by assumption) (by assumption)))))))
        refine mix_nil ?_
        go_wp2
        go_roundw
        case rel => exact ⟨k + 1, k, by omega, by omega, by go_num, rfl, (show k = bestF z (k + 1) by unfold bestF; rw [← hB.out, if_pos (by omega)]), hW.drew⟩
        case measure => simp [intOf]; omega
      · go_wp2
        refine wp_region_mixB (by kernel_rfl) (by kernel_rfl) ?_
        repeat (first
          | (refine mix_skip rfl ?_; have e0 : True := trivial; clear e0; refine mix_putK ?_; intro K hK; go_simp; refine hK _ ?_; clear hK K)
          | (refine mix_readE rfl rfl rfl ?_; apply Exists.intro; refine ⟨fun w' hb' => ?_, ?_⟩; (focus (obtain ⟨hc', hf'⟩ := Old.cells hb'; clear hb'; go_simp; try exact rfl)); have e0 : True := trivial; clear e0; refine mix_putK ?_; intro K hK; go_simp; refine hK _ ?_; clear hK K)
          | (refine mix_pureE rfl rfl ?_; apply Exists.intro; refine ⟨fun w' => ?_, ?_⟩; (focus (go_simp; try exact rfl)); have e0 : True := trivial; clear e0; refine mix_putK ?_; intro K hK; go_simp; refine hK _ ?_; clear hK K)
          | (refine mix_eff rfl rfl ?_; go_wp2_with (fail); refine then_mix rfl ?_ ?_; (first | (intro h; have h2 : false = true := h; cases h2) | (intro _; assumption) | (intro _; refine Old.mk ?_; repeat (first | (with_reducible exact Below.refl _ _) | (with_reducible refine Bal ?_ _) | (with_reducible refine Below.drew ?_) | (with_reducible refine below_drewN ?_ _) | (with_reducible refine Bset ?_ ?_ _; focus (first | (with_reducible exact Nat.le_refl _) | (simp; done) | (simp; omega) | omega)) | (with_reducible refine Bt ?_ (by assumption)) | (with_reducible refine Bp (g := g) ?_ (by assumption) (by assumption)))))))
        refine mix_nil ?_
        go_wp2
        go_roundw
        case rel => exact ⟨k + 1, B, by omega, by omega, by go_num, rfl, (show B = bestF z (k + 1) by unfold bestF; rw [← hB.out, if_neg (by omega)]), hW.drew⟩
        case measure => simp [intOf]; omega
    · go_wp2
      go_ret
      exact ⟨ret_int (by rw [hB.out]; rw [show k = n by omega]), hW⟩
end Go.Proofs.Ytcdpalpoanlbmaa
