/- Rooms: when they are valid, the whole (printed by gen_rmw.py). -/
import Derived.Test.YtelcclhaepfmgaaRmv
namespace Go.Proofs.Ytelcclhaepfmgaa
open Go Go.RowKit
set_option linter.unusedVariables false
set_option linter.unusedSimpArgs false
set_option maxRecDepth 100000 in
set_option maxHeartbeats 8000000 in
theorem irv_any (w : World) (lo hi : Nat) (A : Option Addr) (n c : Nat) (M : Nat → Mb) (h : Room w lo hi A n M) (hi' : hi ≤ w.heap.size) (hn : n ≤ 1048576) (hb : ∀ i, i < n → (M i).p.n ≤ 1048576) :
    Calls Try.prog 17 #[.slice A n c] w fun e w' => e = .returned (.bool (rmB n (plain M))) ∧ Below w.heap.size w w' := by
  have hv := fun k (hk : k < n) W (hw : Below w.heap.size w W) => imv_any W lo hi lo hi A n c M (M k).p.id (M k).p.s (M k).p.n (M k).c (M k).p.z (M k).A (h.1.below hi' hw) (Nat.le_trans hi' hw.size) hn ((h.2 k hk).below hi' hw) (Nat.le_trans hi' hw.size) (hb k hk)
  have HVA := Lib.hid hv
  have H := Lib.hid h.1
  clear hv h
  by_cases h6 : n ≤ 6
  rotate_left
  · have HN := Lib.hid (show false = rmB n (plain M) from (decide_eq_false (fun h => h6 h.1)).symm)
    go_enter Try.func17, Try.ntmps17
    go_wp2_with fail
    go_ret
    exact ⟨ret_bool HN.out, Below.refl _ _⟩
  go_enter Try.func17, Try.ntmps17
  go_wp2_with fail
  go_loopw [10] (fun i wr => ∃ k, k ≤ n ∧ i = .int .i64 (k : Nat) ∧ Hid (MbrUp k n (plain M)) ∧ Hid (Below w.heap.size w wr)) (fun i _ => n - (intOf i).toNat)
  case atStart => exact ⟨0, Nat.zero_le _, rfl, Lib.hid (MbrUp.zero _ _), Lib.hid (Below.refl _ _)⟩
  case round =>
    obtain ⟨k, hk, rfl, hA, hB⟩ := hrel
    have hBs : w.heap.size ≤ wr.heap.size := hB.out.size
    have hbr := hBs
    have HBR := hB
    have HR := Lib.hid (H.out.below hi' HBR.out)
    by_cases hkn : k < n
    rotate_left
    · obtain rfl : k = n := by omega
      have HN := Lib.hid (show true = rmB k (plain M) from (decide_eq_true ⟨h6, hA.out⟩).symm)
      go_wp2_with fail
      go_ret
      exact ⟨ret_bool HN.out, HBR.out⟩
    have hv := HVA.out k hkn
    by_cases hm : (0 ≤ (M k).p.id ∧ (M k).p.id ≤ 99) ∧ HearsUp (M k).p.n n (plain M) (M k).p
    rotate_left
    · have HN := Lib.hid (show false = rmB n (plain M) from (decide_eq_false fun h => hm ⟨(h.2 k hkn).1, (h.2 k hkn).2.1⟩).symm)
      rw [show mvB n (plain M) ⟨(M k).p.id, (M k).p.s, (M k).p.n, (M k).p.z⟩ = false from decide_eq_false hm] at hv
      have HV := Lib.hid hv
      clear hv hm
      obtain ⟨b, off, rfl, _, hb2, c0, c1, c2⟩ := Mb_at HR.out hkn
      have hbw : b < wr.heap.size := by omega
      go_wp2_with fail
      refine wp_region_mixB (by kernel_rfl) (by kernel_rfl) ?_
      repeat (first
        | (refine mix_skip rfl ?_; have e0 : True := trivial; clear e0; refine mix_putK ?_; intro K hK; go_simp; refine hK _ ?_; clear hK K)
        | (refine mix_readE rfl rfl rfl ?_; apply Exists.intro; refine ⟨fun w' hb' => ?_, ?_⟩; (focus (obtain ⟨hc', hf'⟩ := Old.cells hb'; clear hb'; go_simp; try exact rfl)); have e0 : True := trivial; clear e0; refine mix_putK ?_; intro K hK; go_simp; refine hK _ ?_; clear hK K)
        | (refine mix_pureE rfl rfl ?_; apply Exists.intro; refine ⟨fun w' => ?_, ?_⟩; (focus (go_simp; try exact rfl)); have e0 : True := trivial; clear e0; refine mix_putK ?_; intro K hK; go_simp; refine hK _ ?_; clear hK K)
        | (refine mix_eff rfl rfl ?_; go_wp2_with ((go_at_call 44; refine (HV.out _ ?_).mono ?_; (focus (refine HBR.out.trans (Below.mono (B := wr.heap.size) ?_ hbr); repeat (first | (with_reducible exact Below.refl _ _) | (with_reducible refine Bal ?_ _) | (with_reducible refine Below.drew ?_) | (with_reducible refine below_drewN ?_ _) | (with_reducible refine Bset ?_ ?_ _; focus (first | (with_reducible exact Nat.le_refl _) | (simp; done) | (simp; omega) | omega)) | (with_reducible refine Bt ?_ (by assumption)) | (with_reducible refine Bp (g := g) ?_ (by assumption) (by assumption))))); rintro e w2 ⟨rfl, hbv⟩)); refine then_mix rfl ?_ ?_; (first | (intro h; have h2 : false = true := h; cases h2) | (intro _; assumption) | (intro _; refine Old.mk ?_; repeat (first | (with_reducible exact Below.refl _ _) | (with_reducible refine Bal ?_ _) | (with_reducible refine Below.drew ?_) | (with_reducible refine below_drewN ?_ _) | (with_reducible refine Bset ?_ ?_ _; focus (first | (with_reducible exact Nat.le_refl _) | (simp; done) | (simp; omega) | omega)) | (with_reducible refine Bt ?_ (by assumption)) | (with_reducible refine Bp (g := g) ?_ (by assumption) (by assumption)))))))
      refine mix_nil ?_
      go_wp2_with fail
      go_ret
      go_light
      refine ⟨ret_bool HN.out, ?_⟩
      refine HBR.out.trans (Below.mono (B := wr.heap.size) ?_ hbr)
      repeat (first | (with_reducible exact Below.refl _ _) | (with_reducible refine Bal ?_ _) | (with_reducible refine Below.drew ?_) | (with_reducible refine below_drewN ?_ _) | (with_reducible refine Bset ?_ ?_ _; focus (first | (with_reducible exact Nat.le_refl _) | (simp; done) | (simp; omega) | omega)) | (with_reducible refine Bt ?_ (by assumption)) | (with_reducible refine Bp (g := g) ?_ (by assumption) (by assumption)))
    have HM := Lib.hid hm
    rw [show mvB n (plain M) ⟨(M k).p.id, (M k).p.s, (M k).p.n, (M k).p.z⟩ = true from decide_eq_true hm] at hv
    have HV := Lib.hid hv
    clear hv hm
    by_cases hk0 : k = 0
    · subst hk0
      obtain ⟨b, off, rfl, _, hb2, c0, c1, c2⟩ := Mb_at HR.out hkn
      simp only [Nat.zero_mul, Nat.add_zero] at c0 c1 c2
      have hbw : b < wr.heap.size := by omega
      go_wp2_with fail
      refine wp_region_mixB (by kernel_rfl) (by kernel_rfl) ?_
      repeat (first
        | (refine mix_skip rfl ?_; have e0 : True := trivial; clear e0; refine mix_putK ?_; intro K hK; go_simp; refine hK _ ?_; clear hK K)
        | (refine mix_readE rfl rfl rfl ?_; apply Exists.intro; refine ⟨fun w' hb' => ?_, ?_⟩; (focus (obtain ⟨hc', hf'⟩ := Old.cells hb'; clear hb'; go_simp; try exact rfl)); have e0 : True := trivial; clear e0; refine mix_putK ?_; intro K hK; go_simp; refine hK _ ?_; clear hK K)
        | (refine mix_pureE rfl rfl ?_; apply Exists.intro; refine ⟨fun w' => ?_, ?_⟩; (focus (go_simp; try exact rfl)); have e0 : True := trivial; clear e0; refine mix_putK ?_; intro K hK; go_simp; refine hK _ ?_; clear hK K)
        | (refine mix_eff rfl rfl ?_; go_wp2_with ((go_at_call 44; refine (HV.out _ ?_).mono ?_; (focus (refine HBR.out.trans (Below.mono (B := wr.heap.size) ?_ hbr); repeat (first | (with_reducible exact Below.refl _ _) | (with_reducible refine Bal ?_ _) | (with_reducible refine Below.drew ?_) | (with_reducible refine below_drewN ?_ _) | (with_reducible refine Bset ?_ ?_ _; focus (first | (with_reducible exact Nat.le_refl _) | (simp; done) | (simp; omega) | omega)) | (with_reducible refine Bt ?_ (by assumption)) | (with_reducible refine Bp (g := g) ?_ (by assumption) (by assumption))))); rintro e w2 ⟨rfl, hbv⟩)); refine then_mix rfl ?_ ?_; (first | (intro h; have h2 : false = true := h; cases h2) | (intro _; assumption) | (intro _; refine Old.mk ?_; repeat (first | (with_reducible exact Below.refl _ _) | (with_reducible refine Bal ?_ _) | (with_reducible refine Below.drew ?_) | (with_reducible refine below_drewN ?_ _) | (with_reducible refine Bset ?_ ?_ _; focus (first | (with_reducible exact Nat.le_refl _) | (simp; done) | (simp; omega) | omega)) | (with_reducible refine Bt ?_ (by assumption)) | (with_reducible refine Bp (g := g) ?_ (by assumption) (by assumption)))))))
      refine mix_nil ?_
      go_wp2_with fail
      go_roundw
      case rel =>
        refine ⟨0 + 1, by omega, by go_num, Lib.hid (hA.out.succ HM.out (fun h => absurd h (by omega))), Lib.hid (hB.out.trans (Below.mono (B := wr.heap.size) ?_ hBs))⟩
        repeat (first | (with_reducible exact Below.refl _ _) | (with_reducible refine Bal ?_ _) | (with_reducible refine Below.drew ?_) | (with_reducible refine below_drewN ?_ _) | (with_reducible refine Bset ?_ ?_ _; focus (first | (with_reducible exact Nat.le_refl _) | (simp; done) | (simp; omega) | omega)) | (with_reducible refine Bt ?_ (by assumption)) | (with_reducible refine Bp (g := g) ?_ (by assumption) (by assumption)))
      case measure => simp [intOf]; omega
    obtain ⟨j, rfl⟩ : ∃ j, k = j + 1 := ⟨k - 1, by omega⟩
    have hjn : j < n := by omega
    obtain ⟨b, off, rfl, _, hb2, c0, c1, c2⟩ := Mb_at HR.out hkn
    obtain ⟨b', off', hAe, _, _, d0, _, _⟩ := Mb_at HR.out hjn
    cases hAe
    have hbw : b < wr.heap.size := by omega
    have wj : IntKind.i64.wrap (j : Int) = (j : Int) := IntWalk.i64_in _ (by omega)
    clear hk0
    by_cases hl : (M j).p.id < (M (j + 1)).p.id
    · have HL := Lib.hid hl
      have hlx : decide ((M (j + 1)).p.id ≤ (M j).p.id) = false := decide_eq_false (by omega)
      clear hl
      go_wp2_with fail
      refine wp_region_mixB (by kernel_rfl) (by kernel_rfl) ?_
      repeat (first
        | (refine mix_skip rfl ?_; have e0 : True := trivial; clear e0; refine mix_putK ?_; intro K hK; go_simp; refine hK _ ?_; clear hK K)
        | (refine mix_readE rfl rfl rfl ?_; apply Exists.intro; refine ⟨fun w' hb' => ?_, ?_⟩; (focus (obtain ⟨hc', hf'⟩ := Old.cells hb'; clear hb'; go_simp; try exact rfl)); have e0 : True := trivial; clear e0; refine mix_putK ?_; intro K hK; go_simp; refine hK _ ?_; clear hK K)
        | (refine mix_pureE rfl rfl ?_; apply Exists.intro; refine ⟨fun w' => ?_, ?_⟩; (focus (go_simp; try exact rfl)); have e0 : True := trivial; clear e0; refine mix_putK ?_; intro K hK; go_simp; refine hK _ ?_; clear hK K)
        | (refine mix_eff rfl rfl ?_; go_wp2_with ((go_at_call 44; refine (HV.out _ ?_).mono ?_; (focus (refine HBR.out.trans (Below.mono (B := wr.heap.size) ?_ hbr); repeat (first | (with_reducible exact Below.refl _ _) | (with_reducible refine Bal ?_ _) | (with_reducible refine Below.drew ?_) | (with_reducible refine below_drewN ?_ _) | (with_reducible refine Bset ?_ ?_ _; focus (first | (with_reducible exact Nat.le_refl _) | (simp; done) | (simp; omega) | omega)) | (with_reducible refine Bt ?_ (by assumption)) | (with_reducible refine Bp (g := g) ?_ (by assumption) (by assumption))))); rintro e w2 ⟨rfl, hbv⟩)); refine then_mix rfl ?_ ?_; (first | (intro h; have h2 : false = true := h; cases h2) | (intro _; assumption) | (intro _; refine Old.mk ?_; repeat (first | (with_reducible exact Below.refl _ _) | (with_reducible refine Bal ?_ _) | (with_reducible refine Below.drew ?_) | (with_reducible refine below_drewN ?_ _) | (with_reducible refine Bset ?_ ?_ _; focus (first | (with_reducible exact Nat.le_refl _) | (simp; done) | (simp; omega) | omega)) | (with_reducible refine Bt ?_ (by assumption)) | (with_reducible refine Bp (g := g) ?_ (by assumption) (by assumption)))))))
      refine mix_nil ?_
      go_wp2_with fail
      go_roundw
      case rel =>
        refine ⟨j + 1 + 1, by omega, by go_num, Lib.hid (hA.out.succ HM.out (fun _ => HL.out)), Lib.hid (hB.out.trans (Below.mono (B := wr.heap.size) ?_ hBs))⟩
        repeat (first | (with_reducible exact Below.refl _ _) | (with_reducible refine Bal ?_ _) | (with_reducible refine Below.drew ?_) | (with_reducible refine below_drewN ?_ _) | (with_reducible refine Bset ?_ ?_ _; focus (first | (with_reducible exact Nat.le_refl _) | (simp; done) | (simp; omega) | omega)) | (with_reducible refine Bt ?_ (by assumption)) | (with_reducible refine Bp (g := g) ?_ (by assumption) (by assumption)))
      case measure => simp [intOf]; omega
    · have hlx : decide ((M (j + 1)).p.id ≤ (M j).p.id) = true := decide_eq_true (by omega)
      have HN := Lib.hid (show false = rmB n (plain M) from (decide_eq_false fun h => hl ((h.2 (j + 1) hkn).2.2 (by omega))).symm)
      clear hl
      go_wp2_with fail
      refine wp_region_mixB (by kernel_rfl) (by kernel_rfl) ?_
      repeat (first
        | (refine mix_skip rfl ?_; have e0 : True := trivial; clear e0; refine mix_putK ?_; intro K hK; go_simp; refine hK _ ?_; clear hK K)
        | (refine mix_readE rfl rfl rfl ?_; apply Exists.intro; refine ⟨fun w' hb' => ?_, ?_⟩; (focus (obtain ⟨hc', hf'⟩ := Old.cells hb'; clear hb'; go_simp; try exact rfl)); have e0 : True := trivial; clear e0; refine mix_putK ?_; intro K hK; go_simp; refine hK _ ?_; clear hK K)
        | (refine mix_pureE rfl rfl ?_; apply Exists.intro; refine ⟨fun w' => ?_, ?_⟩; (focus (go_simp; try exact rfl)); have e0 : True := trivial; clear e0; refine mix_putK ?_; intro K hK; go_simp; refine hK _ ?_; clear hK K)
        | (refine mix_eff rfl rfl ?_; go_wp2_with ((go_at_call 44; refine (HV.out _ ?_).mono ?_; (focus (refine HBR.out.trans (Below.mono (B := wr.heap.size) ?_ hbr); repeat (first | (with_reducible exact Below.refl _ _) | (with_reducible refine Bal ?_ _) | (with_reducible refine Below.drew ?_) | (with_reducible refine below_drewN ?_ _) | (with_reducible refine Bset ?_ ?_ _; focus (first | (with_reducible exact Nat.le_refl _) | (simp; done) | (simp; omega) | omega)) | (with_reducible refine Bt ?_ (by assumption)) | (with_reducible refine Bp (g := g) ?_ (by assumption) (by assumption))))); rintro e w2 ⟨rfl, hbv⟩)); refine then_mix rfl ?_ ?_; (first | (intro h; have h2 : false = true := h; cases h2) | (intro _; assumption) | (intro _; refine Old.mk ?_; repeat (first | (with_reducible exact Below.refl _ _) | (with_reducible refine Bal ?_ _) | (with_reducible refine Below.drew ?_) | (with_reducible refine below_drewN ?_ _) | (with_reducible refine Bset ?_ ?_ _; focus (first | (with_reducible exact Nat.le_refl _) | (simp; done) | (simp; omega) | omega)) | (with_reducible refine Bt ?_ (by assumption)) | (with_reducible refine Bp (g := g) ?_ (by assumption) (by assumption)))))))
      refine mix_nil ?_
      go_wp2_with fail
      go_ret
      go_light
      refine ⟨ret_bool HN.out, ?_⟩
      refine HBR.out.trans (Below.mono (B := wr.heap.size) ?_ hbr)
      repeat (first | (with_reducible exact Below.refl _ _) | (with_reducible refine Bal ?_ _) | (with_reducible refine Below.drew ?_) | (with_reducible refine below_drewN ?_ _) | (with_reducible refine Bset ?_ ?_ _; focus (first | (with_reducible exact Nat.le_refl _) | (simp; done) | (simp; omega) | omega)) | (with_reducible refine Bt ?_ (by assumption)) | (with_reducible refine Bp (g := g) ?_ (by assumption) (by assumption)))
set_option maxRecDepth 100000 in
set_option maxHeartbeats 8000000 in
theorem srv_any (w : World) (lo hi : Nat) (A : Option Addr) (n c : Nat) (M : Nat → Mb) (h : Room w lo hi A n M) (hi' : hi ≤ w.heap.size) (hn : n ≤ 1048576) (hb : ∀ i, i < n → (M i).p.n ≤ 1048576) :
    Calls Try.prog 18 #[.slice A n c] w fun e w' => e = .returned (.bool (rmB n (plain M))) ∧ Below w.heap.size w w' := by
  have hv := fun k (hk : k < n) W (hw : Below w.heap.size w W) => shv_any W lo hi lo hi A n c M (M k).p.id (M k).p.s (M k).p.n (M k).c (M k).p.z (M k).A (h.1.below hi' hw) (Nat.le_trans hi' hw.size) hn ((h.2 k hk).below hi' hw) (Nat.le_trans hi' hw.size) (hb k hk)
  have HVA := Lib.hid hv
  have H := Lib.hid h.1
  clear hv h
  go_enter Try.func18, Try.ntmps18
  go_wp2_with fail
  go_loopw [3] (fun i wr => ∃ k, k ≤ n ∧ i = .int .i64 (k : Nat) ∧ Hid (MbrUp k n (plain M)) ∧ Hid (Below w.heap.size w wr)) (fun i _ => n - (intOf i).toNat)
  case atStart => exact ⟨0, Nat.zero_le _, rfl, Lib.hid (MbrUp.zero _ _), Lib.hid (Below.refl _ _)⟩
  case round =>
    obtain ⟨k, hk, rfl, hA, hB⟩ := hrel
    have hBs : w.heap.size ≤ wr.heap.size := hB.out.size
    have hbr := hBs
    have HBR := hB
    have HR := Lib.hid (H.out.below hi' HBR.out)
    by_cases hkn : k < n
    rotate_left
    · obtain rfl : k = n := by omega
      skip
      go_wp2_with fail
      go_ret
      exact ⟨ret_bool (by
        by_cases h6 : k ≤ 6
        · rw [show rmB k (plain M) = true from decide_eq_true ⟨h6, hA.out⟩]; simp; omega
        · rw [show rmB k (plain M) = false from decide_eq_false fun h => h6 h.1]; simp; omega), HBR.out⟩
    have ht := fun W : World => l6In_any (M k).p.id 0 99 W
    by_cases hin : 0 ≤ (M k).p.id ∧ (M k).p.id ≤ 99
    rotate_left
    · have HN := Lib.hid (show false = rmB n (plain M) from (decide_eq_false fun h => hin (h.2 k hkn).1).symm)
      rw [show inB (M k).p.id 0 99 = false by (unfold inB; simp; omega)] at ht
      have HT := Lib.hid ht
      clear ht hin
      obtain ⟨b, off, rfl, _, hb2, c0, c1, c2⟩ := Mb_at HR.out hkn
      have hbw : b < wr.heap.size := by omega
      go_wp2_with fail
      refine wp_region_mixB (by kernel_rfl) (by kernel_rfl) ?_
      repeat (first
        | (refine mix_skip rfl ?_; have e0 : True := trivial; clear e0; refine mix_putK ?_; intro K hK; go_simp; refine hK _ ?_; clear hK K)
        | (refine mix_readE rfl rfl rfl ?_; apply Exists.intro; refine ⟨fun w' hb' => ?_, ?_⟩; (focus (obtain ⟨hc', hf'⟩ := Old.cells hb'; clear hb'; go_simp; try exact rfl)); have e0 : True := trivial; clear e0; refine mix_putK ?_; intro K hK; go_simp; refine hK _ ?_; clear hK K)
        | (refine mix_pureE rfl rfl ?_; apply Exists.intro; refine ⟨fun w' => ?_, ?_⟩; (focus (go_simp; try exact rfl)); have e0 : True := trivial; clear e0; refine mix_putK ?_; intro K hK; go_simp; refine hK _ ?_; clear hK K)
        | (refine mix_eff rfl rfl ?_; go_wp2_with ((go_at_call 45; refine (HT.out _).mono ?_; rintro e w3 ⟨rfl, rfl⟩)); refine then_mix rfl ?_ ?_; (first | (intro h; have h2 : false = true := h; cases h2) | (intro _; assumption) | (intro _; refine Old.mk ?_; repeat (first | (with_reducible exact Below.refl _ _) | (with_reducible refine Bal ?_ _) | (with_reducible refine Below.drew ?_) | (with_reducible refine below_drewN ?_ _) | (with_reducible refine Bset ?_ ?_ _; focus (first | (with_reducible exact Nat.le_refl _) | (simp; done) | (simp; omega) | omega)) | (with_reducible refine Bt ?_ (by assumption)) | (with_reducible refine Bp (g := g) ?_ (by assumption) (by assumption)))))))
      refine mix_nil ?_
      go_wp2_with fail
      go_ret
      go_light
      refine ⟨ret_bool HN.out, ?_⟩
      refine HBR.out.trans (Below.mono (B := wr.heap.size) ?_ hbr)
      repeat (first | (with_reducible exact Below.refl _ _) | (with_reducible refine Bal ?_ _) | (with_reducible refine Below.drew ?_) | (with_reducible refine below_drewN ?_ _) | (with_reducible refine Bset ?_ ?_ _; focus (first | (with_reducible exact Nat.le_refl _) | (simp; done) | (simp; omega) | omega)) | (with_reducible refine Bt ?_ (by assumption)) | (with_reducible refine Bp (g := g) ?_ (by assumption) (by assumption)))
    rw [inB_t hin.1 hin.2] at ht
    have HT := Lib.hid ht
    clear ht
    by_cases hk0 : k = 0
    · subst hk0
      obtain ⟨b, off, rfl, _, hb2, c0, c1, c2⟩ := Mb_at HR.out hkn
      simp only [Nat.zero_mul, Nat.add_zero] at c0 c1 c2
      have hbw : b < wr.heap.size := by omega
      have hv := HVA.out 0 hkn
      by_cases hm : HearsUp (M 0).p.n n (plain M) (M 0).p
      rotate_left
      · have HN := Lib.hid (show false = rmB n (plain M) from (decide_eq_false fun h => hm (h.2 0 hkn).2.1).symm)
        rw [show hvB n (plain M) ⟨(M 0).p.id, (M 0).p.s, (M 0).p.n, (M 0).p.z⟩ = false from decide_eq_false hm] at hv
        have HV := Lib.hid hv
        clear hv hm
        go_wp2_with fail
        refine wp_region_mixB (by kernel_rfl) (by kernel_rfl) ?_
        repeat (first
          | (refine mix_skip rfl ?_; have e0 : True := trivial; clear e0; refine mix_putK ?_; intro K hK; go_simp; refine hK _ ?_; clear hK K)
          | (refine mix_readE rfl rfl rfl ?_; apply Exists.intro; refine ⟨fun w' hb' => ?_, ?_⟩; (focus (obtain ⟨hc', hf'⟩ := Old.cells hb'; clear hb'; go_simp; try exact rfl)); have e0 : True := trivial; clear e0; refine mix_putK ?_; intro K hK; go_simp; refine hK _ ?_; clear hK K)
          | (refine mix_pureE rfl rfl ?_; apply Exists.intro; refine ⟨fun w' => ?_, ?_⟩; (focus (go_simp; try exact rfl)); have e0 : True := trivial; clear e0; refine mix_putK ?_; intro K hK; go_simp; refine hK _ ?_; clear hK K)
          | (refine mix_eff rfl rfl ?_; go_wp2_with ((first | (go_at_call 45; refine (HT.out _).mono ?_; rintro e w3 ⟨rfl, rfl⟩) | (go_at_call 46; refine (HV.out _ ((HBR.out.drew).trans (Below.refl _ _))).mono ?_; rintro e w2 ⟨rfl, hbv⟩))); refine then_mix rfl ?_ ?_; (first | (intro h; have h2 : false = true := h; cases h2) | (intro _; assumption) | (intro _; refine Old.mk ?_; repeat (first | (with_reducible exact Below.refl _ _) | (with_reducible refine Bal ?_ _) | (with_reducible refine Below.drew ?_) | (with_reducible refine below_drewN ?_ _) | (with_reducible refine Bset ?_ ?_ _; focus (first | (with_reducible exact Nat.le_refl _) | (simp; done) | (simp; omega) | omega)) | (with_reducible refine Bt ?_ (by assumption)) | (with_reducible refine Bp (g := g) ?_ (by assumption) (by assumption)))))))
        refine mix_nil ?_
        go_wp2_with fail
        go_ret
        go_light
        refine ⟨ret_bool HN.out, ?_⟩
        refine HBR.out.trans (Below.mono (B := wr.heap.size) ?_ hbr)
        repeat (first | (with_reducible exact Below.refl _ _) | (with_reducible refine Bal ?_ _) | (with_reducible refine Below.drew ?_) | (with_reducible refine below_drewN ?_ _) | (with_reducible refine Bset ?_ ?_ _; focus (first | (with_reducible exact Nat.le_refl _) | (simp; done) | (simp; omega) | omega)) | (with_reducible refine Bt ?_ (by assumption)) | (with_reducible refine Bp (g := g) ?_ (by assumption) (by assumption)))
      have HM := Lib.hid (show (0 ≤ (plain M 0).id ∧ (plain M 0).id ≤ 99) ∧ HearsUp (plain M 0).n n (plain M) (plain M 0) from ⟨hin, hm⟩)
      rw [show hvB n (plain M) ⟨(M 0).p.id, (M 0).p.s, (M 0).p.n, (M 0).p.z⟩ = true from decide_eq_true hm] at hv
      have HV := Lib.hid hv
      clear hv hm
      go_wp2_with fail
      refine wp_region_mixB (by kernel_rfl) (by kernel_rfl) ?_
      repeat (first
        | (refine mix_skip rfl ?_; have e0 : True := trivial; clear e0; refine mix_putK ?_; intro K hK; go_simp; refine hK _ ?_; clear hK K)
        | (refine mix_readE rfl rfl rfl ?_; apply Exists.intro; refine ⟨fun w' hb' => ?_, ?_⟩; (focus (obtain ⟨hc', hf'⟩ := Old.cells hb'; clear hb'; go_simp; try exact rfl)); have e0 : True := trivial; clear e0; refine mix_putK ?_; intro K hK; go_simp; refine hK _ ?_; clear hK K)
        | (refine mix_pureE rfl rfl ?_; apply Exists.intro; refine ⟨fun w' => ?_, ?_⟩; (focus (go_simp; try exact rfl)); have e0 : True := trivial; clear e0; refine mix_putK ?_; intro K hK; go_simp; refine hK _ ?_; clear hK K)
        | (refine mix_eff rfl rfl ?_; go_wp2_with ((first | (go_at_call 45; refine (HT.out _).mono ?_; rintro e w3 ⟨rfl, rfl⟩) | (go_at_call 46; refine (HV.out _ ((HBR.out.drew).trans (Below.refl _ _))).mono ?_; rintro e w2 ⟨rfl, hbv⟩))); refine then_mix rfl ?_ ?_; (first | (intro h; have h2 : false = true := h; cases h2) | (intro _; assumption) | (intro _; refine Old.mk ?_; repeat (first | (with_reducible exact Below.refl _ _) | (with_reducible refine Bal ?_ _) | (with_reducible refine Below.drew ?_) | (with_reducible refine below_drewN ?_ _) | (with_reducible refine Bset ?_ ?_ _; focus (first | (with_reducible exact Nat.le_refl _) | (simp; done) | (simp; omega) | omega)) | (with_reducible refine Bt ?_ (by assumption)) | (with_reducible refine Bp (g := g) ?_ (by assumption) (by assumption)))))))
      refine mix_nil ?_
      go_wp2_with fail
      go_roundw
      case rel =>
        refine ⟨0 + 1, by omega, by go_num, Lib.hid (hA.out.succ HM.out (fun h => absurd h (by omega))), Lib.hid (hB.out.trans (Below.mono (B := wr.heap.size) ?_ hBs))⟩
        repeat (first | (with_reducible exact Below.refl _ _) | (with_reducible refine Bal ?_ _) | (with_reducible refine Below.drew ?_) | (with_reducible refine below_drewN ?_ _) | (with_reducible refine Bset ?_ ?_ _; focus (first | (with_reducible exact Nat.le_refl _) | (simp; done) | (simp; omega) | omega)) | (with_reducible refine Bt ?_ (by assumption)) | (with_reducible refine Bp (g := g) ?_ (by assumption) (by assumption)))
      case measure => simp [intOf]; omega
    obtain ⟨j, rfl⟩ : ∃ j, k = j + 1 := ⟨k - 1, by omega⟩
    have hjn : j < n := by omega
    obtain ⟨b, off, rfl, _, hb2, c0, c1, c2⟩ := Mb_at HR.out hkn
    obtain ⟨b', off', hAe, _, _, d0, _, _⟩ := Mb_at HR.out hjn
    cases hAe
    have hbw : b < wr.heap.size := by omega
    have wj : IntKind.i64.wrap (j : Int) = (j : Int) := IntWalk.i64_in _ (by omega)
    clear hk0
    by_cases hl : (M j).p.id < (M (j + 1)).p.id
    · have HL := Lib.hid hl
      have hlx : decide ((M (j + 1)).p.id ≤ (M j).p.id) = false := decide_eq_false (by omega)
      clear hl
      have hv := HVA.out (j + 1) hkn
      by_cases hm : HearsUp (M (j + 1)).p.n n (plain M) (M (j + 1)).p
      rotate_left
      · have HN := Lib.hid (show false = rmB n (plain M) from (decide_eq_false fun h => hm (h.2 (j + 1) hkn).2.1).symm)
        rw [show hvB n (plain M) ⟨(M (j + 1)).p.id, (M (j + 1)).p.s, (M (j + 1)).p.n, (M (j + 1)).p.z⟩ = false from decide_eq_false hm] at hv
        have HV := Lib.hid hv
        clear hv hm
        go_wp2_with fail
        refine wp_region_mixB (by kernel_rfl) (by kernel_rfl) ?_
        repeat (first
          | (refine mix_skip rfl ?_; have e0 : True := trivial; clear e0; refine mix_putK ?_; intro K hK; go_simp; refine hK _ ?_; clear hK K)
          | (refine mix_readE rfl rfl rfl ?_; apply Exists.intro; refine ⟨fun w' hb' => ?_, ?_⟩; (focus (obtain ⟨hc', hf'⟩ := Old.cells hb'; clear hb'; go_simp; try exact rfl)); have e0 : True := trivial; clear e0; refine mix_putK ?_; intro K hK; go_simp; refine hK _ ?_; clear hK K)
          | (refine mix_pureE rfl rfl ?_; apply Exists.intro; refine ⟨fun w' => ?_, ?_⟩; (focus (go_simp; try exact rfl)); have e0 : True := trivial; clear e0; refine mix_putK ?_; intro K hK; go_simp; refine hK _ ?_; clear hK K)
          | (refine mix_eff rfl rfl ?_; go_wp2_with ((first | (go_at_call 45; refine (HT.out _).mono ?_; rintro e w3 ⟨rfl, rfl⟩) | (go_at_call 46; refine (HV.out _ ((HBR.out.drew).trans (Below.refl _ _))).mono ?_; rintro e w2 ⟨rfl, hbv⟩))); refine then_mix rfl ?_ ?_; (first | (intro h; have h2 : false = true := h; cases h2) | (intro _; assumption) | (intro _; refine Old.mk ?_; repeat (first | (with_reducible exact Below.refl _ _) | (with_reducible refine Bal ?_ _) | (with_reducible refine Below.drew ?_) | (with_reducible refine below_drewN ?_ _) | (with_reducible refine Bset ?_ ?_ _; focus (first | (with_reducible exact Nat.le_refl _) | (simp; done) | (simp; omega) | omega)) | (with_reducible refine Bt ?_ (by assumption)) | (with_reducible refine Bp (g := g) ?_ (by assumption) (by assumption)))))))
        refine mix_nil ?_
        go_wp2_with fail
        go_ret
        go_light
        refine ⟨ret_bool HN.out, ?_⟩
        refine HBR.out.trans (Below.mono (B := wr.heap.size) ?_ hbr)
        repeat (first | (with_reducible exact Below.refl _ _) | (with_reducible refine Bal ?_ _) | (with_reducible refine Below.drew ?_) | (with_reducible refine below_drewN ?_ _) | (with_reducible refine Bset ?_ ?_ _; focus (first | (with_reducible exact Nat.le_refl _) | (simp; done) | (simp; omega) | omega)) | (with_reducible refine Bt ?_ (by assumption)) | (with_reducible refine Bp (g := g) ?_ (by assumption) (by assumption)))
      have HM := Lib.hid (show (0 ≤ (plain M (j + 1)).id ∧ (plain M (j + 1)).id ≤ 99) ∧ HearsUp (plain M (j + 1)).n n (plain M) (plain M (j + 1)) from ⟨hin, hm⟩)
      rw [show hvB n (plain M) ⟨(M (j + 1)).p.id, (M (j + 1)).p.s, (M (j + 1)).p.n, (M (j + 1)).p.z⟩ = true from decide_eq_true hm] at hv
      have HV := Lib.hid hv
      clear hv hm
      go_wp2_with fail
      refine wp_region_mixB (by kernel_rfl) (by kernel_rfl) ?_
      repeat (first
        | (refine mix_skip rfl ?_; have e0 : True := trivial; clear e0; refine mix_putK ?_; intro K hK; go_simp; refine hK _ ?_; clear hK K)
        | (refine mix_readE rfl rfl rfl ?_; apply Exists.intro; refine ⟨fun w' hb' => ?_, ?_⟩; (focus (obtain ⟨hc', hf'⟩ := Old.cells hb'; clear hb'; go_simp; try exact rfl)); have e0 : True := trivial; clear e0; refine mix_putK ?_; intro K hK; go_simp; refine hK _ ?_; clear hK K)
        | (refine mix_pureE rfl rfl ?_; apply Exists.intro; refine ⟨fun w' => ?_, ?_⟩; (focus (go_simp; try exact rfl)); have e0 : True := trivial; clear e0; refine mix_putK ?_; intro K hK; go_simp; refine hK _ ?_; clear hK K)
        | (refine mix_eff rfl rfl ?_; go_wp2_with ((first | (go_at_call 45; refine (HT.out _).mono ?_; rintro e w3 ⟨rfl, rfl⟩) | (go_at_call 46; refine (HV.out _ ((HBR.out.drew).trans (Below.refl _ _))).mono ?_; rintro e w2 ⟨rfl, hbv⟩))); refine then_mix rfl ?_ ?_; (first | (intro h; have h2 : false = true := h; cases h2) | (intro _; assumption) | (intro _; refine Old.mk ?_; repeat (first | (with_reducible exact Below.refl _ _) | (with_reducible refine Bal ?_ _) | (with_reducible refine Below.drew ?_) | (with_reducible refine below_drewN ?_ _) | (with_reducible refine Bset ?_ ?_ _; focus (first | (with_reducible exact Nat.le_refl _) | (simp; done) | (simp; omega) | omega)) | (with_reducible refine Bt ?_ (by assumption)) | (with_reducible refine Bp (g := g) ?_ (by assumption) (by assumption)))))))
      refine mix_nil ?_
      go_wp2_with fail
      go_roundw
      case rel =>
        refine ⟨j + 1 + 1, by omega, by go_num, Lib.hid (hA.out.succ HM.out (fun _ => HL.out)), Lib.hid (hB.out.trans (Below.mono (B := wr.heap.size) ?_ hBs))⟩
        repeat (first | (with_reducible exact Below.refl _ _) | (with_reducible refine Bal ?_ _) | (with_reducible refine Below.drew ?_) | (with_reducible refine below_drewN ?_ _) | (with_reducible refine Bset ?_ ?_ _; focus (first | (with_reducible exact Nat.le_refl _) | (simp; done) | (simp; omega) | omega)) | (with_reducible refine Bt ?_ (by assumption)) | (with_reducible refine Bp (g := g) ?_ (by assumption) (by assumption)))
      case measure => simp [intOf]; omega
    · have hlx : decide ((M (j + 1)).p.id ≤ (M j).p.id) = true := decide_eq_true (by omega)
      have HN := Lib.hid (show false = rmB n (plain M) from (decide_eq_false fun h => hl ((h.2 (j + 1) hkn).2.2 (by omega))).symm)
      clear hl
      go_wp2_with fail
      refine wp_region_mixB (by kernel_rfl) (by kernel_rfl) ?_
      repeat (first
        | (refine mix_skip rfl ?_; have e0 : True := trivial; clear e0; refine mix_putK ?_; intro K hK; go_simp; refine hK _ ?_; clear hK K)
        | (refine mix_readE rfl rfl rfl ?_; apply Exists.intro; refine ⟨fun w' hb' => ?_, ?_⟩; (focus (obtain ⟨hc', hf'⟩ := Old.cells hb'; clear hb'; go_simp; try exact rfl)); have e0 : True := trivial; clear e0; refine mix_putK ?_; intro K hK; go_simp; refine hK _ ?_; clear hK K)
        | (refine mix_pureE rfl rfl ?_; apply Exists.intro; refine ⟨fun w' => ?_, ?_⟩; (focus (go_simp; try exact rfl)); have e0 : True := trivial; clear e0; refine mix_putK ?_; intro K hK; go_simp; refine hK _ ?_; clear hK K)
        | (refine mix_eff rfl rfl ?_; go_wp2_with ((first | (go_at_call 45; refine (HT.out _).mono ?_; rintro e w3 ⟨rfl, rfl⟩) | (go_at_call 46; refine (HV.out _ ((HBR.out.drew).trans (Below.refl _ _))).mono ?_; rintro e w2 ⟨rfl, hbv⟩))); refine then_mix rfl ?_ ?_; (first | (intro h; have h2 : false = true := h; cases h2) | (intro _; assumption) | (intro _; refine Old.mk ?_; repeat (first | (with_reducible exact Below.refl _ _) | (with_reducible refine Bal ?_ _) | (with_reducible refine Below.drew ?_) | (with_reducible refine below_drewN ?_ _) | (with_reducible refine Bset ?_ ?_ _; focus (first | (with_reducible exact Nat.le_refl _) | (simp; done) | (simp; omega) | omega)) | (with_reducible refine Bt ?_ (by assumption)) | (with_reducible refine Bp (g := g) ?_ (by assumption) (by assumption)))))))
      refine mix_nil ?_
      go_wp2_with fail
      go_ret
      go_light
      refine ⟨ret_bool HN.out, ?_⟩
      refine HBR.out.trans (Below.mono (B := wr.heap.size) ?_ hbr)
      repeat (first | (with_reducible exact Below.refl _ _) | (with_reducible refine Bal ?_ _) | (with_reducible refine Below.drew ?_) | (with_reducible refine below_drewN ?_ _) | (with_reducible refine Bset ?_ ?_ _; focus (first | (with_reducible exact Nat.le_refl _) | (simp; done) | (simp; omega) | omega)) | (with_reducible refine Bt ?_ (by assumption)) | (with_reducible refine Bp (g := g) ?_ (by assumption) (by assumption)))
end Go.Proofs.Ytelcclhaepfmgaa
