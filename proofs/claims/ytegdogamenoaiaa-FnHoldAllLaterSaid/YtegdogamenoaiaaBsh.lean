/- Equal lists of packets that are held, and equal buffers, compared as the laws do. -/
import Derived.Test.YtegdogamenoaiaaBdu
namespace Go.Proofs.Ytegdogamenoaiaa
open Go Go.RowKit
set_option linter.unusedVariables false
set_option linter.unusedSimpArgs false
set_option maxRecDepth 100000 in
set_option maxHeartbeats 4000000 in
theorem sameHeld_same (w : World) {lo hi lo2 hi2 : Nat} {A B : Option Addr} {n c d : Nat} {q : Nat → Hd} (h : RowAt w lo hi A n 7 (HdF q)) (h2 : RowAt w lo2 hi2 B n 7 (HdF q)) (hh : hi ≤ w.heap.size) (hh2 : hi2 ≤ w.heap.size) (hn : n ≤ 1048576) :
    Calls Try.prog 37 #[.slice A n c, .slice B n d] w fun e w' => e = .returned (.bool true) ∧ Below w.heap.size w w' := by
  have H := Lib.hid h
  have H2 := Lib.hid h2
  clear h h2
  go_enter Try.func37, Try.ntmps37
  go_wp2_with fail
  go_loopw [5] (fun i wr => ∃ k, k ≤ n ∧ i = .int .i64 (k : Nat) ∧ Hid (Below w.heap.size w wr)) (fun i _ => n - (intOf i).toNat)
  case atStart => exact ⟨0, Nat.zero_le _, rfl, Lib.hid (Below.refl _ _)⟩
  case round =>
    obtain ⟨k, hk, rfl, hB⟩ := hrel
    by_cases hkn : k < n
    · obtain ⟨b, off, rfl, _, hb1, c0, c1, c2, c3, c4, c5, c6⟩ := Hd_at (H.out.below hh hB.out) hkn
      obtain ⟨b2, off2, rfl, _, hb2, d0, d1, d2, d3, d4, d5, d6⟩ := Hd_at (H2.out.below hh2 hB.out) hkn
      have hs := hB.out.size
      have hb1' : b < wr.heap.size := by omega
      have hb2' : b2 < wr.heap.size := by omega
      go_wp2_with fail
      refine wp_region_mixB (by kernel_rfl) (by kernel_rfl) ?_
      repeat (first
        | (refine mix_skip rfl ?_; have e0 : True := trivial; clear e0; refine mix_putK ?_; intro K hK; go_simp; refine hK _ ?_; clear hK K)
        | (refine mix_readE rfl rfl rfl ?_; apply Exists.intro; refine ⟨fun w' hb' => ?_, ?_⟩; (focus (obtain ⟨hc', hf'⟩ := Old.cells hb'; clear hb'; go_simp; try exact rfl)); have e0 : True := trivial; clear e0; refine mix_putK ?_; intro K hK; go_simp; refine hK _ ?_; clear hK K)
        | (refine mix_pureE rfl rfl ?_; apply Exists.intro; refine ⟨fun w' => ?_, ?_⟩; (focus (go_simp; try exact rfl)); have e0 : True := trivial; clear e0; refine mix_putK ?_; intro K hK; go_simp; refine hK _ ?_; clear hK K)
        | (refine mix_eff rfl rfl ?_; go_wp2_with (fail); refine then_mix rfl ?_ ?_; (first | (intro h; have h2 : false = true := h; cases h2) | (intro _; assumption) | (intro _; refine Old.mk ?_; repeat (first | (with_reducible exact Below.refl _ _) | (with_reducible refine Bal ?_ _) | (with_reducible refine Below.drew ?_) | (with_reducible refine below_drewN ?_ _) | (with_reducible refine Bset ?_ ?_ _; focus (first | (with_reducible exact Nat.le_refl _) | (simp; done) | (simp; omega) | omega)) | (with_reducible refine Bt ?_ (by assumption)) | (with_reducible refine Bp (g := g) ?_ (by assumption) (by assumption)))))))
      refine mix_nil ?_
      go_wp2_with fail
      go_roundw
      case rel => exact ⟨k + 1, by omega, by go_num, Lib.hid hB.out.drew⟩
      case measure => simp [intOf]; omega
    · go_wp2_with fail
      go_ret
      exact ⟨rfl, hB.out⟩
set_option maxRecDepth 100000 in
set_option maxHeartbeats 4000000 in
theorem sameBuffer_same (w : World) {lo hi lo2 hi2 : Nat} {A B : Option Addr} {n c1 c2 : Nat} {y d : Int} {q : Nat → Hd} (h : RowAt w lo hi A n 7 (HdF q)) (h2 : RowAt w lo2 hi2 B n 7 (HdF q)) (hh : hi ≤ w.heap.size) (hh2 : hi2 ≤ w.heap.size) (hn : n ≤ 1048576) :
    Calls Try.prog 36 #[.agg #[.int .i64 y, .int .i64 d, .slice A n c1], .agg #[.int .i64 y, .int .i64 d, .slice B n c2]] w fun e w' => e = .returned (.bool true) ∧ Below w.heap.size w w' := by
  have hs := fun W (hb : Below w.heap.size w W) => sameHeld_same W (c := c1) (d := c2) (h.below hh hb) (h2.below hh2 hb) (Nat.le_trans hh hb.size) (Nat.le_trans hh2 hb.size) hn
  have HS := Lib.hid hs
  clear hs h h2
  go_enter Try.func36, Try.ntmps36
  go_wp2_with fail
  refine (HS.out _ ?_).mono ?_
  focus (repeat (first | (with_reducible exact Below.refl _ _) | (with_reducible refine Bal ?_ _) | (with_reducible refine Below.drew ?_) | (with_reducible refine below_drewN ?_ _) | (with_reducible refine Bset ?_ ?_ _; focus (first | (with_reducible exact Nat.le_refl _) | (simp; done) | (simp; omega) | omega)) | (with_reducible refine Bt ?_ (by assumption)) | (with_reducible refine Bp (g := g) ?_ (by assumption) (by assumption))))
  rintro e w1 ⟨rfl, hb1⟩
  go_wp2_with fail
  go_ret
  go_light
  refine ⟨rfl, ?_⟩
  repeat (first | (with_reducible exact Below.refl _ _) | (with_reducible refine Bal ?_ _) | (with_reducible refine Below.drew ?_) | (with_reducible refine below_drewN ?_ _) | (with_reducible refine Bset ?_ ?_ _; focus (first | (with_reducible exact Nat.le_refl _) | (simp; done) | (simp; omega) | omega)) | (with_reducible refine Bt ?_ (by assumption)) | (with_reducible refine Bp (g := g) ?_ (by assumption) (by assumption)))
end Go.Proofs.Ytegdogamenoaiaa
