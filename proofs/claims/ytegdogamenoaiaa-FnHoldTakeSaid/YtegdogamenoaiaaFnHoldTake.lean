/- The law FnHoldTake of the program is true at every input: the call returns true, and each argument reads behind the call as before. Conditions: none. -/
import Derived.Test.YtegdogamenoaiaaBsk
import Derived.WalkKit
import Derived.ProofKit
import Derived.OpenShut
import Derived.ShutString
import Derived.ChangeOld
import Derived.Below
namespace Go.Proofs.Ytegdogamenoaiaa
open Go.RowKit
set_option linter.unusedVariables false
set_option linter.unusedSimpArgs false

theorem bf_suc {y d : Int} {M : Nat} {q : Nat → Hd} (h : BfOk y d (M + 1) q) : BfOk ((q 0).p.w + 1) d M (sucQ q) := by
  have h0 := h.2.2.2 0 (by omega)
  obtain ⟨⟨a1, a2⟩, _⟩ := h0.1
  refine ⟨by omega, h.2.1, by have := h.2.2.1; omega, fun i hi => ?_⟩
  have h1 := h.2.2.2 (i + 1) (by omega)
  have h2 := h.2.2.2.asc 0 (i + 1) (by omega) (by omega)
  refine ⟨h1.1, h1.2.1, by show (q 0).p.w + 1 ≤ (q (i + 1)).p.w; omega, fun h3 => ?_⟩
  have := h1.2.2.2 (by omega)
  show (q (i - 1 + 1)).p.w < (q (i + 1)).p.w
  rw [show i - 1 + 1 = i + 1 - 1 by omega]
  exact this
theorem suc_at {w : World} {lo hi n c : Nat} {A : Option Addr} {q : Nat → Hd} (h : RowAt w lo hi A (n + 1) 7 (HdF q)) (hc : n + 1 ≤ c) : RowAt w lo hi (fromA A c 1 7) n 7 (HdF (sucQ q)) :=
  (h.from (k := 1) (by omega) hc).congr fun j hj => by
    show HdC (q ((1 * 7 + j) / 7)) ((1 * 7 + j) % 7) = HdC (q (j / 7 + 1)) (j % 7)
    rw [show (1 * 7 + j) / 7 = j / 7 + 1 by omega, show (1 * 7 + j) % 7 = j % 7 by omega]
set_option maxRecDepth 100000 in
set_option maxHeartbeats 8000000 in
theorem walk_FnHoldTake (A : Option Addr) (n c : Nat) (w : World) (h : IsInts .u8 w A n c) :
    Calls Try.prog 7 #[.slice A n c] w fun e w' => e = .returned (.bool true) ∧ Below w.heap.size w w' := by
  have H := Lib.hid h
  clear h
  by_cases hn0 : 1048576 < n
  · go_enter Try.func7, Try.ntmps7
    go_wp2_with fail
    go_ret
    exact ⟨rfl, Below.refl _ _⟩
  · have hn : n ≤ 1048576 := by omega
    clear hn0
    go_enter Try.func7, Try.ntmps7
    go_wp2_with fail
    refine (draw_btake _ A n c (H.out.below (by repeat (first | (with_reducible exact Below.refl _ _) | (with_reducible refine Bal ?_ _) | (with_reducible refine Below.drew ?_) | (with_reducible refine below_drewN ?_ _) | (with_reducible refine Bset ?_ ?_ _; focus (first | (with_reducible exact Nat.le_refl _) | (simp; done) | (simp; omega) | omega)) | (with_reducible refine Bt ?_ (by assumption)) | (with_reducible refine Bp (g := g) ?_ (by assumption) (by assumption))))) hn).mono ?_
    rintro e w1 ⟨y, d, A1, m, c1, q, now, hr1, hmc, hm, rfl, hb1⟩
    obtain ⟨hc1, hf1⟩ := bcell hb1
    have hy1 := hb1.size
    try simp at hy1
    have HR := Lib.hid hr1
    have hmn : m ≤ 1048576 := by omega
    clear hr1
    by_cases hk : tkOk y d m q now
    rotate_left
    · have HI := Lib.hid (fun W h1 h2 => (ibk_any W 0 w1.heap.size A1 m c1 y d now q h1 h2 hmn).mono fun e w' hr => take_no hk hr)
      have HS := Lib.hid (fun W h1 h2 => (sbk_any W 0 w1.heap.size A1 m c1 y d now q h1 h2 hmn hmc).mono fun e w' hr => take_no hk hr)
      clear hk
      go_wp2_with fail
      refine (HI.out _ (HR.out.below (Nat.le_refl _) (by repeat (first | (with_reducible exact Below.refl _ _) | (with_reducible refine Bal ?_ _) | (with_reducible refine Below.drew ?_) | (with_reducible refine below_drewN ?_ _) | (with_reducible refine Bset ?_ ?_ _; focus (first | (with_reducible exact Nat.le_refl _) | (simp; done) | (simp; omega) | omega)) | (with_reducible refine Bt ?_ (by assumption)) | (with_reducible refine Bp (g := g) ?_ (by assumption) (by assumption))))) (by first | exact Nat.le_refl _ | (simp; done) | (simp; omega) | omega)).mono ?_
      rintro e w2 ⟨rfl, hb2⟩
      obtain ⟨hc2, hf2⟩ := bcell hb2
      have hy2 := hb2.size
      try simp at hy2
      first | (have hz2 : w.heap.size < w2.heap.size := by (have := hb2.size; (try simp at this); omega)) | skip
      have ho2_0 : w1.heap.size < w2.heap.size := by (have := hb2.size; (try simp at this); omega)
      have hg2_0 := fun o => hc2 (w1.heap.size) o (by first | (simp; done) | (simp; omega) | omega)
      have hk2_0 := fun o => hf2 (w1.heap.size) o (by first | (simp; done) | (simp; omega) | omega)
      try simp [go_sem] at hg2_0
      try simp [go_sem] at hk2_0
      go_wp2_with fail
      refine (HS.out _ (HR.out.below (Nat.le_refl _) (by repeat (first | (with_reducible exact Below.refl _ _) | (with_reducible refine Bal ?_ _) | (with_reducible refine Below.drew ?_) | (with_reducible refine below_drewN ?_ _) | (with_reducible refine Bset ?_ ?_ _; focus (first | (with_reducible exact Nat.le_refl _) | (simp; done) | (simp; omega) | omega)) | (with_reducible refine Bt ?_ (by assumption)) | (with_reducible refine Bp (g := g) ?_ (by assumption) (by assumption))))) (by first | exact Nat.le_refl _ | (simp; done) | (simp; omega) | omega)).mono ?_
      rintro e w3 ⟨rfl, hb3⟩
      obtain ⟨hc3, hf3⟩ := bcell hb3
      have hy3 := hb3.size
      try simp at hy3
      first | (have hz3 : w.heap.size < w3.heap.size := by (have := hb3.size; (try simp at this); omega)) | skip
      have ho3_0 : w1.heap.size < w3.heap.size := by (have := hb3.size; (try simp at this); omega)
      have hg3_0 := fun o => hc3 (w1.heap.size) o (by first | (simp; done) | (simp; omega) | omega)
      have hk3_0 := fun o => hf3 (w1.heap.size) o (by first | (simp; done) | (simp; omega) | omega)
      try simp [go_sem] at hg3_0
      try simp [go_sem] at hk3_0
      have ho3_1 : w2.heap.size < w3.heap.size := by (have := hb3.size; (try simp at this); omega)
      have hg3_1 := fun o => hc3 (w2.heap.size) o (by first | (simp; done) | (simp; omega) | omega)
      have hk3_1 := fun o => hf3 (w2.heap.size) o (by first | (simp; done) | (simp; omega) | omega)
      try simp [go_sem] at hg3_1
      try simp [go_sem] at hk3_1
      have ho3_2 : w2.heap.size + 1 < w3.heap.size := by (have := hb3.size; (try simp at this); omega)
      have hg3_2 := fun o => hc3 (w2.heap.size + 1) o (by first | (simp; done) | (simp; omega) | omega)
      have hk3_2 := fun o => hf3 (w2.heap.size + 1) o (by first | (simp; done) | (simp; omega) | omega)
      try simp [go_sem] at hg3_2
      try simp [go_sem] at hk3_2
      have HB := Lib.hid (fun W => sameBuffer_same W (lo := 0) (hi := 0) (lo2 := 0) (hi2 := 0) (A := none) (B := none) (c1 := 0) (c2 := 0) (y := 0) (d := 0) (q := q) (RowAt.nil _ _ _ _ _ _) (RowAt.nil _ _ _ _ _ _) (Nat.zero_le _) (Nat.zero_le _) (Nat.zero_le _))
      go_wp2_with fail
      refine (HB.out _).mono ?_
      rintro e w4 ⟨rfl, hb4⟩
      obtain ⟨hc4, hf4⟩ := bcell hb4
      have hy4 := hb4.size
      try simp at hy4
      first | (have hz4 : w.heap.size < w4.heap.size := by (have := hb4.size; (try simp at this); omega)) | skip
      have ho4_0 : w2.heap.size < w4.heap.size := by (have := hb4.size; (try simp at this); omega)
      have hg4_0 := fun o => hc4 (w2.heap.size) o (by first | (simp; done) | (simp; omega) | omega)
      have hk4_0 := fun o => hf4 (w2.heap.size) o (by first | (simp; done) | (simp; omega) | omega)
      try simp [go_sem] at hg4_0
      try simp [go_sem] at hk4_0
      have ho4_1 : w2.heap.size + 1 < w4.heap.size := by (have := hb4.size; (try simp at this); omega)
      have hg4_1 := fun o => hc4 (w2.heap.size + 1) o (by first | (simp; done) | (simp; omega) | omega)
      have hk4_1 := fun o => hf4 (w2.heap.size + 1) o (by first | (simp; done) | (simp; omega) | omega)
      try simp [go_sem] at hg4_1
      try simp [go_sem] at hk4_1
      have ho4_2 : w3.heap.size < w4.heap.size := by (have := hb4.size; (try simp at this); omega)
      have hg4_2 := fun o => hc4 (w3.heap.size) o (by first | (simp; done) | (simp; omega) | omega)
      have hk4_2 := fun o => hf4 (w3.heap.size) o (by first | (simp; done) | (simp; omega) | omega)
      try simp [go_sem] at hg4_2
      try simp [go_sem] at hk4_2
      have ho4_3 : w3.heap.size + 1 < w4.heap.size := by (have := hb4.size; (try simp at this); omega)
      have hg4_3 := fun o => hc4 (w3.heap.size + 1) o (by first | (simp; done) | (simp; omega) | omega)
      have hk4_3 := fun o => hf4 (w3.heap.size + 1) o (by first | (simp; done) | (simp; omega) | omega)
      try simp [go_sem] at hg4_3
      try simp [go_sem] at hk4_3
      go_wp2_with fail
      refine (HB.out _).mono ?_
      rintro e w5 ⟨rfl, hb5⟩
      go_wp2_with fail
      go_ret
      go_light
      refine ⟨rfl, ?_⟩
      repeat (first | (with_reducible exact Below.refl _ _) | (with_reducible refine Bal ?_ _) | (with_reducible refine Below.drew ?_) | (with_reducible refine below_drewN ?_ _) | (with_reducible refine Bset ?_ ?_ _; focus (first | (with_reducible exact Nat.le_refl _) | (simp; done) | (simp; omega) | omega)) | (with_reducible refine Bt ?_ (by assumption)) | (with_reducible refine Bp (g := g) ?_ (by assumption) (by assumption)))
    · obtain ⟨M, rfl⟩ : ∃ M, m = M + 1 := ⟨m - 1, by have := hk.2.2.1; omega⟩
      have HI := Lib.hid (fun W h1 h2 => (ibk_any W 0 w1.heap.size A1 (M + 1) c1 y d now q h1 h2 hmn).mono fun e w' hr => take_yes hk hr)
      have HS := Lib.hid (fun W h1 h2 => (sbk_any W 0 w1.heap.size A1 (M + 1) c1 y d now q h1 h2 hmn hmc).mono fun e w' hr => take_yes hk hr)
      have k1 := hk.1.2.1
      have k2 := (hk.1.2.2.2 0 (by omega)).2.1
      have k3 := hk.2.2.2
      have hwd := (hk.1.2.2.2 0 (by omega)).1.1
      have wr1 : IntKind.i64.wrap ((q 0).p.w + 1) = (q 0).p.w + 1 := IntWalk.i64_in _ (by omega)
      obtain ⟨i0, i1, i2, i3, i4⟩ := info_parts info_hd
      have hkv := bf_suc hk.1
      clear hk
      obtain ⟨b, off, rfl, _, hb2x, _⟩ := Hd_at HR.out (show 0 < M + 1 by omega)
      go_wp2_with fail
      refine (HI.out _ (HR.out.below (Nat.le_refl _) (by repeat (first | (with_reducible exact Below.refl _ _) | (with_reducible refine Bal ?_ _) | (with_reducible refine Below.drew ?_) | (with_reducible refine below_drewN ?_ _) | (with_reducible refine Bset ?_ ?_ _; focus (first | (with_reducible exact Nat.le_refl _) | (simp; done) | (simp; omega) | omega)) | (with_reducible refine Bt ?_ (by assumption)) | (with_reducible refine Bp (g := g) ?_ (by assumption) (by assumption))))) (by first | exact Nat.le_refl _ | (simp; done) | (simp; omega) | omega)).mono ?_
      rintro e w2 ⟨A2, c2, hr2, rfl, hb2⟩
      obtain ⟨hc2, hf2⟩ := bcell hb2
      have hy2 := hb2.size
      try simp at hy2
      have ho2_0 : w1.heap.size < w2.heap.size := by (have := hb2.size; (try simp at this); omega)
      have hg2_0 := fun o => hc2 (w1.heap.size) o (by first | (simp; done) | (simp; omega) | omega)
      have hk2_0 := fun o => hf2 (w1.heap.size) o (by first | (simp; done) | (simp; omega) | omega)
      try simp [go_sem] at hg2_0
      try simp [go_sem] at hk2_0
      have HR2 := Lib.hid hr2
      have hbv := fun W h1 h2 => ibv_any W 0 w2.heap.size A2 M c2 ((q 0).p.w + 1) d (sucQ q) h1 h2 (by omega)
      rw [show bfB ((q 0).p.w + 1) d M (sucQ q) = true from decide_eq_true hkv] at hbv
      have HBV := Lib.hid hbv
      clear hbv hkv
      clear hr2
      go_wp2_with fail
      refine (HS.out _ (HR.out.below (Nat.le_refl _) (by repeat (first | (with_reducible exact Below.refl _ _) | (with_reducible refine Bal ?_ _) | (with_reducible refine Below.drew ?_) | (with_reducible refine below_drewN ?_ _) | (with_reducible refine Bset ?_ ?_ _; focus (first | (with_reducible exact Nat.le_refl _) | (simp; done) | (simp; omega) | omega)) | (with_reducible refine Bt ?_ (by assumption)) | (with_reducible refine Bp (g := g) ?_ (by assumption) (by assumption))))) (by first | exact Nat.le_refl _ | (simp; done) | (simp; omega) | omega)).mono ?_
      rintro e w3 ⟨A3, c3, hr3, rfl, hb3⟩
      obtain ⟨hc3, hf3⟩ := bcell hb3
      have hy3 := hb3.size
      try simp at hy3
      have ho3_0 : w1.heap.size < w3.heap.size := by (have := hb3.size; (try simp at this); omega)
      have hg3_0 := fun o => hc3 (w1.heap.size) o (by first | (simp; done) | (simp; omega) | omega)
      have hk3_0 := fun o => hf3 (w1.heap.size) o (by first | (simp; done) | (simp; omega) | omega)
      try simp [go_sem] at hg3_0
      try simp [go_sem] at hk3_0
      have ho3_1 : w2.heap.size < w3.heap.size := by (have := hb3.size; (try simp at this); omega)
      have hg3_1 := fun o => hc3 (w2.heap.size) o (by first | (simp; done) | (simp; omega) | omega)
      have hk3_1 := fun o => hf3 (w2.heap.size) o (by first | (simp; done) | (simp; omega) | omega)
      try simp [go_sem] at hg3_1
      try simp [go_sem] at hk3_1
      have ho3_2 : w2.heap.size + 1 < w3.heap.size := by (have := hb3.size; (try simp at this); omega)
      have hg3_2 := fun o => hc3 (w2.heap.size + 1) o (by first | (simp; done) | (simp; omega) | omega)
      have hk3_2 := fun o => hf3 (w2.heap.size + 1) o (by first | (simp; done) | (simp; omega) | omega)
      try simp [go_sem] at hg3_2
      try simp [go_sem] at hk3_2
      have HR3 := Lib.hid hr3
      clear hr3
      go_wp2_with fail
      refine (sameBuffer_same _ (q := sucQ q) (HR2.out.below (Nat.le_refl _) (by repeat (first | (with_reducible exact Below.refl _ _) | (with_reducible refine Bal ?_ _) | (with_reducible refine Below.drew ?_) | (with_reducible refine below_drewN ?_ _) | (with_reducible refine Bset ?_ ?_ _; focus (first | (with_reducible exact Nat.le_refl _) | (simp; done) | (simp; omega) | omega)) | (with_reducible refine Bt ?_ (by assumption)) | (with_reducible refine Bp (g := g) ?_ (by assumption) (by assumption))))) (HR3.out.below (Nat.le_refl _) (by repeat (first | (with_reducible exact Below.refl _ _) | (with_reducible refine Bal ?_ _) | (with_reducible refine Below.drew ?_) | (with_reducible refine below_drewN ?_ _) | (with_reducible refine Bset ?_ ?_ _; focus (first | (with_reducible exact Nat.le_refl _) | (simp; done) | (simp; omega) | omega)) | (with_reducible refine Bt ?_ (by assumption)) | (with_reducible refine Bp (g := g) ?_ (by assumption) (by assumption))))) (by first | exact Nat.le_refl _ | (simp; done) | (simp; omega) | omega) (by first | exact Nat.le_refl _ | (simp; done) | (simp; omega) | omega) (by omega)).mono ?_
      rintro e w4 ⟨rfl, hb4⟩
      obtain ⟨hc4, hf4⟩ := bcell hb4
      have hy4 := hb4.size
      try simp at hy4
      have hg4_0 := fun o => hc4 (w1.heap.size) o (by first | (simp; done) | (simp; omega) | omega)
      have hg4_1 := fun o => hc4 (w2.heap.size + 1) o (by first | (simp; done) | (simp; omega) | omega)
      try simp [go_sem] at hg4_0
      try simp [go_sem] at hg4_1
      have ho4_0 : w1.heap.size < w4.heap.size := by omega
      have ho4_1 : w2.heap.size + 1 < w4.heap.size := by omega
      have hcx := hc4
      have hR24 : Below w2.heap.size w2 w4 := by repeat (first | (with_reducible exact Below.refl _ _) | (with_reducible refine Bal ?_ _) | (with_reducible refine Below.drew ?_) | (with_reducible refine below_drewN ?_ _) | (with_reducible refine Bset ?_ ?_ _; focus (first | (with_reducible exact Nat.le_refl _) | (simp; done) | (simp; omega) | omega)) | (with_reducible refine Bt ?_ (by assumption)) | (with_reducible refine Bp (g := g) ?_ (by assumption) (by assumption)))
      have hR4 : Below w1.heap.size w1 w4 := by repeat (first | (with_reducible exact Below.refl _ _) | (with_reducible refine Bal ?_ _) | (with_reducible refine Below.drew ?_) | (with_reducible refine below_drewN ?_ _) | (with_reducible refine Bset ?_ ?_ _; focus (first | (with_reducible exact Nat.le_refl _) | (simp; done) | (simp; omega) | omega)) | (with_reducible refine Bt ?_ (by assumption)) | (with_reducible refine Bp (g := g) ?_ (by assumption) (by assumption)))
      have HR4 := HR.out.below (w' := w4) (Nat.le_refl _) hR4
      obtain ⟨d0, d1, d2, d3, d4, d5, d6⟩ := Hd_cells HR4 (show 0 < M + 1 by omega)
      simp only [Nat.zero_mul, Nat.add_zero] at d0 d1 d2 d3 d4 d5 d6
      have hbw4 : b < w4.heap.size := by omega
      clear HR4
      have hB4 : Below w.heap.size w w4 := by repeat (first | (with_reducible exact Below.refl _ _) | (with_reducible refine Bal ?_ _) | (with_reducible refine Below.drew ?_) | (with_reducible refine below_drewN ?_ _) | (with_reducible refine Bset ?_ ?_ _; focus (first | (with_reducible exact Nat.le_refl _) | (simp; done) | (simp; omega) | omega)) | (with_reducible refine Bt ?_ (by assumption)) | (with_reducible refine Bp (g := g) ?_ (by assumption) (by assumption)))
      clear hb2 hb3 hb4 hc2 hc3 hc4 hf2 hf3 hf4
      have hz5 : w2.heap.size < w4.heap.size := by omega
      have hg4_2 := fun o => (hcx (w2.heap.size) o (by first | (simp; done) | (simp; omega) | omega))
      try simp [go_sem] at hg4_2
      have HRA := Lib.hid (HR.out.below (w' := w4) (Nat.le_refl _) hR4)
      have HR2A := Lib.hid (HR2.out.below (w' := w4) (Nat.le_refl _) hR24)
      go_upto_region 8 with fail
      refine wp_region_mix (Exc (fun k => False) w4) (by kernel_rfl) (by kernel_rfl) (Exc.drew (Exc.refl _ _)) ?_
      repeat (first
        | (refine mix_skip rfl ?_; have e0 : True := trivial; clear e0; refine mix_putK ?_; intro K hK; go_simp; refine hK _ ?_; clear hK K)
        | (refine mix_readE rfl rfl rfl ?_; apply Exists.intro; refine ⟨fun w' hb' => ?_, ?_⟩; (focus (obtain ⟨hc', hf'⟩ := exc_cells hb'; clear hb'; go_simp; try exact rfl)); have e0 : True := trivial; clear e0; refine mix_putK ?_; intro K hK; go_simp; refine hK _ ?_; clear hK K)
        | (refine mix_pureE rfl rfl ?_; apply Exists.intro; refine ⟨fun w' => ?_, ?_⟩; (focus (first | (exact exec_from (k := 1) (.tmp 75) (.const (.int .i64 1)) rfl rfl rfl Try.underlying26 i1 i3 (by omega) hmc) | (go_simp; try exact rfl))); have e0 : True := trivial; clear e0; refine mix_putK ?_; intro K hK; go_simp; refine hK _ ?_; clear hK K)
        | (refine mix_eff rfl rfl ?_; go_wp2_with ((first | (go_at_call 37; refine (sameHeld_same _ (q := sucQ q) (HR2A.out.drew) (suc_at HRA.out.drew hmc) (by first | exact Nat.le_refl _ | (simp; done) | (simp; omega) | omega) (by first | exact Nat.le_refl _ | (simp; done) | (simp; omega) | omega) (by omega)).mono ?_; rintro e w6 ⟨rfl, hb6⟩; have hE6 : Exc (fun k => False) w4 w6 := Exc.trans (Exc.drew (Exc.refl _ _)) (Exc.of_below hb6 (fun k hk => Or.inl hk)); have HR2B := Lib.hid (HR2A.out.drew.below (by simp; omega) hb6)) | (go_at_call 38; refine (HBV.out _ HR2B.out (by have := hE6.size; omega)).mono ?_; rintro e w7 ⟨rfl, hb7⟩; have hE7 : Exc (fun k => False) w4 w7 := Exc.trans hE6 (Exc.of_below hb7 (fun k hk => Or.inl hk))))); refine then_mix rfl ?_ ?_; (focus (first | (intro h; have h2 : false = true := h; cases h2) | (intro _; assumption) | (intro _; repeat (first | assumption | (with_reducible exact Exc.refl _ _) | (with_reducible refine Exc.drew ?_) | (with_reducible refine Exc.alloc ?_ _) | (with_reducible refine Exc.setC ?_ ?_ _; focus (simp))))))))
      refine mix_nil ?_
      go_wp2_with fail
      go_ret
      exact ⟨rfl, hB4.trans (hE7.below (fun k h => h.elim) (by have := hB4.size; omega))⟩

end Go.Proofs.Ytegdogamenoaiaa
namespace Go.Proofs.Ytegdogamenoaiaa.fnHoldTake
open Go.ChangeShapes Go.WideShapes Go.ChangeAt Go.RowKit
set_option linter.unusedVariables false

theorem own : ownKnob Try.prog.godebug = none := by kernel_rfl
theorem laidOut : laidOutB Try.prog = true := by kernel_rfl

set_option maxRecDepth 100000 in
theorem lifted (os : Os) (started : os.Started) (H : Type) (enc : TypeId × Value → H) :
    ReturnsInHanded {} Try.checked os 7 .any (Rows.fnHoldTakeSpec.pre6 enc Try.prog Try.f7 Rows.fnHoldTakeRow.domain false) (Rows.fnHoldTakeSpec.post enc Try.prog Try.f7 false true false false) := by
  refine returnsInHanded_of_change (C := Try.checked) own started (by kernel_rfl) Try.func7
    (ChangeSpec.witness6 (enc := enc) (C := Try.checked) false ⟨#[], #[.slice none 0 0], []⟩ 8 (by kernel_rfl) (by kernel_rfl) (by kernel_rfl) (by kernel_rfl)) ?_
  intro W base args ds gs before hval0 hW hcnd _
  have hval : ∀ (j : Nat) t v, Try.f7.params[j]? = some t → args[j]? = some v → Value.okWide Try.prog W .any base t v := hval0
  have hW' := hW
  obtain ⟨p, q, hA0, hV, rfl, hfz, hnd⟩ := hW
  have hA : DataW.TrodAll enc Try.prog W 0 (fun _ => true) true Try.f7.params.toList args.toList ds p := hA0
  rw [Try.params7] at hA hval
  obtain ⟨v0, vs0, d0, ds0, p0, q0, hargs, rfl, rfl, h0, r0⟩ := trodAll_cons hA
  obtain ⟨rfl, rfl, rfl⟩ := trodAll_nil r0
  obtain rfl : args = #[v0] := by cases args; simp_all
  obtain ⟨rfl, rfl⟩ := trodVars_none hV
  have k0 := h0
  have lt0 : ∀ x ∈ p0, x.block < W.heap.size := by obtain ⟨m, hm⟩ := k0; exact DataW.trod_lt m _ _ _ hm
  obtain ⟨a0, n0, c0, rfl, w0⟩ := open_code (hval 0 48 v0 rfl rfl) h0
  clear hA0 hval0
  refine (walk_FnHoldTake a0 n0 c0 W w0).mono fun e W' ⟨he, bel⟩ => ?_
  subst he
  exact ⟨_, rfl, _, _, _, [], _, [], hW', trodAll_mk1 (shut_bool Try.underlying4 _), (trodAll_cons_mk (Below.trod laidOut (by kernel_rfl) (of_decide_eq_true (by kernel_rfl)) k0 bel lt0) trodAll_mk0), rfl, bel.frame _, fun h => by cases h⟩

theorem over : Rows.fnHoldTakeRow.holds Try.pinned (OpenSpec.ofChange Rows.fnHoldTakeSpec) :=
  OpenClaim.holds_of_wide 7 Try.f7 rfl rfl rfl rfl rfl rfl rfl ⟨rfl, rfl, rfl, rfl, rfl⟩ rfl rfl rfl rfl rfl (by kernel_rfl) Try.func7 (by kernel_rfl)
    (of_decide_eq_true (by kernel_rfl)) (by unfold Func.isWrapper; first | (rw [if_pos (by decide +kernel)]; kernel_rfl) | (rw [if_neg (by decide +kernel)]; exact ⟨rfl, rfl⟩))
    (fun os started H enc _ => lifted os started H enc)

/-- The statement. -/
theorem proved : Rows.FnHoldTakeSaid := over
#print axioms proved
end Go.Proofs.Ytegdogamenoaiaa.fnHoldTake
