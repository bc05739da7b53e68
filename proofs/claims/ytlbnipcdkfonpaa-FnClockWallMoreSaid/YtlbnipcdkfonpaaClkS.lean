/- The clocks of the reference; the gap of two clocks. -/
import Derived.Test.YtlbnipcdkfonpaaClk
namespace Go.Proofs.Ytlbnipcdkfonpaa
open Go.RowKit
set_option linter.unusedVariables false
set_option linter.unusedSimpArgs false

set_option maxHeartbeats 1000000 in
theorem smed_any (W M R x : Int) (w : World) (h : OkCM W M R x) :
    Calls Try.prog 69 #[.agg #[.int .i64 W, .int .i64 M, .int .i64 R], .int .i64 x] w fun e w' => e = .returned (.int .i64 (M + (x - W) * R / 1000)) ∧ Below w.heap.size w w' := by
  obtain ⟨⟨⟨h1, h2⟩, ⟨h3, h4⟩, h5, h6⟩, h7, h8⟩ := h
  obtain ⟨p1, p2⟩ := mul_bd (x - W) R (by omega) (by omega) (by omega) (by omega)
  obtain ⟨q1, q2⟩ := div_bd ((x - W) * R) 1000 (by omega) (by omega) (by omega)
  go_enter Try.func69, Try.ntmps69
  go_wp2_with fail
  refine wp_region_mixB (by kernel_rfl) (by kernel_rfl) ?_
  repeat (first
    | (refine mix_skip rfl ?_; refine mix_putK (fun K hK => ?_); go_simp; refine hK _ ?_; clear hK K)
    | (refine mix_readE rfl rfl rfl ?_; apply Exists.intro; refine ⟨fun w' hb' => ?_, ?_⟩; (obtain ⟨hc', hf'⟩ := Old.cells hb'; clear hb'; go_simp; try exact rfl); refine mix_putK (fun K hK => ?_); go_simp; refine hK _ ?_; clear hK K)
    | (refine mix_pureE rfl rfl ?_; apply Exists.intro; refine ⟨fun w' => ?_, ?_⟩; (go_simp; try exact rfl); refine mix_putK (fun K hK => ?_); go_simp; refine hK _ ?_; clear hK K)
    | (refine mix_eff rfl rfl ?_; go_wp2_with (first | (go_at_call 74; refine (floor_any _ _ _ (by omega) (by omega) (by omega) (by omega)).mono ?_; rintro e w' ⟨rfl, rfl⟩)); refine then_mix rfl ?_ ?_; (first | (intro h; have h2 : false = true := h; cases h2) | (intro _; refine Old.mk ?_; repeat (first | (with_reducible exact Below.refl _ _) | (with_reducible refine Bal ?_ _) | (with_reducible refine Below.drew ?_) | (with_reducible refine below_drewN ?_ _) | (with_reducible refine Bset ?_ ?_ _; (first | (with_reducible exact Nat.le_refl _) | (simp; done) | (simp; omega) | omega)) | (with_reducible refine Bt ?_ (by assumption)))))))
  refine mix_nil ?_
  go_wp2_with fail
  go_ret
  go_light
  refine ⟨ret_int (IntWalk.i64_in _ ⟨by omega, by omega⟩), ?_⟩
  repeat (first | (with_reducible exact Below.refl _ _) | (with_reducible refine Bal ?_ _) | (with_reducible refine Below.drew ?_) | (with_reducible refine below_drewN ?_ _) | (with_reducible refine Bset ?_ ?_ _; (first | (with_reducible exact Nat.le_refl _) | (simp; done) | (simp; omega) | omega)) | (with_reducible refine Bt ?_ (by assumption)))
set_option maxHeartbeats 1000000 in
theorem swal_any (W M R x : Int) (w : World) (h : OkCM W M R x) :
    Calls Try.prog 72 #[.agg #[.int .i64 W, .int .i64 M, .int .i64 R], .int .i64 x] w fun e w' => e = .returned (.int .i64 (W - (M - x) * 1000 / R)) ∧ Below w.heap.size w w' := by
  obtain ⟨⟨⟨h1, h2⟩, ⟨h3, h4⟩, h5, h6⟩, h7, h8⟩ := h
  obtain ⟨q1, q2⟩ := div_bd ((M - x) * 1000) R (by omega) (by omega) (by omega)
  go_enter Try.func72, Try.ntmps72
  go_wp2_with fail
  refine wp_region_mixB (by kernel_rfl) (by kernel_rfl) ?_
  repeat (first
    | (refine mix_skip rfl ?_; refine mix_putK (fun K hK => ?_); go_simp; refine hK _ ?_; clear hK K)
    | (refine mix_readE rfl rfl rfl ?_; apply Exists.intro; refine ⟨fun w' hb' => ?_, ?_⟩; (obtain ⟨hc', hf'⟩ := Old.cells hb'; clear hb'; go_simp; try exact rfl); refine mix_putK (fun K hK => ?_); go_simp; refine hK _ ?_; clear hK K)
    | (refine mix_pureE rfl rfl ?_; apply Exists.intro; refine ⟨fun w' => ?_, ?_⟩; (go_simp; try exact rfl); refine mix_putK (fun K hK => ?_); go_simp; refine hK _ ?_; clear hK K)
    | (refine mix_eff rfl rfl ?_; go_wp2_with (first | (go_at_call 74; refine (floor_any _ _ _ (by omega) (by omega) (by omega) (by omega)).mono ?_; rintro e w' ⟨rfl, rfl⟩)); refine then_mix rfl ?_ ?_; (first | (intro h; have h2 : false = true := h; cases h2) | (intro _; refine Old.mk ?_; repeat (first | (with_reducible exact Below.refl _ _) | (with_reducible refine Bal ?_ _) | (with_reducible refine Below.drew ?_) | (with_reducible refine below_drewN ?_ _) | (with_reducible refine Bset ?_ ?_ _; (first | (with_reducible exact Nat.le_refl _) | (simp; done) | (simp; omega) | omega)) | (with_reducible refine Bt ?_ (by assumption)))))))
  refine mix_nil ?_
  go_wp2_with fail
  go_ret
  go_light
  refine ⟨ret_int (IntWalk.i64_in _ ⟨by omega, by omega⟩), ?_⟩
  repeat (first | (with_reducible exact Below.refl _ _) | (with_reducible refine Bal ?_ _) | (with_reducible refine Below.drew ?_) | (with_reducible refine below_drewN ?_ _) | (with_reducible refine Bset ?_ ?_ _; (first | (with_reducible exact Nat.le_refl _) | (simp; done) | (simp; omega) | omega)) | (with_reducible refine Bt ?_ (by assumption)))
set_option maxHeartbeats 1000000 in
theorem scm_any (W M R x : Int) (w : World) :
    Calls Try.prog 38 #[.agg #[.int .i64 W, .int .i64 M, .int .i64 R], .int .i64 x] w fun e w' => e = .returned (.tuple #[.int .i64 (cmV W M R x), .bool (cmO W M R x)]) ∧ Below w.heap.size w w' := by
  have hv := fun V : World => sclk_any W M R V
  have hx := fun V : World => l6In_any x 0 999999 V
  by_cases h : OkCM W M R x
  · have H := Lib.hid (cm_yes h)
    simp only [clkB_t h.1] at hv
    simp only [inB_t h.2.1 h.2.2] at hx
    have HV := Lib.hid hv
    have HX := Lib.hid hx
    clear hv hx
    go_enter Try.func38, Try.ntmps38
    go_wp2_with fail
    refine (HV.out _).mono ?_
    rintro e w1 ⟨rfl, hb1⟩
    obtain ⟨hc1, hf1⟩ := bcell hb1
    have hy1 := hb1.size
    try simp at hy1
    first | (have hz1 : w.heap.size < w1.heap.size := by (have := hb1.size; (try simp at this); omega)) | skip
    have ho1_0 : w.heap.size < w1.heap.size := by (have := hb1.size; (try simp at this); omega)
    have hg1_0 := fun o => hc1 (w.heap.size) o (by first | (simp; done) | (simp; omega) | omega)
    have hk1_0 := fun o => hf1 (w.heap.size) o (by first | (simp; done) | (simp; omega) | omega)
    try simp [go_sem] at hg1_0
    try simp [go_sem] at hk1_0
    go_wp2_with fail
    refine (HX.out _).mono ?_
    rintro e w' ⟨rfl, rfl⟩
    go_wp2_with fail
    refine (smed_any _ _ _ _ _ h).mono ?_
    rintro e w2 ⟨rfl, hb2⟩
    obtain ⟨hc2, hf2⟩ := bcell hb2
    have hy2 := hb2.size
    try simp at hy2
    first | (have hz2 : w.heap.size < w2.heap.size := by (have := hb2.size; (try simp at this); omega)) | skip
    go_wp2_with fail
    go_ret2
    go_light
    refine ⟨ret_ib' H.out, ?_⟩
    repeat (first | (with_reducible exact Below.refl _ _) | (with_reducible refine Bal ?_ _) | (with_reducible refine Below.drew ?_) | (with_reducible refine below_drewN ?_ _) | (with_reducible refine Bset ?_ ?_ _; (first | (with_reducible exact Nat.le_refl _) | (simp; done) | (simp; omega) | omega)) | (with_reducible refine Bt ?_ (by assumption)))
  · have H := Lib.hid (cm_no h)
    have HO := Lib.hid ((cmO_eq W M R x).symm.trans (cm_no h).2)
    clear h
    cases hc : clkB W M R
    · simp only [hc] at hv
      have HV := Lib.hid hv
      clear hv hx hc
      go_enter Try.func38, Try.ntmps38
      go_wp2_with fail
      refine (HV.out _).mono ?_
      rintro e w1 ⟨rfl, hb1⟩
      obtain ⟨hc1, hf1⟩ := bcell hb1
      have hy1 := hb1.size
      try simp at hy1
      first | (have hz1 : w.heap.size < w1.heap.size := by (have := hb1.size; (try simp at this); omega)) | skip
      have ho1_0 : w.heap.size < w1.heap.size := by (have := hb1.size; (try simp at this); omega)
      have hg1_0 := fun o => hc1 (w.heap.size) o (by first | (simp; done) | (simp; omega) | omega)
      have hk1_0 := fun o => hf1 (w.heap.size) o (by first | (simp; done) | (simp; omega) | omega)
      try simp [go_sem] at hg1_0
      try simp [go_sem] at hk1_0
      go_wp2_with fail
      go_ret2
      go_light
      refine ⟨ret_ib' H.out, ?_⟩
      repeat (first | (with_reducible exact Below.refl _ _) | (with_reducible refine Bal ?_ _) | (with_reducible refine Below.drew ?_) | (with_reducible refine below_drewN ?_ _) | (with_reducible refine Bset ?_ ?_ _; (first | (with_reducible exact Nat.le_refl _) | (simp; done) | (simp; omega) | omega)) | (with_reducible refine Bt ?_ (by assumption)))
    · have hi : inB x 0 999999 = false := by have := HO.out; rw [hc] at this; simpa using this
      simp only [hc] at hv
      simp only [hi] at hx
      have HV := Lib.hid hv
      have HX := Lib.hid hx
      clear hv hx hc hi
      go_enter Try.func38, Try.ntmps38
      go_wp2_with fail
      refine (HV.out _).mono ?_
      rintro e w1 ⟨rfl, hb1⟩
      obtain ⟨hc1, hf1⟩ := bcell hb1
      have hy1 := hb1.size
      try simp at hy1
      first | (have hz1 : w.heap.size < w1.heap.size := by (have := hb1.size; (try simp at this); omega)) | skip
      have ho1_0 : w.heap.size < w1.heap.size := by (have := hb1.size; (try simp at this); omega)
      have hg1_0 := fun o => hc1 (w.heap.size) o (by first | (simp; done) | (simp; omega) | omega)
      have hk1_0 := fun o => hf1 (w.heap.size) o (by first | (simp; done) | (simp; omega) | omega)
      try simp [go_sem] at hg1_0
      try simp [go_sem] at hk1_0
      go_wp2_with fail
      refine (HX.out _).mono ?_
      rintro e w' ⟨rfl, rfl⟩
      go_wp2_with fail
      go_ret2
      go_light
      refine ⟨ret_ib' H.out, ?_⟩
      repeat (first | (with_reducible exact Below.refl _ _) | (with_reducible refine Bal ?_ _) | (with_reducible refine Below.drew ?_) | (with_reducible refine below_drewN ?_ _) | (with_reducible refine Bset ?_ ?_ _; (first | (with_reducible exact Nat.le_refl _) | (simp; done) | (simp; omega) | omega)) | (with_reducible refine Bt ?_ (by assumption)))
set_option maxHeartbeats 1000000 in
theorem scw_any (W M R x : Int) (w : World) :
    Calls Try.prog 41 #[.agg #[.int .i64 W, .int .i64 M, .int .i64 R], .int .i64 x] w fun e w' => e = .returned (.tuple #[.int .i64 (cwV W M R x), .bool (cmO W M R x)]) ∧ Below w.heap.size w w' := by
  have hv := fun V : World => sclk_any W M R V
  have hx := fun V : World => l6In_any x 0 999999 V
  by_cases h : OkCM W M R x
  · have H := Lib.hid (cw_yes h)
    simp only [clkB_t h.1] at hv
    simp only [inB_t h.2.1 h.2.2] at hx
    have HV := Lib.hid hv
    have HX := Lib.hid hx
    clear hv hx
    go_enter Try.func41, Try.ntmps41
    go_wp2_with fail
    refine (HV.out _).mono ?_
    rintro e w1 ⟨rfl, hb1⟩
    obtain ⟨hc1, hf1⟩ := bcell hb1
    have hy1 := hb1.size
    try simp at hy1
    first | (have hz1 : w.heap.size < w1.heap.size := by (have := hb1.size; (try simp at this); omega)) | skip
    have ho1_0 : w.heap.size < w1.heap.size := by (have := hb1.size; (try simp at this); omega)
    have hg1_0 := fun o => hc1 (w.heap.size) o (by first | (simp; done) | (simp; omega) | omega)
    have hk1_0 := fun o => hf1 (w.heap.size) o (by first | (simp; done) | (simp; omega) | omega)
    try simp [go_sem] at hg1_0
    try simp [go_sem] at hk1_0
    go_wp2_with fail
    refine (HX.out _).mono ?_
    rintro e w' ⟨rfl, rfl⟩
    go_wp2_with fail
    refine (swal_any _ _ _ _ _ h).mono ?_
    rintro e w2 ⟨rfl, hb2⟩
    obtain ⟨hc2, hf2⟩ := bcell hb2
    have hy2 := hb2.size
    try simp at hy2
    first | (have hz2 : w.heap.size < w2.heap.size := by (have := hb2.size; (try simp at this); omega)) | skip
    go_wp2_with fail
    go_ret2
    go_light
    refine ⟨ret_ib' H.out, ?_⟩
    repeat (first | (with_reducible exact Below.refl _ _) | (with_reducible refine Bal ?_ _) | (with_reducible refine Below.drew ?_) | (with_reducible refine below_drewN ?_ _) | (with_reducible refine Bset ?_ ?_ _; (first | (with_reducible exact Nat.le_refl _) | (simp; done) | (simp; omega) | omega)) | (with_reducible refine Bt ?_ (by assumption)))
  · have H := Lib.hid (cw_no h)
    have HO := Lib.hid ((cmO_eq W M R x).symm.trans (cw_no h).2)
    clear h
    cases hc : clkB W M R
    · simp only [hc] at hv
      have HV := Lib.hid hv
      clear hv hx hc
      go_enter Try.func41, Try.ntmps41
      go_wp2_with fail
      refine (HV.out _).mono ?_
      rintro e w1 ⟨rfl, hb1⟩
      obtain ⟨hc1, hf1⟩ := bcell hb1
      have hy1 := hb1.size
      try simp at hy1
      first | (have hz1 : w.heap.size < w1.heap.size := by (have := hb1.size; (try simp at this); omega)) | skip
      have ho1_0 : w.heap.size < w1.heap.size := by (have := hb1.size; (try simp at this); omega)
      have hg1_0 := fun o => hc1 (w.heap.size) o (by first | (simp; done) | (simp; omega) | omega)
      have hk1_0 := fun o => hf1 (w.heap.size) o (by first | (simp; done) | (simp; omega) | omega)
      try simp [go_sem] at hg1_0
      try simp [go_sem] at hk1_0
      go_wp2_with fail
      go_ret2
      go_light
      refine ⟨ret_ib' H.out, ?_⟩
      repeat (first | (with_reducible exact Below.refl _ _) | (with_reducible refine Bal ?_ _) | (with_reducible refine Below.drew ?_) | (with_reducible refine below_drewN ?_ _) | (with_reducible refine Bset ?_ ?_ _; (first | (with_reducible exact Nat.le_refl _) | (simp; done) | (simp; omega) | omega)) | (with_reducible refine Bt ?_ (by assumption)))
    · have hi : inB x 0 999999 = false := by have := HO.out; rw [hc] at this; simpa using this
      simp only [hc] at hv
      simp only [hi] at hx
      have HV := Lib.hid hv
      have HX := Lib.hid hx
      clear hv hx hc hi
      go_enter Try.func41, Try.ntmps41
      go_wp2_with fail
      refine (HV.out _).mono ?_
      rintro e w1 ⟨rfl, hb1⟩
      obtain ⟨hc1, hf1⟩ := bcell hb1
      have hy1 := hb1.size
      try simp at hy1
      first | (have hz1 : w.heap.size < w1.heap.size := by (have := hb1.size; (try simp at this); omega)) | skip
      have ho1_0 : w.heap.size < w1.heap.size := by (have := hb1.size; (try simp at this); omega)
      have hg1_0 := fun o => hc1 (w.heap.size) o (by first | (simp; done) | (simp; omega) | omega)
      have hk1_0 := fun o => hf1 (w.heap.size) o (by first | (simp; done) | (simp; omega) | omega)
      try simp [go_sem] at hg1_0
      try simp [go_sem] at hk1_0
      go_wp2_with fail
      refine (HX.out _).mono ?_
      rintro e w' ⟨rfl, rfl⟩
      go_wp2_with fail
      go_ret2
      go_light
      refine ⟨ret_ib' H.out, ?_⟩
      repeat (first | (with_reducible exact Below.refl _ _) | (with_reducible refine Bal ?_ _) | (with_reducible refine Below.drew ?_) | (with_reducible refine below_drewN ?_ _) | (with_reducible refine Bset ?_ ?_ _; (first | (with_reducible exact Nat.le_refl _) | (simp; done) | (simp; omega) | omega)) | (with_reducible refine Bt ?_ (by assumption)))
theorem cw_bd (W M R x : Int) : -2000000000000 ≤ cwV W M R x ∧ cwV W M R x ≤ 2000000000000 := by
  by_cases h : OkCM W M R x
  · rw [(cw_yes h).1]
    obtain ⟨⟨⟨h1, h2⟩, ⟨h3, h4⟩, h5, h6⟩, h7, h8⟩ := h
    obtain ⟨q1, q2⟩ := div_bd ((M - x) * 1000) R (by omega) (by omega) (by omega)
    omega
  · rw [(cw_no h).1]; omega
def gapO (a b c x d e f y : Int) : Bool := cmO a b c x && cmO d e f y
def gapV (a b c x d e f y : Int) : Int := if gapO a b c x d e f y = true then cwV a b c x - cwV d e f y else 0
theorem gap_yes {a b c x d e f y : Int} (h : gapO a b c x d e f y = true) : gapV a b c x d e f y = cwV a b c x - cwV d e f y := by unfold gapV; rw [if_pos h]
theorem gap_no {a b c x d e f y : Int} (h : gapO a b c x d e f y = false) : gapV a b c x d e f y = 0 := by unfold gapV; rw [h]; rfl

end Go.Proofs.Ytlbnipcdkfonpaa
