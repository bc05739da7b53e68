/- The law FnExactClockGap of the program is true at every input: the call returns true, and each argument reads behind the call as before. Conditions: none. -/
import Derived.Test.YthopejggaekehaaClkS
import Derived.Test.YthopejggaekehaaOpen
import Derived.WalkKit
import Derived.ProofKit
import Derived.OpenShut
import Derived.ShutString
import Derived.ChangeOld
import Derived.Below
namespace Go.Proofs.Ythopejggaekehaa
open Go.RowKit
set_option linter.unusedVariables false
set_option linter.unusedSimpArgs false

set_option maxHeartbeats 1000000 in
theorem walk_FnExactClockGap (a b c x d f g y : Int) (w : World) (h0 : (Lit.int .i64 a).wf = true) (h1 : (Lit.int .i64 b).wf = true) (h2 : (Lit.int .i64 c).wf = true) (h3 : (Lit.int .i64 x).wf = true)
    (h4 : (Lit.int .i64 d).wf = true) (h5 : (Lit.int .i64 f).wf = true) (h6 : (Lit.int .i64 g).wf = true) (h7 : (Lit.int .i64 y).wf = true) :
    Calls Try.prog 12 #[.agg #[.int .i64 a, .int .i64 b, .int .i64 c], .int .i64 x, .agg #[.int .i64 d, .int .i64 f, .int .i64 g], .int .i64 y] w fun e w' => e = .returned (.bool true) ∧ Below w.heap.size w w' := by
  clear h0 h1 h2 h3 h4 h5 h6 h7
  go_enter Try.func12, Try.ntmps12
  go_wp2_with fail
  refine wp_region_mixB (by kernel_rfl) (by kernel_rfl) ?_
  repeat (first
    | (refine mix_skip rfl ?_; refine mix_putK (fun K hK => ?_); go_simp; refine hK _ ?_; clear hK K)
    | (refine mix_readE rfl rfl rfl ?_; apply Exists.intro; refine ⟨fun w' hb' => ?_, ?_⟩; (obtain ⟨hc', hf'⟩ := Old.cells hb'; clear hb'; go_simp; try exact rfl); refine mix_putK (fun K hK => ?_); go_simp; refine hK _ ?_; clear hK K)
    | (refine mix_pureE rfl rfl ?_; apply Exists.intro; refine ⟨fun w' => ?_, ?_⟩; (go_simp; try exact rfl); refine mix_putK (fun K hK => ?_); go_simp; refine hK _ ?_; clear hK K)
    | (refine mix_eff rfl rfl ?_; go_wp2_with (first | (go_at_call 31; refine (toClk_any _ _ _ _).mono ?_; rintro e w1 ⟨rfl, hb1⟩; obtain ⟨hc1, hf1⟩ := bcell hb1; have hy1 := hb1.size; (try simp at hy1); (first | (have hz1 : w.heap.size < w1.heap.size := by (have := hb1.size; (try simp at this); omega)) | skip); have ho1_0 : w.heap.size < w1.heap.size := (by (have := hb1.size; (try simp at this); omega)); have hg1_0 := fun o => hc1 (w.heap.size) o (by first | (simp; done) | (simp; omega) | omega); have hk1_0 := fun o => hf1 (w.heap.size) o (by first | (simp; done) | (simp; omega) | omega); have ho1_1 : w.heap.size + 1 < w1.heap.size := (by (have := hb1.size; (try simp at this); omega)); have hg1_1 := fun o => hc1 (w.heap.size + 1) o (by first | (simp; done) | (simp; omega) | omega); have hk1_1 := fun o => hf1 (w.heap.size + 1) o (by first | (simp; done) | (simp; omega) | omega)) | (go_at_call 35; refine (sgap_any _ _ _ _ _ _ _ _ _).mono ?_; rintro e w3 ⟨rfl, hb3⟩; obtain ⟨hc3, hf3⟩ := bcell hb3; have hy3 := hb3.size; (try simp at hy3); (first | (have hz3 : w.heap.size < w3.heap.size := by (have := hb3.size; (try simp at this); omega)) | skip); have ho3_0 : w.heap.size < w3.heap.size := (by (have := hb3.size; (try simp at this); omega)); have hg3_0 := fun o => hc3 (w.heap.size) o (by first | (simp; done) | (simp; omega) | omega); have hk3_0 := fun o => hf3 (w.heap.size) o (by first | (simp; done) | (simp; omega) | omega); have ho3_1 : w.heap.size + 1 < w3.heap.size := (by (have := hb3.size; (try simp at this); omega)); have hg3_1 := fun o => hc3 (w.heap.size + 1) o (by first | (simp; done) | (simp; omega) | omega); have hk3_1 := fun o => hf3 (w.heap.size + 1) o (by first | (simp; done) | (simp; omega) | omega))); refine then_mix rfl ?_ ?_; (first | (intro h; have h2 : false = true := h; cases h2) | (intro _; refine Old.mk ?_; repeat (first | (with_reducible exact Below.refl _ _) | (with_reducible refine Bal ?_ _) | (with_reducible refine Below.drew ?_) | (with_reducible refine below_drewN ?_ _) | (with_reducible refine Bset ?_ ?_ _; (first | (with_reducible exact Nat.le_refl _) | (simp; done) | (simp; omega) | omega)) | (with_reducible refine Bt ?_ (by assumption)))))))
  refine mix_nil ?_
  go_wp2_with fail
  refine wp_region_mixB (by kernel_rfl) (by kernel_rfl) ?_
  repeat (first
    | (refine mix_skip rfl ?_; refine mix_putK (fun K hK => ?_); go_simp; refine hK _ ?_; clear hK K)
    | (refine mix_readE rfl rfl rfl ?_; apply Exists.intro; refine ⟨fun w' hb' => ?_, ?_⟩; (obtain ⟨hc', hf'⟩ := Old.cells hb'; clear hb'; go_simp; try exact rfl); refine mix_putK (fun K hK => ?_); go_simp; refine hK _ ?_; clear hK K)
    | (refine mix_pureE rfl rfl ?_; apply Exists.intro; refine ⟨fun w' => ?_, ?_⟩; (go_simp; try exact rfl); refine mix_putK (fun K hK => ?_); go_simp; refine hK _ ?_; clear hK K)
    | (refine mix_eff rfl rfl ?_; go_wp2_with (first | (go_at_call 31; refine (toClk_any _ _ _ _).mono ?_; rintro e w4 ⟨rfl, hb4⟩; obtain ⟨hc4, hf4⟩ := bcell hb4; have hy4 := hb4.size; (try simp at hy4); (first | (have hz4 : w.heap.size < w4.heap.size := by (have := hb4.size; (try simp at this); omega)) | skip); have ho4_0 : w.heap.size < w4.heap.size := (by (have := hb4.size; (try simp at this); omega)); have hg4_0 := fun o => hc4 (w.heap.size) o (by first | (simp; done) | (simp; omega) | omega); have hk4_0 := fun o => hf4 (w.heap.size) o (by first | (simp; done) | (simp; omega) | omega); have ho4_1 : w.heap.size + 1 < w4.heap.size := (by (have := hb4.size; (try simp at this); omega)); have hg4_1 := fun o => hc4 (w.heap.size + 1) o (by first | (simp; done) | (simp; omega) | omega); have hk4_1 := fun o => hf4 (w.heap.size + 1) o (by first | (simp; done) | (simp; omega) | omega)) | (go_at_call 36; refine (igap_any _ _ _ _ _ _ _ _ _).mono ?_; rintro e w6 ⟨rfl, hb6⟩; obtain ⟨hc6, hf6⟩ := bcell hb6; have hy6 := hb6.size; (try simp at hy6); (first | (have hz6 : w.heap.size < w6.heap.size := by (have := hb6.size; (try simp at this); omega)) | skip); have ho6_0 : w.heap.size < w6.heap.size := (by (have := hb6.size; (try simp at this); omega)); have hg6_0 := fun o => hc6 (w.heap.size) o (by first | (simp; done) | (simp; omega) | omega); have hk6_0 := fun o => hf6 (w.heap.size) o (by first | (simp; done) | (simp; omega) | omega); have ho6_1 : w.heap.size + 1 < w6.heap.size := (by (have := hb6.size; (try simp at this); omega)); have hg6_1 := fun o => hc6 (w.heap.size + 1) o (by first | (simp; done) | (simp; omega) | omega); have hk6_1 := fun o => hf6 (w.heap.size + 1) o (by first | (simp; done) | (simp; omega) | omega))); refine then_mix rfl ?_ ?_; (first | (intro h; have h2 : false = true := h; cases h2) | (intro _; refine Old.mk ?_; repeat (first | (with_reducible exact Below.refl _ _) | (with_reducible refine Bal ?_ _) | (with_reducible refine Below.drew ?_) | (with_reducible refine below_drewN ?_ _) | (with_reducible refine Bset ?_ ?_ _; (first | (with_reducible exact Nat.le_refl _) | (simp; done) | (simp; omega) | omega)) | (with_reducible refine Bt ?_ (by assumption)))))))
  refine mix_nil ?_
  go_wp2_with fail
  go_ret
  go_light
  refine ⟨rfl, ?_⟩
  repeat (first | (with_reducible exact Below.refl _ _) | (with_reducible refine Bal ?_ _) | (with_reducible refine Below.drew ?_) | (with_reducible refine below_drewN ?_ _) | (with_reducible refine Bset ?_ ?_ _; (first | (with_reducible exact Nat.le_refl _) | (simp; done) | (simp; omega) | omega)) | (with_reducible refine Bt ?_ (by assumption)))

end Go.Proofs.Ythopejggaekehaa
namespace Go.Proofs.Ythopejggaekehaa.fnExactClockGap
open Go.ChangeShapes Go.WideShapes Go.ChangeAt Go.RowKit
set_option linter.unusedVariables false

theorem own : ownKnob Try.prog.godebug = none := by kernel_rfl
theorem laidOut : laidOutB Try.prog = true := by kernel_rfl

set_option maxRecDepth 100000 in
theorem lifted (os : Os) (started : os.Started) (H : Type) (enc : TypeId × Value → H) :
    ReturnsInHanded {} Try.checked os 12 .any (Rows.fnExactClockGapSpec.pre6 enc Try.prog Try.f12 Rows.fnExactClockGapRow.domain false) (Rows.fnExactClockGapSpec.post enc Try.prog Try.f12 false true false false) := by
  refine returnsInHanded_of_change (C := Try.checked) own started (by kernel_rfl) Try.func12
    (ChangeSpec.witness6 (enc := enc) (C := Try.checked) false ⟨#[], #[.agg #[.int .i64 0, .int .i64 0, .int .i64 0], .int .i64 0, .agg #[.int .i64 0, .int .i64 0, .int .i64 0], .int .i64 0], []⟩ 8 (by kernel_rfl) (by kernel_rfl) (by kernel_rfl) (by kernel_rfl)) ?_
  intro W base args ds gs before hval0 hW hcnd _
  have hval : ∀ (j : Nat) t v, Try.f12.params[j]? = some t → args[j]? = some v → Value.okWide Try.prog W .any base t v := hval0
  have hW' := hW
  obtain ⟨p, q, hA0, hV, rfl, hfz, hnd⟩ := hW
  have hA : DataW.TrodAll enc Try.prog W 0 (fun _ => true) true Try.f12.params.toList args.toList ds p := hA0
  rw [Try.params12] at hA hval
  obtain ⟨v0, vs0, d0, ds0, p0, q0, hargs, rfl, rfl, h0, r0⟩ := trodAll_cons hA
  obtain ⟨v1, vs1, d1, ds1, p1, q1, rfl, rfl, rfl, h1, r1⟩ := trodAll_cons r0
  obtain ⟨v2, vs2, d2, ds2, p2, q2, rfl, rfl, rfl, h2, r2⟩ := trodAll_cons r1
  obtain ⟨v3, vs3, d3, ds3, p3, q3, rfl, rfl, rfl, h3, r3⟩ := trodAll_cons r2
  obtain ⟨rfl, rfl, rfl⟩ := trodAll_nil r3
  obtain rfl : args = #[v0, v1, v2, v3] := by cases args; simp_all
  obtain ⟨rfl, rfl⟩ := trodVars_none hV
  have k0 := h0
  have lt0 : ∀ x ∈ p0, x.block < W.heap.size := by obtain ⟨m, hm⟩ := k0; exact DataW.trod_lt m _ _ _ hm
  obtain ⟨x0, y0, z0, rfl, wx0, wy0, wz0⟩ := open_clock (hval 0 44 v0 rfl rfl) h0
  obtain ⟨a1, rfl, rfl, rfl, w1⟩ := open_int Try.underlying3 (hval 1 3 v1 rfl rfl) h1
  have k2 := h2
  have lt2 : ∀ x ∈ p2, x.block < W.heap.size := by obtain ⟨m, hm⟩ := k2; exact DataW.trod_lt m _ _ _ hm
  obtain ⟨x2, y2, z2, rfl, wx2, wy2, wz2⟩ := open_clock (hval 2 44 v2 rfl rfl) h2
  obtain ⟨a3, rfl, rfl, rfl, w3⟩ := open_int Try.underlying3 (hval 3 3 v3 rfl rfl) h3
  clear hA0 hval0
  refine (walk_FnExactClockGap x0 y0 z0 a1 x2 y2 z2 a3 W wx0 wy0 wz0 w1 wx2 wy2 wz2 w3).mono fun e W' ⟨he, bel⟩ => ?_
  subst he
  exact ⟨_, rfl, _, _, _, [], _, [], hW', trodAll_mk1 (shut_bool Try.underlying4 _), (trodAll_cons_mk (Below.trod laidOut (by kernel_rfl) (of_decide_eq_true (by kernel_rfl)) k0 bel lt0) (trodAll_cons_mk (shut_int Try.underlying3 w1) (trodAll_cons_mk (Below.trod laidOut (by kernel_rfl) (of_decide_eq_true (by kernel_rfl)) k2 bel lt2) (trodAll_cons_mk (shut_int Try.underlying3 w3) trodAll_mk0)))), rfl, bel.frame _, fun h => by cases h⟩

theorem over : Rows.fnExactClockGapRow.holds Try.pinned (OpenSpec.ofChange Rows.fnExactClockGapSpec) :=
  OpenClaim.holds_of_wide 12 Try.f12 rfl rfl rfl rfl rfl rfl rfl ⟨rfl, rfl, rfl, rfl, rfl⟩ rfl rfl rfl rfl rfl (by kernel_rfl) Try.func12 (by kernel_rfl)
    (of_decide_eq_true (by kernel_rfl)) (by unfold Func.isWrapper; first | (rw [if_pos (by decide +kernel)]; kernel_rfl) | (rw [if_neg (by decide +kernel)]; exact ⟨rfl, rfl⟩))
    (fun os started H enc _ => lifted os started H enc)

/-- The statement. -/
theorem proved : Rows.FnExactClockGapSaid := over
#print axioms proved
end Go.Proofs.Ythopejggaekehaa.fnExactClockGap
