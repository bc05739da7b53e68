/- The law FnExactSpeakerStep of the program is true at every input: the call returns true, and each argument reads behind the call as before. Conditions: none. -/
import Derived.Test.YtcgdkgfckmmhjaaStp
import Derived.Test.YtcgdkgfckmmhjaaOpi
import Derived.WalkKit
import Derived.ProofKit
import Derived.OpenShut
import Derived.ShutString
import Derived.ChangeOld
import Derived.Below
namespace Go.Proofs.Ytcgdkgfckmmhjaa
open Go.RowKit
set_option linter.unusedVariables false
set_option linter.unusedSimpArgs false

set_option maxHeartbeats 4000000 in
theorem walk_FnExactSpeakerStep (a b d : Int) (A : Option Addr) (n c : Nat) (z : Nat → Int) (w : World) (h0 : (Lit.int .i64 a).wf = true) (h1 : (Lit.int .i64 b).wf = true) (h2 : (Lit.int .i64 d).wf = true) (h : Ints w 0 w.heap.size A n z) (hm : n ≤ maxLen) :
    Calls Try.prog 4 #[.agg #[.int .i64 a, .int .i64 b, .int .i64 d], .slice A n c] w fun e w' => e = .returned (.bool true) ∧ Below w.heap.size w w' := by
  clear h0 h1 h2
  unfold maxLen at hm
  have H := Lib.hid h
  clear h
  by_cases hn0 : 1048576 < n
  · go_enter Try.func4, Try.ntmps4
    go_wp2_with fail
    go_ret
    exact ⟨rfl, Ba _ _⟩
  · have hn : n ≤ 1048576 := by omega
    clear hn0 hm
    have HS := Lib.hid fun (W : World) lo hi A c => @sstp_any a b d W lo hi A n c z
    have HI := Lib.hid fun (W : World) lo hi A c => @istp_any a b d W lo hi A n c z
    generalize spN a b d n z = rN at *
    generalize spX a b d n z = rX at *
    generalize spW a b d n z = rW at *
    generalize spB a b d n z = rB at *
    go_enter Try.func4, Try.ntmps4
    go_wp2_with fail
    refine (toSpk_any _ _ _ _).mono ?_
    rintro e w1 ⟨rfl, hb1⟩
    obtain ⟨hc1, hf1⟩ := bcell hb1
    have hy1 := hb1.size
    try simp at hy1
    first | (have hz1 : w.heap.size < w1.heap.size := by (have := hb1.size; (try simp at this); omega)) | skip
    have ho1_0 : w.heap.size < w1.heap.size := by (have := hb1.size; (try simp at this); omega)
    have hg1_0 := fun o => hc1 (w.heap.size) o (by first | (simp; done) | (simp; omega) | omega)
    have hk1_0 := fun o => hf1 (w.heap.size) o (by first | (simp; done) | (simp; omega) | omega)
    try simp [go_sem] at hg1_0
    try simp [go_sem] at hk1_0
    go_wp2_with fail
    refine (toIntS_any _ 0 w.heap.size A n c z (H.out.below (Nat.le_refl _) (by repeat (first | (with_reducible exact Below.refl _ _) | (with_reducible refine Bal ?_ _) | (with_reducible refine Below.drew ?_) | (with_reducible refine below_drewN ?_ _) | (with_reducible refine Bset ?_ ?_ _; focus (first | (with_reducible exact Nat.le_refl _) | (simp; done) | (simp; omega) | omega)) | (with_reducible refine Bt ?_ (by assumption)) | (with_reducible refine Bp (g := g) ?_ (by assumption) (by assumption))))) (by first | exact Nat.le_refl _ | (simp; done) | (simp; omega) | omega) hn).mono ?_
    rintro e w2 ⟨A2, c2, hO2, rfl, hb2⟩
    obtain ⟨hc2, hf2⟩ := bcell hb2
    have hy2 := hb2.size
    try simp at hy2
    have ho2_0 : w.heap.size < w2.heap.size := by (have := hb2.size; (try simp at this); omega)
    have hg2_0 := fun o => hc2 (w.heap.size) o (by first | (simp; done) | (simp; omega) | omega)
    have hk2_0 := fun o => hf2 (w.heap.size) o (by first | (simp; done) | (simp; omega) | omega)
    try simp [go_sem] at hg2_0
    try simp [go_sem] at hk2_0
    go_wp2_with fail
    refine (HS.out _ _ _ _ _ (hO2.ints.below (Nat.le_refl _) (by repeat (first | (with_reducible exact Below.refl _ _) | (with_reducible refine Bal ?_ _) | (with_reducible refine Below.drew ?_) | (with_reducible refine below_drewN ?_ _) | (with_reducible refine Bset ?_ ?_ _; focus (first | (with_reducible exact Nat.le_refl _) | (simp; done) | (simp; omega) | omega)) | (with_reducible refine Bt ?_ (by assumption)) | (with_reducible refine Bp (g := g) ?_ (by assumption) (by assumption))))) (by first | exact Nat.le_refl _ | (simp; done) | (simp; omega) | omega) hn).mono ?_
    rintro e w3 ⟨rfl, hb3⟩
    obtain ⟨hc3, hf3⟩ := bcell hb3
    have hy3 := hb3.size
    try simp at hy3
    first | (have hz3 : w.heap.size < w3.heap.size := by (have := hb3.size; (try simp at this); omega)) | skip
    have ho3_0 : w.heap.size < w3.heap.size := by (have := hb3.size; (try simp at this); omega)
    have hg3_0 := fun o => hc3 (w.heap.size) o (by first | (simp; done) | (simp; omega) | omega)
    have hk3_0 := fun o => hf3 (w.heap.size) o (by first | (simp; done) | (simp; omega) | omega)
    try simp [go_sem] at hg3_0
    try simp [go_sem] at hk3_0
    go_wp2_with fail
    refine (toIntS_any _ 0 w.heap.size A n c z (H.out.below (Nat.le_refl _) (by repeat (first | (with_reducible exact Below.refl _ _) | (with_reducible refine Bal ?_ _) | (with_reducible refine Below.drew ?_) | (with_reducible refine below_drewN ?_ _) | (with_reducible refine Bset ?_ ?_ _; focus (first | (with_reducible exact Nat.le_refl _) | (simp; done) | (simp; omega) | omega)) | (with_reducible refine Bt ?_ (by assumption)) | (with_reducible refine Bp (g := g) ?_ (by assumption) (by assumption))))) (by first | exact Nat.le_refl _ | (simp; done) | (simp; omega) | omega) hn).mono ?_
    rintro e w4 ⟨A4, c4, hO4, rfl, hb4⟩
    obtain ⟨hc4, hf4⟩ := bcell hb4
    have hy4 := hb4.size
    try simp at hy4
    have ho4_0 : w.heap.size < w4.heap.size := by (have := hb4.size; (try simp at this); omega)
    have hg4_0 := fun o => hc4 (w.heap.size) o (by first | (simp; done) | (simp; omega) | omega)
    have hk4_0 := fun o => hf4 (w.heap.size) o (by first | (simp; done) | (simp; omega) | omega)
    try simp [go_sem] at hg4_0
    try simp [go_sem] at hk4_0
    have ho4_1 : w3.heap.size < w4.heap.size := by (have := hb4.size; (try simp at this); omega)
    have hg4_1 := fun o => hc4 (w3.heap.size) o (by first | (simp; done) | (simp; omega) | omega)
    have hk4_1 := fun o => hf4 (w3.heap.size) o (by first | (simp; done) | (simp; omega) | omega)
    try simp [go_sem] at hg4_1
    try simp [go_sem] at hk4_1
    go_wp2_with fail
    refine (toSpk_any _ _ _ _).mono ?_
    rintro e w5 ⟨rfl, hb5⟩
    obtain ⟨hc5, hf5⟩ := bcell hb5
    have hy5 := hb5.size
    try simp at hy5
    first | (have hz5 : w.heap.size < w5.heap.size := by (have := hb5.size; (try simp at this); omega)) | skip
    have ho5_0 : w.heap.size < w5.heap.size := by (have := hb5.size; (try simp at this); omega)
    have hg5_0 := fun o => hc5 (w.heap.size) o (by first | (simp; done) | (simp; omega) | omega)
    have hk5_0 := fun o => hf5 (w.heap.size) o (by first | (simp; done) | (simp; omega) | omega)
    try simp [go_sem] at hg5_0
    try simp [go_sem] at hk5_0
    have ho5_1 : w3.heap.size < w5.heap.size := by (have := hb5.size; (try simp at this); omega)
    have hg5_1 := fun o => hc5 (w3.heap.size) o (by first | (simp; done) | (simp; omega) | omega)
    have hk5_1 := fun o => hf5 (w3.heap.size) o (by first | (simp; done) | (simp; omega) | omega)
    try simp [go_sem] at hg5_1
    try simp [go_sem] at hk5_1
    go_wp2_with fail
    refine (HI.out _ _ _ _ _ (hO4.ints.below (Nat.le_refl _) (by repeat (first | (with_reducible exact Below.refl _ _) | (with_reducible refine Bal ?_ _) | (with_reducible refine Below.drew ?_) | (with_reducible refine below_drewN ?_ _) | (with_reducible refine Bset ?_ ?_ _; focus (first | (with_reducible exact Nat.le_refl _) | (simp; done) | (simp; omega) | omega)) | (with_reducible refine Bt ?_ (by assumption)) | (with_reducible refine Bp (g := g) ?_ (by assumption) (by assumption))))) (by first | exact Nat.le_refl _ | (simp; done) | (simp; omega) | omega) hn).mono ?_
    rintro e w6 ⟨rfl, hb6⟩
    obtain ⟨hc6, hf6⟩ := bcell hb6
    have hy6 := hb6.size
    try simp at hy6
    first | (have hz6 : w.heap.size < w6.heap.size := by (have := hb6.size; (try simp at this); omega)) | skip
    have ho6_0 : w.heap.size < w6.heap.size := by (have := hb6.size; (try simp at this); omega)
    have hg6_0 := fun o => hc6 (w.heap.size) o (by first | (simp; done) | (simp; omega) | omega)
    have hk6_0 := fun o => hf6 (w.heap.size) o (by first | (simp; done) | (simp; omega) | omega)
    try simp [go_sem] at hg6_0
    try simp [go_sem] at hk6_0
    have ho6_1 : w3.heap.size < w6.heap.size := by (have := hb6.size; (try simp at this); omega)
    have hg6_1 := fun o => hc6 (w3.heap.size) o (by first | (simp; done) | (simp; omega) | omega)
    have hk6_1 := fun o => hf6 (w3.heap.size) o (by first | (simp; done) | (simp; omega) | omega)
    try simp [go_sem] at hg6_1
    try simp [go_sem] at hk6_1
    go_wp2_with fail
    refine (eqSpk_same _ _ _ _).mono ?_
    rintro e w7 ⟨rfl, hb7⟩
    obtain ⟨hc7, hf7⟩ := bcell hb7
    have hy7 := hb7.size
    try simp at hy7
    first | (have hz7 : w.heap.size < w7.heap.size := by (have := hb7.size; (try simp at this); omega)) | skip
    have ho7_0 : w.heap.size < w7.heap.size := by (have := hb7.size; (try simp at this); omega)
    have hg7_0 := fun o => hc7 (w.heap.size) o (by first | (simp; done) | (simp; omega) | omega)
    have hk7_0 := fun o => hf7 (w.heap.size) o (by first | (simp; done) | (simp; omega) | omega)
    try simp [go_sem] at hg7_0
    try simp [go_sem] at hk7_0
    have ho7_1 : w3.heap.size < w7.heap.size := by (have := hb7.size; (try simp at this); omega)
    have hg7_1 := fun o => hc7 (w3.heap.size) o (by first | (simp; done) | (simp; omega) | omega)
    have hk7_1 := fun o => hf7 (w3.heap.size) o (by first | (simp; done) | (simp; omega) | omega)
    try simp [go_sem] at hg7_1
    try simp [go_sem] at hk7_1
    have ho7_2 : w6.heap.size < w7.heap.size := by (have := hb7.size; (try simp at this); omega)
    have hg7_2 := fun o => hc7 (w6.heap.size) o (by first | (simp; done) | (simp; omega) | omega)
    have hk7_2 := fun o => hf7 (w6.heap.size) o (by first | (simp; done) | (simp; omega) | omega)
    try simp [go_sem] at hg7_2
    try simp [go_sem] at hk7_2
    go_wp2_with fail
    refine (toIntS_any _ 0 w.heap.size A n c z (H.out.below (Nat.le_refl _) (by repeat (first | (with_reducible exact Below.refl _ _) | (with_reducible refine Bal ?_ _) | (with_reducible refine Below.drew ?_) | (with_reducible refine below_drewN ?_ _) | (with_reducible refine Bset ?_ ?_ _; focus (first | (with_reducible exact Nat.le_refl _) | (simp; done) | (simp; omega) | omega)) | (with_reducible refine Bt ?_ (by assumption)) | (with_reducible refine Bp (g := g) ?_ (by assumption) (by assumption))))) (by first | exact Nat.le_refl _ | (simp; done) | (simp; omega) | omega) hn).mono ?_
    rintro e w8 ⟨A8, c8, hO8, rfl, hb8⟩
    obtain ⟨hc8, hf8⟩ := bcell hb8
    have hy8 := hb8.size
    try simp at hy8
    go_wp2_with fail
    refine (eqIntS_same _ (hO4.ints.below (Nat.le_refl _) (by repeat (first | (with_reducible exact Below.refl _ _) | (with_reducible refine Bal ?_ _) | (with_reducible refine Below.drew ?_) | (with_reducible refine below_drewN ?_ _) | (with_reducible refine Bset ?_ ?_ _; focus (first | (with_reducible exact Nat.le_refl _) | (simp; done) | (simp; omega) | omega)) | (with_reducible refine Bt ?_ (by assumption)) | (with_reducible refine Bp (g := g) ?_ (by assumption) (by assumption))))) (hO8.ints.below (Nat.le_refl _) (by repeat (first | (with_reducible exact Below.refl _ _) | (with_reducible refine Bal ?_ _) | (with_reducible refine Below.drew ?_) | (with_reducible refine below_drewN ?_ _) | (with_reducible refine Bset ?_ ?_ _; focus (first | (with_reducible exact Nat.le_refl _) | (simp; done) | (simp; omega) | omega)) | (with_reducible refine Bt ?_ (by assumption)) | (with_reducible refine Bp (g := g) ?_ (by assumption) (by assumption))))) (by first | exact Nat.le_refl _ | (simp; done) | (simp; omega) | omega) (by first | exact Nat.le_refl _ | (simp; done) | (simp; omega) | omega) hn).mono ?_
    rintro e w9 ⟨rfl, hb9⟩
    obtain ⟨hc9, hf9⟩ := bcell hb9
    have hy9 := hb9.size
    try simp at hy9
    first | (have hz9 : w.heap.size < w9.heap.size := by (have := hb9.size; (try simp at this); omega)) | skip
    go_wp2_with fail
    go_ret
    go_light
    refine ⟨rfl, ?_⟩
    repeat (first | (with_reducible exact Below.refl _ _) | (with_reducible refine Bal ?_ _) | (with_reducible refine Below.drew ?_) | (with_reducible refine below_drewN ?_ _) | (with_reducible refine Bset ?_ ?_ _; focus (first | (with_reducible exact Nat.le_refl _) | (simp; done) | (simp; omega) | omega)) | (with_reducible refine Bt ?_ (by assumption)) | (with_reducible refine Bp (g := g) ?_ (by assumption) (by assumption)))

end Go.Proofs.Ytcgdkgfckmmhjaa
namespace Go.Proofs.Ytcgdkgfckmmhjaa.fnExactSpeakerStep
open Go.ChangeShapes Go.WideShapes Go.ChangeAt Go.RowKit
set_option linter.unusedVariables false

theorem own : ownKnob Try.prog.godebug = none := by kernel_rfl
theorem laidOut : laidOutB Try.prog = true := by kernel_rfl

set_option maxRecDepth 100000 in
theorem lifted (os : Os) (started : os.Started) (H : Type) (enc : TypeId × Value → H) :
    ReturnsInHanded {} Try.checked os 4 .any (Rows.fnExactSpeakerStepSpec.pre6 enc Try.prog Try.f4 Rows.fnExactSpeakerStepRow.domain false) (Rows.fnExactSpeakerStepSpec.post enc Try.prog Try.f4 false true false false) := by
  refine returnsInHanded_of_change (C := Try.checked) own started (by kernel_rfl) Try.func4
    (ChangeSpec.witness6 (enc := enc) (C := Try.checked) false ⟨#[], #[.agg #[.int .i64 0, .int .i64 0, .int .i64 0], .slice none 0 0], []⟩ 8 (by kernel_rfl) (by kernel_rfl) (by kernel_rfl) (by kernel_rfl)) ?_
  intro W base args ds gs before hval0 hW hcnd _
  have hval : ∀ (j : Nat) t v, Try.f4.params[j]? = some t → args[j]? = some v → Value.okWide Try.prog W .any base t v := hval0
  have hW' := hW
  obtain ⟨p, q, hA0, hV, rfl, hfz, hnd⟩ := hW
  have hA : DataW.TrodAll enc Try.prog W 0 (fun _ => true) true Try.f4.params.toList args.toList ds p := hA0
  rw [Try.params4] at hA hval
  obtain ⟨v0, vs0, d0, ds0, p0, q0, hargs, rfl, rfl, h0, r0⟩ := trodAll_cons hA
  obtain ⟨v1, vs1, d1, ds1, p1, q1, rfl, rfl, rfl, h1, r1⟩ := trodAll_cons r0
  obtain ⟨rfl, rfl, rfl⟩ := trodAll_nil r1
  obtain rfl : args = #[v0, v1] := by cases args; simp_all
  obtain ⟨rfl, rfl⟩ := trodVars_none hV
  have k0 := h0
  have lt0 : ∀ x ∈ p0, x.block < W.heap.size := by obtain ⟨m, hm⟩ := k0; exact DataW.trod_lt m _ _ _ hm
  obtain ⟨x0, y0, z0, rfl, wx0, wy0, wz0⟩ := open_speaker (hval 0 28 v0 rfl rfl) h0
  have k1 := h1
  have lt1 : ∀ x ∈ p1, x.block < W.heap.size := by obtain ⟨m, hm⟩ := k1; exact DataW.trod_lt m _ _ _ hm
  obtain ⟨a1, n1, c1, z1, rfl, w1, l1⟩ := open_intsl (hval 1 29 v1 rfl rfl) h1
  clear hA0 hval0
  refine (walk_FnExactSpeakerStep x0 y0 z0 a1 n1 c1 z1 W wx0 wy0 wz0 w1 l1).mono fun e W' ⟨he, bel⟩ => ?_
  subst he
  exact ⟨_, rfl, _, _, _, [], _, [], hW', trodAll_mk1 (shut_bool Try.underlying4 _), (trodAll_cons_mk (Below.trod laidOut (by kernel_rfl) (of_decide_eq_true (by kernel_rfl)) k0 bel lt0) (trodAll_cons_mk (Below.trod laidOut (by kernel_rfl) (of_decide_eq_true (by kernel_rfl)) k1 bel lt1) trodAll_mk0)), rfl, bel.frame _, fun h => by cases h⟩

theorem over : Rows.fnExactSpeakerStepRow.holds Try.pinned (OpenSpec.ofChange Rows.fnExactSpeakerStepSpec) :=
  OpenClaim.holds_of_wide 4 Try.f4 rfl rfl rfl rfl rfl rfl rfl ⟨rfl, rfl, rfl, rfl, rfl⟩ rfl rfl rfl rfl rfl (by kernel_rfl) Try.func4 (by kernel_rfl)
    (of_decide_eq_true (by kernel_rfl)) (by unfold Func.isWrapper; first | (rw [if_pos (by decide +kernel)]; kernel_rfl) | (rw [if_neg (by decide +kernel)]; exact ⟨rfl, rfl⟩))
    (fun os started H enc _ => lifted os started H enc)

/-- The statement. -/
theorem proved : Rows.FnExactSpeakerStepSaid := over
#print axioms proved
end Go.Proofs.Ytcgdkgfckmmhjaa.fnExactSpeakerStep
