/- The law FnHoldTime of the program is true at every input: the call returns true, and each argument reads behind the call as before. Conditions: none. -/
import Derived.Test.YtegdogamenoaiaaBdt
import Derived.WalkKit
import Derived.ProofKit
import Derived.OpenShut
import Derived.ShutString
import Derived.ChangeOld
import Derived.Below
namespace Go.Proofs.Ytegdogamenoaiaa
open Go.RowKit
set_option linter.unusedVariables false
set_option linter.unusedSimpArgs false

set_option maxRecDepth 100000 in
set_option maxHeartbeats 8000000 in
theorem walk_FnHoldTime (A : Option Addr) (n c : Nat) (w : World) (h : IsInts .u8 w A n c) :
    Calls Try.prog 6 #[.slice A n c] w fun e w' => e = .returned (.bool true) ∧ Below w.heap.size w w' := by
  have H := Lib.hid h
  clear h
  by_cases hn0 : 1048576 < n
  · go_enter Try.func6, Try.ntmps6
    go_wp2_with fail
    go_ret
    exact ⟨rfl, Below.refl _ _⟩
  · have hn : n ≤ 1048576 := by omega
    clear hn0
    go_enter Try.func6, Try.ntmps6
    go_wp2_with fail
    refine (draw_btime _ A n c (H.out.below (by repeat (first | (with_reducible exact Below.refl _ _) | (with_reducible refine Bal ?_ _) | (with_reducible refine Below.drew ?_) | (with_reducible refine below_drewN ?_ _) | (with_reducible refine Bset ?_ ?_ _; focus (first | (with_reducible exact Nat.le_refl _) | (simp; done) | (simp; omega) | omega)) | (with_reducible refine Bt ?_ (by assumption)) | (with_reducible refine Bp (g := g) ?_ (by assumption) (by assumption))))) hn).mono ?_
    rintro e w1 ⟨y, d, A1, m, c1, q, hr1, hmc, hm, rfl, hb1⟩
    obtain ⟨hc1, hf1⟩ := bcell hb1
    have hy1 := hb1.size
    try simp at hy1
    have HR := Lib.hid hr1
    have hmn : m ≤ 1048576 := by omega
    clear hr1
    have hi := fun W h1 h2 => ibt_any W 0 w1.heap.size A1 m c1 y d q h1 h2 hmn
    have hs := fun W h1 h2 => sbt_any W 0 w1.heap.size A1 m c1 y d q h1 h2 hmn
    have ht := fun (h : 0 ≤ btI y d m q) W h1 h2 => itk_yes W 0 w1.heap.size A1 m c1 y d (btI y d m q) q (bt_range h).2.1 h1 h2 hmn
    have hf := fun (h : 0 ≤ btI y d m q) W h1 h2 => itk_no W 0 w1.heap.size A1 m c1 y d (btI y d m q - 1) q (bt_range h).2.2 h1 h2 hmn
    have hb := fun (h : 0 ≤ btI y d m q) => (bt_range h).1
    obtain ⟨D, hD⟩ : ∃ D, btI y d m q = D := ⟨_, rfl⟩
    rw [hD] at hi hs ht hf hb
    clear hD
    have HI := Lib.hid hi
    have HS := Lib.hid hs
    clear hi hs
    by_cases h0 : 0 ≤ D
    · have HT := Lib.hid (ht h0)
      have HF := Lib.hid (hf h0)
      have hDb := hb h0
      have hDn : ¬ D < 0 := by omega
      have wD : IntKind.i64.wrap (D - 1) = D - 1 := IntWalk.i64_in _ (by omega)
      clear ht hf hb
      go_wp2_with fail
      refine (HI.out _ (HR.out.below (Nat.le_refl _) (by repeat (first | (with_reducible exact Below.refl _ _) | (with_reducible refine Bal ?_ _) | (with_reducible refine Below.drew ?_) | (with_reducible refine below_drewN ?_ _) | (with_reducible refine Bset ?_ ?_ _; focus (first | (with_reducible exact Nat.le_refl _) | (simp; done) | (simp; omega) | omega)) | (with_reducible refine Bt ?_ (by assumption)) | (with_reducible refine Bp (g := g) ?_ (by assumption) (by assumption))))) (by first | exact Nat.le_refl _ | (simp; done) | (simp; omega) | omega)).mono ?_
      rintro e w2 ⟨rfl, hb2⟩
      obtain ⟨hc2, hf2⟩ := bcell hb2
      have hy2 := hb2.size
      try simp at hy2
      first | (have hz2 : w.heap.size < w2.heap.size := by (have := hb2.size; (try simp at this); omega)) | skip
      have ho2_0 : w1.heap.size < w2.heap.size := by (have := hb2.size; (try simp at this); omega)
      have hg2_0 := fun o => hc2 (w1.heap.size) o (by first | (simp; done) | (simp; omega) | omega)
      have hk2_0 := fun o => hf2 (w1.heap.size) o (by first | (simp; done) | (simp; omega) | omega)
      try simp [go_sem] at hg2_0
      try simp [go_sem] at hk2_0
      go_wp2_with fail
      refine (HS.out _ (HR.out.below (Nat.le_refl _) (by repeat (first | (with_reducible exact Below.refl _ _) | (with_reducible refine Bal ?_ _) | (with_reducible refine Below.drew ?_) | (with_reducible refine below_drewN ?_ _) | (with_reducible refine Bset ?_ ?_ _; focus (first | (with_reducible exact Nat.le_refl _) | (simp; done) | (simp; omega) | omega)) | (with_reducible refine Bt ?_ (by assumption)) | (with_reducible refine Bp (g := g) ?_ (by assumption) (by assumption))))) (by first | exact Nat.le_refl _ | (simp; done) | (simp; omega) | omega)).mono ?_
      rintro e w3 ⟨rfl, hb3⟩
      obtain ⟨hc3, hf3⟩ := bcell hb3
      have hy3 := hb3.size
      try simp at hy3
      first | (have hz3 : w.heap.size < w3.heap.size := by (have := hb3.size; (try simp at this); omega)) | skip
      have ho3_0 : w1.heap.size < w3.heap.size := by (have := hb3.size; (try simp at this); omega)
      have hg3_0 := fun o => hc3 (w1.heap.size) o (by first | (simp; done) | (simp; omega) | omega)
      have hk3_0 := fun o => hf3 (w1.heap.size) o (by first | (simp; done) | (simp; omega) | omega)
      try simp [go_sem] at hg3_0
      try simp [go_sem] at hk3_0
      go_wp2_with fail
      refine (HT.out _ (HR.out.below (Nat.le_refl _) (by repeat (first | (with_reducible exact Below.refl _ _) | (with_reducible refine Bal ?_ _) | (with_reducible refine Below.drew ?_) | (with_reducible refine below_drewN ?_ _) | (with_reducible refine Bset ?_ ?_ _; focus (first | (with_reducible exact Nat.le_refl _) | (simp; done) | (simp; omega) | omega)) | (with_reducible refine Bt ?_ (by assumption)) | (with_reducible refine Bp (g := g) ?_ (by assumption) (by assumption))))) (by first | exact Nat.le_refl _ | (simp; done) | (simp; omega) | omega)).mono ?_
      rintro e w4 ⟨A5, c5, rfl, hb4⟩
      obtain ⟨hc4, hf4⟩ := bcell hb4
      have hy4 := hb4.size
      try simp at hy4
      have ho4_0 : w1.heap.size < w4.heap.size := by (have := hb4.size; (try simp at this); omega)
      have hg4_0 := fun o => hc4 (w1.heap.size) o (by first | (simp; done) | (simp; omega) | omega)
      have hk4_0 := fun o => hf4 (w1.heap.size) o (by first | (simp; done) | (simp; omega) | omega)
      try simp [go_sem] at hg4_0
      try simp [go_sem] at hk4_0
      go_wp2_with fail
      refine (HF.out _ (HR.out.below (Nat.le_refl _) (by repeat (first | (with_reducible exact Below.refl _ _) | (with_reducible refine Bal ?_ _) | (with_reducible refine Below.drew ?_) | (with_reducible refine below_drewN ?_ _) | (with_reducible refine Bset ?_ ?_ _; focus (first | (with_reducible exact Nat.le_refl _) | (simp; done) | (simp; omega) | omega)) | (with_reducible refine Bt ?_ (by assumption)) | (with_reducible refine Bp (g := g) ?_ (by assumption) (by assumption))))) (by first | exact Nat.le_refl _ | (simp; done) | (simp; omega) | omega)).mono ?_
      rintro e w5 ⟨rfl, hb5⟩
      go_wp2_with fail
      go_ret
      go_light
      refine ⟨rfl, ?_⟩
      repeat (first | (with_reducible exact Below.refl _ _) | (with_reducible refine Bal ?_ _) | (with_reducible refine Below.drew ?_) | (with_reducible refine below_drewN ?_ _) | (with_reducible refine Bset ?_ ?_ _; focus (first | (with_reducible exact Nat.le_refl _) | (simp; done) | (simp; omega) | omega)) | (with_reducible refine Bt ?_ (by assumption)) | (with_reducible refine Bp (g := g) ?_ (by assumption) (by assumption)))
    · have hDn : D < 0 := by omega
      clear ht hf hb
      go_wp2_with fail
      refine (HI.out _ (HR.out.below (Nat.le_refl _) (by repeat (first | (with_reducible exact Below.refl _ _) | (with_reducible refine Bal ?_ _) | (with_reducible refine Below.drew ?_) | (with_reducible refine below_drewN ?_ _) | (with_reducible refine Bset ?_ ?_ _; focus (first | (with_reducible exact Nat.le_refl _) | (simp; done) | (simp; omega) | omega)) | (with_reducible refine Bt ?_ (by assumption)) | (with_reducible refine Bp (g := g) ?_ (by assumption) (by assumption))))) (by first | exact Nat.le_refl _ | (simp; done) | (simp; omega) | omega)).mono ?_
      rintro e w2 ⟨rfl, hb2⟩
      obtain ⟨hc2, hf2⟩ := bcell hb2
      have hy2 := hb2.size
      try simp at hy2
      first | (have hz2 : w.heap.size < w2.heap.size := by (have := hb2.size; (try simp at this); omega)) | skip
      have ho2_0 : w1.heap.size < w2.heap.size := by (have := hb2.size; (try simp at this); omega)
      have hg2_0 := fun o => hc2 (w1.heap.size) o (by first | (simp; done) | (simp; omega) | omega)
      have hk2_0 := fun o => hf2 (w1.heap.size) o (by first | (simp; done) | (simp; omega) | omega)
      try simp [go_sem] at hg2_0
      try simp [go_sem] at hk2_0
      go_wp2_with fail
      refine (HS.out _ (HR.out.below (Nat.le_refl _) (by repeat (first | (with_reducible exact Below.refl _ _) | (with_reducible refine Bal ?_ _) | (with_reducible refine Below.drew ?_) | (with_reducible refine below_drewN ?_ _) | (with_reducible refine Bset ?_ ?_ _; focus (first | (with_reducible exact Nat.le_refl _) | (simp; done) | (simp; omega) | omega)) | (with_reducible refine Bt ?_ (by assumption)) | (with_reducible refine Bp (g := g) ?_ (by assumption) (by assumption))))) (by first | exact Nat.le_refl _ | (simp; done) | (simp; omega) | omega)).mono ?_
      rintro e w3 ⟨rfl, hb3⟩
      obtain ⟨hc3, hf3⟩ := bcell hb3
      have hy3 := hb3.size
      try simp at hy3
      first | (have hz3 : w.heap.size < w3.heap.size := by (have := hb3.size; (try simp at this); omega)) | skip
      have ho3_0 : w1.heap.size < w3.heap.size := by (have := hb3.size; (try simp at this); omega)
      have hg3_0 := fun o => hc3 (w1.heap.size) o (by first | (simp; done) | (simp; omega) | omega)
      have hk3_0 := fun o => hf3 (w1.heap.size) o (by first | (simp; done) | (simp; omega) | omega)
      try simp [go_sem] at hg3_0
      try simp [go_sem] at hk3_0
      go_wp2_with fail
      go_ret
      go_light
      refine ⟨rfl, ?_⟩
      repeat (first | (with_reducible exact Below.refl _ _) | (with_reducible refine Bal ?_ _) | (with_reducible refine Below.drew ?_) | (with_reducible refine below_drewN ?_ _) | (with_reducible refine Bset ?_ ?_ _; focus (first | (with_reducible exact Nat.le_refl _) | (simp; done) | (simp; omega) | omega)) | (with_reducible refine Bt ?_ (by assumption)) | (with_reducible refine Bp (g := g) ?_ (by assumption) (by assumption)))

end Go.Proofs.Ytegdogamenoaiaa
namespace Go.Proofs.Ytegdogamenoaiaa.fnHoldTime
open Go.ChangeShapes Go.WideShapes Go.ChangeAt Go.RowKit
set_option linter.unusedVariables false

theorem own : ownKnob Try.prog.godebug = none := by kernel_rfl
theorem laidOut : laidOutB Try.prog = true := by kernel_rfl

set_option maxRecDepth 100000 in
theorem lifted (os : Os) (started : os.Started) (H : Type) (enc : TypeId × Value → H) :
    ReturnsInHanded {} Try.checked os 6 .any (Rows.fnHoldTimeSpec.pre6 enc Try.prog Try.f6 Rows.fnHoldTimeRow.domain false) (Rows.fnHoldTimeSpec.post enc Try.prog Try.f6 false true false false) := by
  refine returnsInHanded_of_change (C := Try.checked) own started (by kernel_rfl) Try.func6
    (ChangeSpec.witness6 (enc := enc) (C := Try.checked) false ⟨#[], #[.slice none 0 0], []⟩ 8 (by kernel_rfl) (by kernel_rfl) (by kernel_rfl) (by kernel_rfl)) ?_
  intro W base args ds gs before hval0 hW hcnd _
  have hval : ∀ (j : Nat) t v, Try.f6.params[j]? = some t → args[j]? = some v → Value.okWide Try.prog W .any base t v := hval0
  have hW' := hW
  obtain ⟨p, q, hA0, hV, rfl, hfz, hnd⟩ := hW
  have hA : DataW.TrodAll enc Try.prog W 0 (fun _ => true) true Try.f6.params.toList args.toList ds p := hA0
  rw [Try.params6] at hA hval
  obtain ⟨v0, vs0, d0, ds0, p0, q0, hargs, rfl, rfl, h0, r0⟩ := trodAll_cons hA
  obtain ⟨rfl, rfl, rfl⟩ := trodAll_nil r0
  obtain rfl : args = #[v0] := by cases args; simp_all
  obtain ⟨rfl, rfl⟩ := trodVars_none hV
  have k0 := h0
  have lt0 : ∀ x ∈ p0, x.block < W.heap.size := by obtain ⟨m, hm⟩ := k0; exact DataW.trod_lt m _ _ _ hm
  obtain ⟨a0, n0, c0, rfl, w0⟩ := open_code (hval 0 48 v0 rfl rfl) h0
  clear hA0 hval0
  refine (walk_FnHoldTime a0 n0 c0 W w0).mono fun e W' ⟨he, bel⟩ => ?_
  subst he
  exact ⟨_, rfl, _, _, _, [], _, [], hW', trodAll_mk1 (shut_bool Try.underlying4 _), (trodAll_cons_mk (Below.trod laidOut (by kernel_rfl) (of_decide_eq_true (by kernel_rfl)) k0 bel lt0) trodAll_mk0), rfl, bel.frame _, fun h => by cases h⟩

theorem over : Rows.fnHoldTimeRow.holds Try.pinned (OpenSpec.ofChange Rows.fnHoldTimeSpec) :=
  OpenClaim.holds_of_wide 6 Try.f6 rfl rfl rfl rfl rfl rfl rfl ⟨rfl, rfl, rfl, rfl, rfl⟩ rfl rfl rfl rfl rfl (by kernel_rfl) Try.func6 (by kernel_rfl)
    (of_decide_eq_true (by kernel_rfl)) (by unfold Func.isWrapper; first | (rw [if_pos (by decide +kernel)]; kernel_rfl) | (rw [if_neg (by decide +kernel)]; exact ⟨rfl, rfl⟩))
    (fun os started H enc _ => lifted os started H enc)

/-- The statement. -/
theorem proved : Rows.FnHoldTimeSaid := over
#print axioms proved
end Go.Proofs.Ytegdogamenoaiaa.fnHoldTime
