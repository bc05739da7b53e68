/- The law FnExactDemandsValid of the program is true at every input: the call returns true, and each argument reads behind the call as before. Conditions: none. -/
import Derived.Test.YtndcnnpbeefmoaaOpd
import Derived.WalkKit
import Derived.ProofKit
import Derived.OpenShut
import Derived.ShutString
import Derived.ChangeOld
import Derived.Below
namespace Go.Proofs.Ytndcnnpbeefmoaa
open Go.RowKit
set_option linter.unusedVariables false
set_option linter.unusedSimpArgs false

set_option maxHeartbeats 4000000 in
theorem walk_FnExactDemandsValid (A : Option Addr) (n c : Nat) (p : Nat → Dm) (w : World) (h : RowAt w 0 w.heap.size A n 4 (DmF p)) (hm : n ≤ maxLen) :
    Calls Try.prog 4 #[.slice A n c] w fun e w' => e = .returned (.bool true) ∧ Below w.heap.size w w' := by
  unfold maxLen at hm
  have H := Lib.hid h
  clear h
  by_cases hn0 : 1048576 < n
  · have HZ := Lib.hid fun W : World => szDmS_out W A n c hn0 hm
    go_enter Try.func4, Try.ntmps4
    go_wp2_with fail
    refine (HZ.out _).mono ?_
    rintro e w' ⟨rfl, rfl⟩
    go_wp2_with fail
    go_ret
    exact ⟨rfl, Below.refl _ _⟩
  · have hn : n ≤ 1048576 := by omega
    clear hn0 hm
    have HZ := Lib.hid fun W : World => szDmS_in W A n c hn
    have HI := Lib.hid fun (W : World) lo hi A c h hh => idms_any W lo hi A n c p h hh hn
    have HS := Lib.hid fun (W : World) lo hi A c h hh => sdms_any W lo hi A n c p h hh hn
    generalize dmsB n p = B at *
    go_enter Try.func4, Try.ntmps4
    go_wp2_with fail
    refine (HZ.out _).mono ?_
    rintro e w' ⟨rfl, rfl⟩
    go_wp2_with fail
    refine (toDmS_any _ 0 w.heap.size A n c p (H.out.below (Nat.le_refl _) (by repeat (first | (with_reducible exact Below.refl _ _) | (with_reducible refine Bal ?_ _) | (with_reducible refine Below.drew ?_) | (with_reducible refine below_drewN ?_ _) | (with_reducible refine Bset ?_ ?_ _; focus (first | (with_reducible exact Nat.le_refl _) | (simp; done) | (simp; omega) | omega)) | (with_reducible refine Bt ?_ (by assumption)) | (with_reducible refine Bp (g := g) ?_ (by assumption) (by assumption))))) (by first | exact Nat.le_refl _ | (simp; done) | (simp; omega) | omega) hn).mono ?_
    rintro e w1 ⟨A1, c1, hO1, rfl, hb1⟩
    obtain ⟨hc1, hf1⟩ := bcell hb1
    have hy1 := hb1.size
    try simp at hy1
    go_wp2_with fail
    refine (HS.out _ _ _ _ _ (hO1.row.below (Nat.le_refl _) (by repeat (first | (with_reducible exact Below.refl _ _) | (with_reducible refine Bal ?_ _) | (with_reducible refine Below.drew ?_) | (with_reducible refine below_drewN ?_ _) | (with_reducible refine Bset ?_ ?_ _; focus (first | (with_reducible exact Nat.le_refl _) | (simp; done) | (simp; omega) | omega)) | (with_reducible refine Bt ?_ (by assumption)) | (with_reducible refine Bp (g := g) ?_ (by assumption) (by assumption))))) (by first | exact Nat.le_refl _ | (simp; done) | (simp; omega) | omega)).mono ?_
    rintro e w2 ⟨rfl, hb2⟩
    obtain ⟨hc2, hf2⟩ := bcell hb2
    have hy2 := hb2.size
    try simp at hy2
    first | (have hz2 : w.heap.size < w2.heap.size := by (have := hb2.size; (try simp at this); omega)) | skip
    go_wp2_with fail
    refine (toDmS_any _ 0 w.heap.size A n c p (H.out.below (Nat.le_refl _) (by repeat (first | (with_reducible exact Below.refl _ _) | (with_reducible refine Bal ?_ _) | (with_reducible refine Below.drew ?_) | (with_reducible refine below_drewN ?_ _) | (with_reducible refine Bset ?_ ?_ _; focus (first | (with_reducible exact Nat.le_refl _) | (simp; done) | (simp; omega) | omega)) | (with_reducible refine Bt ?_ (by assumption)) | (with_reducible refine Bp (g := g) ?_ (by assumption) (by assumption))))) (by first | exact Nat.le_refl _ | (simp; done) | (simp; omega) | omega) hn).mono ?_
    rintro e w3 ⟨A3, c3, hO3, rfl, hb3⟩
    obtain ⟨hc3, hf3⟩ := bcell hb3
    have hy3 := hb3.size
    try simp at hy3
    go_wp2_with fail
    refine (HI.out _ _ _ _ _ (hO3.row.below (Nat.le_refl _) (by repeat (first | (with_reducible exact Below.refl _ _) | (with_reducible refine Bal ?_ _) | (with_reducible refine Below.drew ?_) | (with_reducible refine below_drewN ?_ _) | (with_reducible refine Bset ?_ ?_ _; focus (first | (with_reducible exact Nat.le_refl _) | (simp; done) | (simp; omega) | omega)) | (with_reducible refine Bt ?_ (by assumption)) | (with_reducible refine Bp (g := g) ?_ (by assumption) (by assumption))))) (by first | exact Nat.le_refl _ | (simp; done) | (simp; omega) | omega)).mono ?_
    rintro e w4 ⟨rfl, hb4⟩
    obtain ⟨hc4, hf4⟩ := bcell hb4
    have hy4 := hb4.size
    try simp at hy4
    first | (have hz4 : w.heap.size < w4.heap.size := by (have := hb4.size; (try simp at this); omega)) | skip
    go_wp2_with fail
    refine (toDmS_any _ 0 w.heap.size A n c p (H.out.below (Nat.le_refl _) (by repeat (first | (with_reducible exact Below.refl _ _) | (with_reducible refine Bal ?_ _) | (with_reducible refine Below.drew ?_) | (with_reducible refine below_drewN ?_ _) | (with_reducible refine Bset ?_ ?_ _; focus (first | (with_reducible exact Nat.le_refl _) | (simp; done) | (simp; omega) | omega)) | (with_reducible refine Bt ?_ (by assumption)) | (with_reducible refine Bp (g := g) ?_ (by assumption) (by assumption))))) (by first | exact Nat.le_refl _ | (simp; done) | (simp; omega) | omega) hn).mono ?_
    rintro e w5 ⟨A5, c5, hO5, rfl, hb5⟩
    obtain ⟨hc5, hf5⟩ := bcell hb5
    have hy5 := hb5.size
    try simp at hy5
    go_wp2_with fail
    refine (eqDmS_same _ (hO3.row.below (Nat.le_refl _) (by repeat (first | (with_reducible exact Below.refl _ _) | (with_reducible refine Bal ?_ _) | (with_reducible refine Below.drew ?_) | (with_reducible refine below_drewN ?_ _) | (with_reducible refine Bset ?_ ?_ _; focus (first | (with_reducible exact Nat.le_refl _) | (simp; done) | (simp; omega) | omega)) | (with_reducible refine Bt ?_ (by assumption)) | (with_reducible refine Bp (g := g) ?_ (by assumption) (by assumption))))) (hO5.row.below (Nat.le_refl _) (by repeat (first | (with_reducible exact Below.refl _ _) | (with_reducible refine Bal ?_ _) | (with_reducible refine Below.drew ?_) | (with_reducible refine below_drewN ?_ _) | (with_reducible refine Bset ?_ ?_ _; focus (first | (with_reducible exact Nat.le_refl _) | (simp; done) | (simp; omega) | omega)) | (with_reducible refine Bt ?_ (by assumption)) | (with_reducible refine Bp (g := g) ?_ (by assumption) (by assumption))))) (by first | exact Nat.le_refl _ | (simp; done) | (simp; omega) | omega) (by first | exact Nat.le_refl _ | (simp; done) | (simp; omega) | omega) hn).mono ?_
    rintro e w6 ⟨rfl, hb6⟩
    obtain ⟨hc6, hf6⟩ := bcell hb6
    have hy6 := hb6.size
    try simp at hy6
    first | (have hz6 : w.heap.size < w6.heap.size := by (have := hb6.size; (try simp at this); omega)) | skip
    go_wp2_with fail
    go_ret
    go_light
    refine ⟨rfl, ?_⟩
    repeat (first | (with_reducible exact Below.refl _ _) | (with_reducible refine Bal ?_ _) | (with_reducible refine Below.drew ?_) | (with_reducible refine below_drewN ?_ _) | (with_reducible refine Bset ?_ ?_ _; focus (first | (with_reducible exact Nat.le_refl _) | (simp; done) | (simp; omega) | omega)) | (with_reducible refine Bt ?_ (by assumption)) | (with_reducible refine Bp (g := g) ?_ (by assumption) (by assumption)))

end Go.Proofs.Ytndcnnpbeefmoaa
namespace Go.Proofs.Ytndcnnpbeefmoaa.fnExactDemandsValid
open Go.ChangeShapes Go.WideShapes Go.ChangeAt Go.RowKit
set_option linter.unusedVariables false

theorem own : ownKnob Try.prog.godebug = none := by kernel_rfl
theorem laidOut : laidOutB Try.prog = true := by kernel_rfl

set_option maxRecDepth 100000 in
theorem lifted (os : Os) (started : os.Started) (H : Type) (enc : TypeId × Value → H) :
    ReturnsInHanded {} Try.checked os 4 .any (Rows.fnExactDemandsValidSpec.pre6 enc Try.prog Try.f4 Rows.fnExactDemandsValidRow.domain false) (Rows.fnExactDemandsValidSpec.post enc Try.prog Try.f4 false true false false) := by
  refine returnsInHanded_of_change (C := Try.checked) own started (by kernel_rfl) Try.func4
    (ChangeSpec.witness6 (enc := enc) (C := Try.checked) false ⟨#[], #[.slice none 0 0], []⟩ 8 (by kernel_rfl) (by kernel_rfl) (by kernel_rfl) (by kernel_rfl)) ?_
  intro W base args ds gs before hval0 hW hcnd _
  have hval : ∀ (j : Nat) t v, Try.f4.params[j]? = some t → args[j]? = some v → Value.okWide Try.prog W .any base t v := hval0
  have hW' := hW
  obtain ⟨p, q, hA0, hV, rfl, hfz, hnd⟩ := hW
  have hA : DataW.TrodAll enc Try.prog W 0 (fun _ => true) true Try.f4.params.toList args.toList ds p := hA0
  rw [Try.params4] at hA hval
  obtain ⟨v0, vs0, d0, ds0, p0, q0, hargs, rfl, rfl, h0, r0⟩ := trodAll_cons hA
  obtain ⟨rfl, rfl, rfl⟩ := trodAll_nil r0
  obtain rfl : args = #[v0] := by cases args; simp_all
  obtain ⟨rfl, rfl⟩ := trodVars_none hV
  have k0 := h0
  have lt0 : ∀ x ∈ p0, x.block < W.heap.size := by obtain ⟨m, hm⟩ := k0; exact DataW.trod_lt m _ _ _ hm
  obtain ⟨a0, n0, c0, z0, rfl, w0, l0⟩ := open_demands (hval 0 29 v0 rfl rfl) h0
  clear hA0 hval0
  refine (walk_FnExactDemandsValid a0 n0 c0 z0 W w0 l0).mono fun e W' ⟨he, bel⟩ => ?_
  subst he
  exact ⟨_, rfl, _, _, _, [], _, [], hW', trodAll_mk1 (shut_bool Try.underlying4 _), (trodAll_cons_mk (Below.trod laidOut (by kernel_rfl) (of_decide_eq_true (by kernel_rfl)) k0 bel lt0) trodAll_mk0), rfl, bel.frame _, fun h => by cases h⟩

theorem over : Rows.fnExactDemandsValidRow.holds Try.pinned (OpenSpec.ofChange Rows.fnExactDemandsValidSpec) :=
  OpenClaim.holds_of_wide 4 Try.f4 rfl rfl rfl rfl rfl rfl rfl ⟨rfl, rfl, rfl, rfl, rfl⟩ rfl rfl rfl rfl rfl (by kernel_rfl) Try.func4 (by kernel_rfl)
    (of_decide_eq_true (by kernel_rfl)) (by unfold Func.isWrapper; first | (rw [if_pos (by decide +kernel)]; kernel_rfl) | (rw [if_neg (by decide +kernel)]; exact ⟨rfl, rfl⟩))
    (fun os started H enc _ => lifted os started H enc)

/-- The statement. -/
theorem proved : Rows.FnExactDemandsValidSaid := over
#print axioms proved
end Go.Proofs.Ytndcnnpbeefmoaa.fnExactDemandsValid
