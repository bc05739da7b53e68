/- The law FnAddWrap of the program is true at every input: the call returns true, and each argument reads behind the call as before. Conditions: none. -/
import Derived.Test.YtlbnipcdkfonpaaDrw
import Derived.Test.YtlbnipcdkfonpaaOpen
import Derived.WalkKit
import Derived.ProofKit
import Derived.OpenShut
import Derived.ShutString
import Derived.ChangeOld
import Derived.Below
namespace Go.Proofs.Ytlbnipcdkfonpaa
open Go.RowKit
set_option linter.unusedVariables false
set_option linter.unusedSimpArgs false

set_option maxHeartbeats 1000000 in
theorem walk_FnAddWrap (A : Option Addr) (n c : Nat) (w : World) (h : IsInts .u8 w A n c) :
    Calls Try.prog 5 #[.slice A n c] w fun e w' => e = .returned (.bool true) ∧ Below w.heap.size w w' := by
  have H := Lib.hid h
  clear h
  by_cases hn0 : 1048576 < n
  · go_enter Try.func5, Try.ntmps5
    go_wp2_with fail
    go_ret
    exact ⟨rfl, Below.refl _ _⟩
  · have hn : n ≤ 1048576 := by omega
    clear hn0
    go_enter Try.func5, Try.ntmps5
    go_wp2_with fail
    refine (draw_add _ A n c (H.out.below (by repeat (first | (with_reducible exact Below.refl _ _) | (with_reducible refine Bal ?_ _) | (with_reducible refine Below.drew ?_) | (with_reducible refine below_drewN ?_ _) | (with_reducible refine Bset ?_ ?_ _; (first | (with_reducible exact Nat.le_refl _) | (simp; done) | (simp; omega) | omega)) | (with_reducible refine Bt ?_ (by assumption)) | (with_reducible refine Bp (g := g) ?_ (by assumption) (by assumption))))) hn).mono ?_
    rintro e w1 ⟨a, m, hm, rfl, hb1⟩
    obtain ⟨hc1, hf1⟩ := bcell hb1
    have hy1 := hb1.size
    try simp at hy1
    by_cases ha : OkS a
    · have hy := fun W : World => iadd_any a m W hm
      have hs := fun W : World => sadd_any a m W
      have hv : addF a m = (a + m) % 65536 := addF_yes ha.1 (by have := ha.2; omega)
      rw [hv] at hy hs
      have y0 : 0 ≤ (a + m) % 65536 := by omega
      have y1 : (a + m) % 65536 < 65536 := by omega
      have hz := fun W : World => iadd_any a (wrap64 (m + 65536)) W (w64_in _)
      rw [show addF a (wrap64 (m + 65536)) = (a + m) % 65536 by rw [addF_yes ha.1 (by have := ha.2; omega)]; unfold wrap64; omega] at hz
      have HZ := Lib.hid hz
      clear hz
      have hk := fun W : World => iadd_any a (wrap64 (m + 1)) W (w64_in _)
      rw [show addF a (wrap64 (m + 1)) = ((a + m) % 65536 + 1) % 65536 by rw [addF_yes ha.1 (by have := ha.2; omega)]; unfold wrap64; omega] at hk
      have HK := Lib.hid hk
      clear hk
      generalize hyy : (a + m) % 65536 = y at *
      have HY := Lib.hid hy
      have HS := Lib.hid hs
      have HE := Lib.hid hyy
      clear hy hs hv hyy
      have HA := Lib.hid ha
      clear ha
      go_wp2_with fail
      refine (HY.out _).mono ?_
      rintro e w' ⟨rfl, rfl⟩
      go_wp2_with fail
      refine (HS.out _).mono ?_
      rintro e w' ⟨rfl, rfl⟩
      have ht : (y + 1).tmod 65536 = (y + 1) % 65536 := Int.tmod_eq_emod_of_nonneg (by omega)
      go_wp2_with fail
      refine (HZ.out _).mono ?_
      rintro e w' ⟨rfl, rfl⟩
      go_wp2_with fail
      refine (HK.out _).mono ?_
      rintro e w' ⟨rfl, rfl⟩
      go_wp2_with fail
      go_ret
      go_light
      refine ⟨ret_bool ?_, ?_⟩
      · simp
      repeat (first | (with_reducible exact Below.refl _ _) | (with_reducible refine Bal ?_ _) | (with_reducible refine Below.drew ?_) | (with_reducible refine below_drewN ?_ _) | (with_reducible refine Bset ?_ ?_ _; (first | (with_reducible exact Nat.le_refl _) | (simp; done) | (simp; omega) | omega)) | (with_reducible refine Bt ?_ (by assumption)) | (with_reducible refine Bp (g := g) ?_ (by assumption) (by assumption)))
    · have hy := fun W : World => iadd_any a m W hm
      have hs := fun W : World => sadd_any a m W
      have hv : addF a m = -1 := addF_no (by unfold OkS at ha; omega)
      rw [hv] at hy hs
      have HY := Lib.hid hy
      have HS := Lib.hid hs
      clear hy hs hv ha
      go_wp2_with fail
      refine (HY.out _).mono ?_
      rintro e w' ⟨rfl, rfl⟩
      go_wp2_with fail
      refine (HS.out _).mono ?_
      rintro e w' ⟨rfl, rfl⟩
      go_wp2_with fail
      go_ret
      go_light
      refine ⟨rfl, ?_⟩
      repeat (first | (with_reducible exact Below.refl _ _) | (with_reducible refine Bal ?_ _) | (with_reducible refine Below.drew ?_) | (with_reducible refine below_drewN ?_ _) | (with_reducible refine Bset ?_ ?_ _; (first | (with_reducible exact Nat.le_refl _) | (simp; done) | (simp; omega) | omega)) | (with_reducible refine Bt ?_ (by assumption)) | (with_reducible refine Bp (g := g) ?_ (by assumption) (by assumption)))

end Go.Proofs.Ytlbnipcdkfonpaa
namespace Go.Proofs.Ytlbnipcdkfonpaa.fnAddWrap
open Go.ChangeShapes Go.WideShapes Go.ChangeAt Go.RowKit
set_option linter.unusedVariables false

theorem own : ownKnob Try.prog.godebug = none := by kernel_rfl
theorem laidOut : laidOutB Try.prog = true := by kernel_rfl

set_option maxRecDepth 100000 in
theorem lifted (os : Os) (started : os.Started) (H : Type) (enc : TypeId × Value → H) :
    ReturnsInHanded {} Try.checked os 5 .any (Rows.fnAddWrapSpec.pre6 enc Try.prog Try.f5 Rows.fnAddWrapRow.domain false) (Rows.fnAddWrapSpec.post enc Try.prog Try.f5 false true false false) := by
  refine returnsInHanded_of_change (C := Try.checked) own started (by kernel_rfl) Try.func5
    (ChangeSpec.witness6 (enc := enc) (C := Try.checked) false ⟨#[], #[.slice none 0 0], []⟩ 8 (by kernel_rfl) (by kernel_rfl) (by kernel_rfl) (by kernel_rfl)) ?_
  intro W base args ds gs before hval0 hW hcnd _
  have hval : ∀ (j : Nat) t v, Try.f5.params[j]? = some t → args[j]? = some v → Value.okWide Try.prog W .any base t v := hval0
  have hW' := hW
  obtain ⟨p, q, hA0, hV, rfl, hfz, hnd⟩ := hW
  have hA : DataW.TrodAll enc Try.prog W 0 (fun _ => true) true Try.f5.params.toList args.toList ds p := hA0
  rw [Try.params5] at hA hval
  obtain ⟨v0, vs0, d0, ds0, p0, q0, hargs, rfl, rfl, h0, r0⟩ := trodAll_cons hA
  obtain ⟨rfl, rfl, rfl⟩ := trodAll_nil r0
  obtain rfl : args = #[v0] := by cases args; simp_all
  obtain ⟨rfl, rfl⟩ := trodVars_none hV
  have k0 := h0
  have lt0 : ∀ x ∈ p0, x.block < W.heap.size := by obtain ⟨m, hm⟩ := k0; exact DataW.trod_lt m _ _ _ hm
  obtain ⟨a0, n0, c0, rfl, w0⟩ := open_code (hval 0 22 v0 rfl rfl) h0
  clear hA0 hval0
  refine (walk_FnAddWrap a0 n0 c0 W w0).mono fun e W' ⟨he, bel⟩ => ?_
  subst he
  exact ⟨_, rfl, _, _, _, [], _, [], hW', trodAll_mk1 (shut_bool Try.underlying4 _), (trodAll_cons_mk (Below.trod laidOut (by kernel_rfl) (of_decide_eq_true (by kernel_rfl)) k0 bel lt0) trodAll_mk0), rfl, bel.frame _, fun h => by cases h⟩

theorem over : Rows.fnAddWrapRow.holds Try.pinned (OpenSpec.ofChange Rows.fnAddWrapSpec) :=
  OpenClaim.holds_of_wide 5 Try.f5 rfl rfl rfl rfl rfl rfl rfl ⟨rfl, rfl, rfl, rfl, rfl⟩ rfl rfl rfl rfl rfl (by kernel_rfl) Try.func5 (by kernel_rfl)
    (of_decide_eq_true (by kernel_rfl)) (by unfold Func.isWrapper; first | (rw [if_pos (by decide +kernel)]; kernel_rfl) | (rw [if_neg (by decide +kernel)]; exact ⟨rfl, rfl⟩))
    (fun os started H enc _ => lifted os started H enc)

/-- The statement. -/
theorem proved : Rows.FnAddWrapSaid := over
#print axioms proved
end Go.Proofs.Ytlbnipcdkfonpaa.fnAddWrap
