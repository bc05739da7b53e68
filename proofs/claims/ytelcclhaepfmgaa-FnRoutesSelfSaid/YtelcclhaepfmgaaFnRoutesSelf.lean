/- The law FnRoutesSelf of the program is true at every input: the call returns true, and each argument reads behind the call as before. Conditions: none. -/
import Derived.Test.YtelcclhaepfmgaaRly
import Derived.WalkKit
import Derived.ProofKit
import Derived.OpenShut
import Derived.ShutString
import Derived.ChangeOld
import Derived.Below
import Derived.IntWalk
import Derived.Deep.DeepCutAuto
namespace Go.Proofs.Ytelcclhaepfmgaa
open Go.RowKit
set_option linter.unusedVariables false
set_option linter.unusedSimpArgs false

set_option maxRecDepth 100000 in
set_option maxHeartbeats 16000000 in
theorem walk_FnRoutesSelf (A : Option Addr) (n c : Nat) (w : World) (h : IsInts .u8 w A n c) :
    Calls Try.prog 11 #[.slice A n c] w fun e w' => e = .returned (.bool true) ∧ Below w.heap.size w w' := by
  have H := Lib.hid h
  clear h
  by_cases hn0 : 1048576 < n
  · go_enter Try.func11, Try.ntmps11
    go_wp2_with fail
    go_ret
    exact ⟨rfl, Below.refl _ _⟩
  · have hn : n ≤ 1048576 := by omega
    clear hn0
    go_enter Try.func11, Try.ntmps11
    go_wp2_with fail
    refine (draw_rmr w A n c H.out hn).mono ?_
    intro e w1 hm
    obtain ⟨B1, c1, n1, M1, v, hnf, hO1, hn6, hbd, ⟨id, rfl⟩, rfl, hb1⟩ := hm.norm
    have NF := Lib.hid hnf
    have RL_1 := Lib.hid hO1
    have BD := Lib.hid hbd
    have HB1 := Lib.hid hb1
    have hz1 := hb1.size
    have hnn : n1 ≤ 1048576 := by omega
    have hnc : n1 ≤ c1 := own_leR hO1.row
    clear hm hnf hO1 hbd hb1
    obtain ⟨q, hq⟩ : ∃ q, (routeL n1 (plain M1) id).length = q := ⟨_, rfl⟩
    have hi := fun W (hW : RmO w.heap.size B1 n1 c1 M1 W) => irt_any W w.heap.size W.heap.size B1 n1 c1 M1 id hW.room (Nat.le_refl _) hnn BD.out
    have hs := fun W (hW : RmO w.heap.size B1 n1 c1 M1 W) => srt_any W w.heap.size W.heap.size B1 n1 c1 M1 id hW.room (Nat.le_refl _) hnn BD.out
    unfold IntsRet at hi hs
    rw [hq] at hi hs
    have HI := Lib.hid hi
    have HS := Lib.hid hs
    have HQ := Lib.hid hq
    have hq6 : q ≤ 6 := by
      rw [← hq]
      unfold routeL
      split
      · have := rtL_len (plain M1) id n1
        omega
      · simp
    clear hi hs hq
    go_wp2_with fail
    refine (HI.out _ RL_1.out).mono ?_
    rintro e w2 ⟨B2, c2, hO2, rfl, hb2⟩
    have Zn2 := Lib.hid hO2
    clear hO2
    have RL_2 := Lib.hid (RL_1.out.below hb2)
    have HB2 := Lib.hid (HB1.out.trans (hb2.mono HB1.out.size))
    have hz2 : w1.heap.size ≤ w2.heap.size := hb2.size
    clear hb2 HB1 RL_1
    have ZO_2 := Zn2
    clear Zn2
    go_wp2_with fail
    refine (HS.out _ RL_2.out).mono ?_
    rintro e w3 ⟨B3, c3, hO3, rfl, hb3⟩
    have Zn3 := Lib.hid hO3
    clear hO3
    have RL_3 := Lib.hid (RL_2.out.below hb3)
    have ZO_3 := Lib.hid ((ZO_2.out.below (Nat.le_refl _) hb3).wide (Nat.le_refl _) hb3.size)
    have HB3 := Lib.hid (HB2.out.trans (hb3.mono HB2.out.size))
    have hz3 : w2.heap.size ≤ w3.heap.size := hb3.size
    clear hb3 HB2 RL_2 ZO_2
    have ZW_3 := Zn3
    clear Zn3
    go_wp2_with fail
    refine (sameInts_same _ (ZO_3.out.ints) (ZW_3.out.ints) (Nat.le_refl _) (Nat.le_refl _) (by omega)).mono ?_
    rintro e w4 ⟨rfl, hb4⟩
    have RL_4 := Lib.hid (RL_3.out.below hb4)
    have ZO_4 := Lib.hid ((ZO_3.out.below (Nat.le_refl _) hb4).wide (Nat.le_refl _) hb4.size)
    have ZW_4 := Lib.hid ((ZW_3.out.below (Nat.le_refl _) hb4).wide (Nat.le_refl _) hb4.size)
    have HB4 := Lib.hid (HB3.out.trans (hb4.mono HB3.out.size))
    have hz4 : w3.heap.size ≤ w4.heap.size := hb4.size
    clear hb4 HB3 RL_3 ZO_3  ZW_3
    by_cases hq0 : q = 0
    rotate_left
    · have hlv : leaveOk n1 (plain M1) id := rs_leave (by rw [HQ.out]; exact hq0)
      have hqb : ((q : Int) == 0) = false := by simpa using hq0
      have hl := fun W (hW : RmO w.heap.size B1 n1 c1 M1 W) => ilv_g (c := c1) id hW.room (Nat.le_refl _) hnn BD.out
      rw [if_pos hlv, decide_eq_true hlv] at hl
      have HLV := Lib.hid hlv
      obtain ⟨m, hm⟩ : ∃ m, n1 - 1 = m := ⟨_, rfl⟩
      have hlf := leaveF_ok hlv
      have hno := rs_none hlv
      rw [hm] at hl hlf hno
      have HLF := Lib.hid hlf
      have HNO := Lib.hid hno
      have hm6 : m ≤ 6 := by omega
      have hself := routeL_self (n := n1) (r := plain M1) (v := id)
      rw [HQ.out] at hself
      have HSF := Lib.hid hself
      have HL := Lib.hid hl
      clear hl hlf hno hself hlv hm hq0
      go_wp2_with fail
      refine (HL.out _ RL_4.out).mono ?_
      rintro e w5 ⟨B5, c5, M5, he5, hO5, rfl, hb5⟩
      have EX := Lib.hid he5
      have Rn5 := Lib.hid hO5
      clear he5 hO5
      have RL_5 := Lib.hid (RL_4.out.below hb5)
      have ZO_5 := Lib.hid ((ZO_4.out.below (Nat.le_refl _) hb5).wide (Nat.le_refl _) hb5.size)
      have ZW_5 := Lib.hid ((ZW_4.out.below (Nat.le_refl _) hb5).wide (Nat.le_refl _) hb5.size)
      have HB5 := Lib.hid (HB4.out.trans (hb5.mono HB4.out.size))
      have hz5 : w4.heap.size ≤ w5.heap.size := hb5.size
      clear hb5 HB4 RL_4 ZO_4  ZW_4
      have RX_5 := Rn5
      clear Rn5
      have hh := hasInt_any w5 w1.heap.size w5.heap.size B2 q c2 id _ ZO_5.out.ints (Nat.le_refl _) (by omega)
      rw [HSF.out] at hh
      have HH := Lib.hid hh
      clear hh
      go_wp2_with fail
      refine (HH.out).mono ?_
      rintro e w6 ⟨rfl, hb6⟩
      have RL_6 := Lib.hid (RL_5.out.below hb6)
      have RX_6 := Lib.hid (RX_5.out.below hb6)
      have ZO_6 := Lib.hid ((ZO_5.out.below (Nat.le_refl _) hb6).wide (Nat.le_refl _) hb6.size)
      have ZW_6 := Lib.hid ((ZW_5.out.below (Nat.le_refl _) hb6).wide (Nat.le_refl _) hb6.size)
      have HB6 := Lib.hid (HB5.out.trans (hb6.mono HB5.out.size))
      have hz6 : w5.heap.size ≤ w6.heap.size := hb6.size
      clear hb6 HB5 RL_5 RX_5 ZO_5  ZW_5
      have hx := irt_any w6 w4.heap.size w6.heap.size B5 m c5 M5 id RX_6.out.room (Nat.le_refl _) (by omega) (few_ok EX.out HLF.out)
      unfold IntsRet at hx
      rw [EX.out, HNO.out] at hx
      have HXX := Lib.hid hx
      clear hx
      go_wp2_with fail
      refine HXX.out.mono ?_
      rintro e w7 ⟨B7, c7, hO7, rfl, hb7⟩
      clear hO7
      have RL_7 := Lib.hid (RL_6.out.below hb7)
      have RX_7 := Lib.hid (RX_6.out.below hb7)
      have ZO_7 := Lib.hid ((ZO_6.out.below (Nat.le_refl _) hb7).wide (Nat.le_refl _) hb7.size)
      have ZW_7 := Lib.hid ((ZW_6.out.below (Nat.le_refl _) hb7).wide (Nat.le_refl _) hb7.size)
      have HB7 := Lib.hid (HB6.out.trans (hb7.mono HB6.out.size))
      have hz7 : w6.heap.size ≤ w7.heap.size := hb7.size
      clear hb7 HB6 RL_6 RX_6 ZO_6  ZW_6
      go_wp2_with fail
      go_ret
      go_light
      exact ⟨rfl, HB7.out⟩
    subst hq0
    go_wp2_with fail
    refine (sameInts_same _ (ZO_4.out.ints) (ZW_4.out.ints) (Nat.le_refl _) (Nat.le_refl _) (by omega)).mono ?_
    rintro e w5 ⟨rfl, hb5⟩
    have RL_5 := Lib.hid (RL_4.out.below hb5)
    have ZO_5 := Lib.hid ((ZO_4.out.below (Nat.le_refl _) hb5).wide (Nat.le_refl _) hb5.size)
    have ZW_5 := Lib.hid ((ZW_4.out.below (Nat.le_refl _) hb5).wide (Nat.le_refl _) hb5.size)
    have HB5 := Lib.hid (HB4.out.trans (hb5.mono HB4.out.size))
    have hz5 : w4.heap.size ≤ w5.heap.size := hb5.size
    clear hb5 HB4 RL_4 ZO_4  ZW_4
    go_wp2_with fail
    go_ret
    go_light
    exact ⟨rfl, HB5.out⟩

end Go.Proofs.Ytelcclhaepfmgaa
namespace Go.Proofs.Ytelcclhaepfmgaa.fnRoutesSelf
open Go.ChangeShapes Go.WideShapes Go.ChangeAt Go.RowKit
set_option linter.unusedVariables false

theorem own : ownKnob Try.prog.godebug = none := by kernel_rfl
theorem laidOut : laidOutB Try.prog = true := by kernel_rfl

set_option maxRecDepth 100000 in
theorem lifted (os : Os) (started : os.Started) (H : Type) (enc : TypeId × Value → H) :
    ReturnsInHanded {} Try.checked os 11 .any (Rows.fnRoutesSelfSpec.pre6 enc Try.prog Try.f11 Rows.fnRoutesSelfRow.domain false) (Rows.fnRoutesSelfSpec.post enc Try.prog Try.f11 false true false false) := by
  refine returnsInHanded_of_change (C := Try.checked) own started (by kernel_rfl) Try.func11
    (ChangeSpec.witness6 (enc := enc) (C := Try.checked) false ⟨#[], #[.slice none 0 0], []⟩ 8 (by kernel_rfl) (by kernel_rfl) (by kernel_rfl) (by kernel_rfl)) ?_
  intro W base args ds gs before hval0 hW hcnd _
  have hval : ∀ (j : Nat) t v, Try.f11.params[j]? = some t → args[j]? = some v → Value.okWide Try.prog W .any base t v := hval0
  have hW' := hW
  obtain ⟨p, q, hA0, hV, rfl, hfz, hnd⟩ := hW
  have hA : DataW.TrodAll enc Try.prog W 0 (fun _ => true) true Try.f11.params.toList args.toList ds p := hA0
  rw [Try.params11] at hA hval
  obtain ⟨v0, vs0, d0, ds0, p0, q0, hargs, rfl, rfl, h0, r0⟩ := trodAll_cons hA
  obtain ⟨rfl, rfl, rfl⟩ := trodAll_nil r0
  obtain rfl : args = #[v0] := by cases args; simp_all
  obtain ⟨rfl, rfl⟩ := trodVars_none hV
  have k0 := h0
  have lt0 : ∀ x ∈ p0, x.block < W.heap.size := by obtain ⟨m, hm⟩ := k0; exact DataW.trod_lt m _ _ _ hm
  obtain ⟨a0, n0, c0, rfl, w0⟩ := open_code (hval 0 22 v0 rfl rfl) h0
  clear hA0 hval0
  refine (walk_FnRoutesSelf a0 n0 c0 W w0).mono fun e W' ⟨he, bel⟩ => ?_
  subst he
  exact ⟨_, rfl, _, _, _, [], _, [], hW', trodAll_mk1 (shut_bool Try.underlying4 _), (trodAll_cons_mk (Below.trod laidOut (by kernel_rfl) (of_decide_eq_true (by kernel_rfl)) k0 bel lt0) trodAll_mk0), rfl, bel.frame _, fun h => by cases h⟩

theorem over : Rows.fnRoutesSelfRow.holds Try.pinned (OpenSpec.ofChange Rows.fnRoutesSelfSpec) :=
  OpenClaim.holds_of_wide 11 Try.f11 rfl rfl rfl rfl rfl rfl rfl ⟨rfl, rfl, rfl, rfl, rfl⟩ rfl rfl rfl rfl rfl (by kernel_rfl) Try.func11 (by kernel_rfl)
    (of_decide_eq_true (by kernel_rfl)) (by unfold Func.isWrapper; first | (rw [if_pos (by decide +kernel)]; kernel_rfl) | (rw [if_neg (by decide +kernel)]; exact ⟨rfl, rfl⟩))
    (fun os started H enc _ => lifted os started H enc)

/-- The statement. -/
theorem proved : Rows.FnRoutesSelfSaid := over
#print axioms proved
end Go.Proofs.Ytelcclhaepfmgaa.fnRoutesSelf
