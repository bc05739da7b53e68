/- The law FnRoomHearBack of the program is true at every input: the call returns true, and each argument reads behind the call as before. Conditions: none. -/
import Derived.Test.YtelcclhaepfmgaaRlx
import Derived.WalkKit
import Derived.ProofKit
import Derived.OpenShut
import Derived.ShutString
import Derived.ChangeOld
import Derived.Below
import Derived.IntWalk
import Derived.Deep.DeepCutAuto
namespace Go.Proofs.Ytelcclhaepfmgaa
open Go.RowKit
set_option linter.unusedVariables false
set_option linter.unusedSimpArgs false

set_option maxRecDepth 100000 in
set_option maxHeartbeats 16000000 in
theorem walk_FnRoomHearBack (A : Option Addr) (n c : Nat) (w : World) (h : IsInts .u8 w A n c) :
    Calls Try.prog 7 #[.slice A n c] w fun e w' => e = .returned (.bool true) ∧ Below w.heap.size w w' := by
  have H := Lib.hid h
  clear h
  by_cases hn0 : 1048576 < n
  · go_enter Try.func7, Try.ntmps7
    go_wp2_with fail
    go_ret
    exact ⟨rfl, Below.refl _ _⟩
  · have hn : n ≤ 1048576 := by omega
    clear hn0
    go_enter Try.func7, Try.ntmps7
    go_wp2_with fail
    refine (draw_rmh w A n c H.out hn).mono ?_
    intro e w1 hm
    obtain ⟨B1, c1, n1, M1, v, hnf, hO1, hn6, hbd, ⟨id, other, on, rfl⟩, rfl, hb1⟩ := hm.norm
    have NF := Lib.hid hnf
    have RL_1 := Lib.hid hO1
    have BD := Lib.hid hbd
    have HB1 := Lib.hid hb1
    have hz1 := hb1.size
    have hnn : n1 ≤ 1048576 := by omega
    have hnc : n1 ≤ c1 := own_leR hO1.row
    clear hm hnf hO1 hbd hb1
    have hi := fun W (hW : RmO w.heap.size B1 n1 c1 M1 W) => ihr_g (c := c1) id other on hW.room (Nat.le_refl _) hnn BD.out
    have hs := fun W (hW : RmO w.heap.size B1 n1 c1 M1 W) => shr_g (c := c1) id other on hW.room (Nat.le_refl _) hnn BD.out
    by_cases hok : hearOk n1 (plain M1) id other on
    rotate_left
    · rw [if_neg hok, decide_eq_false hok] at hi hs
      have HI := Lib.hid hi
      have HS := Lib.hid hs
      clear hi hs hok
      go_wp2_with fail
      refine (HI.out _ RL_1.out).mono ?_
      rintro e w2 ⟨B2, c2, M2, he2, hO2, rfl, hb2⟩
      have EO := Lib.hid he2
      have Rn2 := Lib.hid hO2
      clear he2 hO2
      have RL_2 := Lib.hid (RL_1.out.below hb2)
      have HB2 := Lib.hid (HB1.out.trans (hb2.mono HB1.out.size))
      have hz2 : w1.heap.size ≤ w2.heap.size := hb2.size
      clear hb2 HB1 RL_1
      have RO_2 := Rn2
      clear Rn2
      go_wp2_with fail
      refine (HS.out _ RL_2.out).mono ?_
      rintro e w3 ⟨B3, c3, M3, he3, hO3, rfl, hb3⟩
      have EW := Lib.hid he3
      have Rn3 := Lib.hid hO3
      clear he3 hO3
      have RL_3 := Lib.hid (RL_2.out.below hb3)
      have RO_3 := Lib.hid (RO_2.out.below hb3)
      have HB3 := Lib.hid (HB2.out.trans (hb3.mono HB2.out.size))
      have hz3 : w2.heap.size ≤ w3.heap.size := hb3.size
      clear hb3 HB2 RL_2 RO_2
      have RW_3 := Rn3
      clear Rn3
      go_wp2_with fail
      refine (sameRoom_same _ RO_3.out.room RW_3.out.room (Nat.le_refl _) (Nat.le_refl _) (Nat.zero_le _) (fun i hi => absurd hi (by omega)) (fun i hi => absurd hi (by omega))).mono ?_
      rintro e w4 ⟨rfl, hb4⟩
      have RL_4 := Lib.hid (RL_3.out.below hb4)
      have RO_4 := Lib.hid (RO_3.out.below hb4)
      have RW_4 := Lib.hid (RW_3.out.below hb4)
      have HB4 := Lib.hid (HB3.out.trans (hb4.mono HB3.out.size))
      have hz4 : w3.heap.size ≤ w4.heap.size := hb4.size
      clear hb4 HB3 RL_3 RO_3 RW_3
      go_wp2_with fail
      refine (sameRoom_same _ RO_4.out.room RW_4.out.room (Nat.le_refl _) (Nat.le_refl _) (Nat.zero_le _) (fun i hi => absurd hi (by omega)) (fun i hi => absurd hi (by omega))).mono ?_
      rintro e w5 ⟨rfl, hb5⟩
      have RL_5 := Lib.hid (RL_4.out.below hb5)
      have RO_5 := Lib.hid (RO_4.out.below hb5)
      have RW_5 := Lib.hid (RW_4.out.below hb5)
      have HB5 := Lib.hid (HB4.out.trans (hb5.mono HB4.out.size))
      have hz5 : w4.heap.size ≤ w5.heap.size := hb5.size
      clear hb5 HB4 RL_4 RO_4 RW_4
      go_wp2_with fail
      go_ret
      go_light
      exact ⟨rfl, HB5.out⟩
    rw [if_pos hok, decide_eq_true hok] at hi hs
    have HI := Lib.hid hi
    have HS := Lib.hid hs
    have HK := Lib.hid hok
    clear hi hs hok
    go_wp2_with fail
    refine (HI.out _ RL_1.out).mono ?_
    rintro e w2 ⟨B2, c2, M2, he2, hO2, rfl, hb2⟩
    have EO := Lib.hid he2
    have Rn2 := Lib.hid hO2
    clear he2 hO2
    have RL_2 := Lib.hid (RL_1.out.below hb2)
    have HB2 := Lib.hid (HB1.out.trans (hb2.mono HB1.out.size))
    have hz2 : w1.heap.size ≤ w2.heap.size := hb2.size
    clear hb2 HB1 RL_1
    have RO_2 := Rn2
    clear Rn2
    go_wp2_with fail
    refine (HS.out _ RL_2.out).mono ?_
    rintro e w3 ⟨B3, c3, M3, he3, hO3, rfl, hb3⟩
    have EW := Lib.hid he3
    have Rn3 := Lib.hid hO3
    clear he3 hO3
    have RL_3 := Lib.hid (RL_2.out.below hb3)
    have RO_3 := Lib.hid (RO_2.out.below hb3)
    have HB3 := Lib.hid (HB2.out.trans (hb3.mono HB2.out.size))
    have hz3 : w2.heap.size ≤ w3.heap.size := hb3.size
    clear hb3 HB2 RL_2 RO_2
    have RW_3 := Rn3
    clear Rn3
    have BO := Lib.hid (few_ok EO.out (hearF_ok HK.out))
    go_wp2_with fail
    refine (sameRoom_same _ RO_3.out.room RW_3.out.room (Nat.le_refl _) (Nat.le_refl _) hnn BO.out (fun i hi => congrFun (EO.out.trans EW.out.symm) i)).mono ?_
    rintro e w4 ⟨rfl, hb4⟩
    have RL_4 := Lib.hid (RL_3.out.below hb4)
    have RO_4 := Lib.hid (RO_3.out.below hb4)
    have RW_4 := Lib.hid (RW_3.out.below hb4)
    have HB4 := Lib.hid (HB3.out.trans (hb4.mono HB3.out.size))
    have hz4 : w3.heap.size ≤ w4.heap.size := hb4.size
    clear hb4 HB3 RL_3 RO_3 RW_3
    have hx := fun W (hW : RmO w1.heap.size B2 n1 c2 M2 W) => ihr_g (c := c2) id other (!on) hW.room (Nat.le_refl _) hnn BO.out
    have hy := fun W (hW : RmO w1.heap.size B2 n1 c2 M2 W) => ihr_g (c := c2) id other on hW.room (Nat.le_refl _) hnn BO.out
    rw [EO.out, if_pos (hb_ok HK.out), decide_eq_true (hb_ok HK.out)] at hx
    rw [EO.out, if_neg (hb_no HK.out), decide_eq_false (hb_no HK.out)] at hy
    have HX := Lib.hid hx
    have HY := Lib.hid hy
    clear hx hy
    go_wp2_with fail
    refine (HX.out _ RO_4.out).mono ?_
    rintro e w5 ⟨B5, c5, M5, he5, hO5, rfl, hb5⟩
    have EX := Lib.hid he5
    have Rn5 := Lib.hid hO5
    clear he5 hO5
    have RL_5 := Lib.hid (RL_4.out.below hb5)
    have RO_5 := Lib.hid (RO_4.out.below hb5)
    have RW_5 := Lib.hid (RW_4.out.below hb5)
    have HB5 := Lib.hid (HB4.out.trans (hb5.mono HB4.out.size))
    have hz5 : w4.heap.size ≤ w5.heap.size := hb5.size
    clear hb5 HB4 RL_4 RO_4 RW_4
    have RX_5 := Rn5
    clear Rn5
    go_wp2_with fail
    refine (HY.out _ RO_5.out).mono ?_
    rintro e w6 ⟨B6, c6, M6, he6, hO6, rfl, hb6⟩
    have EY := Lib.hid he6
    have Rn6 := Lib.hid hO6
    clear he6 hO6
    have RL_6 := Lib.hid (RL_5.out.below hb6)
    have RO_6 := Lib.hid (RO_5.out.below hb6)
    have RW_6 := Lib.hid (RW_5.out.below hb6)
    have RX_6 := Lib.hid (RX_5.out.below hb6)
    have HB6 := Lib.hid (HB5.out.trans (hb6.mono HB5.out.size))
    have hz6 : w5.heap.size ≤ w6.heap.size := hb6.size
    clear hb6 HB5 RL_5 RO_5 RW_5 RX_5
    have RY_6 := Rn6
    clear Rn6
    go_wp2_with fail
    refine (sameRoom_same _ RX_6.out.room RL_6.out.room (Nat.le_refl _) (Nat.le_refl _) hnn ?_ ?_).mono ?_
    · intro i hi
      rw [show (M5 i).p = (M1 i).p from (congrFun EX.out i).trans ((hb_same HK.out hi).trans (NF.out i))]
      exact BD.out i hi
    · exact fun i hi => (congrFun EX.out i).trans ((hb_same HK.out hi).trans (NF.out i))
    rintro e w7 ⟨rfl, hb7⟩
    have RL_7 := Lib.hid (RL_6.out.below hb7)
    have RO_7 := Lib.hid (RO_6.out.below hb7)
    have RW_7 := Lib.hid (RW_6.out.below hb7)
    have RX_7 := Lib.hid (RX_6.out.below hb7)
    have RY_7 := Lib.hid (RY_6.out.below hb7)
    have HB7 := Lib.hid (HB6.out.trans (hb7.mono HB6.out.size))
    have hz7 : w6.heap.size ≤ w7.heap.size := hb7.size
    clear hb7 HB6 RL_6 RO_6 RW_6 RX_6 RY_6
    go_wp2_with fail
    go_ret
    go_light
    exact ⟨rfl, HB7.out⟩

end Go.Proofs.Ytelcclhaepfmgaa
namespace Go.Proofs.Ytelcclhaepfmgaa.fnRoomHearBack
open Go.ChangeShapes Go.WideShapes Go.ChangeAt Go.RowKit
set_option linter.unusedVariables false

theorem own : ownKnob Try.prog.godebug = none := by kernel_rfl
theorem laidOut : laidOutB Try.prog = true := by kernel_rfl

set_option maxRecDepth 100000 in
theorem lifted (os : Os) (started : os.Started) (H : Type) (enc : TypeId × Value → H) :
    ReturnsInHanded {} Try.checked os 7 .any (Rows.fnRoomHearBackSpec.pre6 enc Try.prog Try.f7 Rows.fnRoomHearBackRow.domain false) (Rows.fnRoomHearBackSpec.post enc Try.prog Try.f7 false true false false) := by
  refine returnsInHanded_of_change (C := Try.checked) own started (by kernel_rfl) Try.func7
    (ChangeSpec.witness6 (enc := enc) (C := Try.checked) false ⟨#[], #[.slice none 0 0], []⟩ 8 (by kernel_rfl) (by kernel_rfl) (by kernel_rfl) (by kernel_rfl)) ?_
  intro W base args ds gs before hval0 hW hcnd _
  have hval : ∀ (j : Nat) t v, Try.f7.params[j]? = some t → args[j]? = some v → Value.okWide Try.prog W .any base t v := hval0
  have hW' := hW
  obtain ⟨p, q, hA0, hV, rfl, hfz, hnd⟩ := hW
  have hA : DataW.TrodAll enc Try.prog W 0 (fun _ => true) true Try.f7.params.toList args.toList ds p := hA0
  rw [Try.params7] at hA hval
  obtain ⟨v0, vs0, d0, ds0, p0, q0, hargs, rfl, rfl, h0, r0⟩ := trodAll_cons hA
  obtain ⟨rfl, rfl, rfl⟩ := trodAll_nil r0
  obtain rfl : args = #[v0] := by cases args; simp_all
  obtain ⟨rfl, rfl⟩ := trodVars_none hV
  have k0 := h0
  have lt0 : ∀ x ∈ p0, x.block < W.heap.size := by obtain ⟨m, hm⟩ := k0; exact DataW.trod_lt m _ _ _ hm
  obtain ⟨a0, n0, c0, rfl, w0⟩ := open_code (hval 0 22 v0 rfl rfl) h0
  clear hA0 hval0
  refine (walk_FnRoomHearBack a0 n0 c0 W w0).mono fun e W' ⟨he, bel⟩ => ?_
  subst he
  exact ⟨_, rfl, _, _, _, [], _, [], hW', trodAll_mk1 (shut_bool Try.underlying4 _), (trodAll_cons_mk (Below.trod laidOut (by kernel_rfl) (of_decide_eq_true (by kernel_rfl)) k0 bel lt0) trodAll_mk0), rfl, bel.frame _, fun h => by cases h⟩

theorem over : Rows.fnRoomHearBackRow.holds Try.pinned (OpenSpec.ofChange Rows.fnRoomHearBackSpec) :=
  OpenClaim.holds_of_wide 7 Try.f7 rfl rfl rfl rfl rfl rfl rfl ⟨rfl, rfl, rfl, rfl, rfl⟩ rfl rfl rfl rfl rfl (by kernel_rfl) Try.func7 (by kernel_rfl)
    (of_decide_eq_true (by kernel_rfl)) (by unfold Func.isWrapper; first | (rw [if_pos (by decide +kernel)]; kernel_rfl) | (rw [if_neg (by decide +kernel)]; exact ⟨rfl, rfl⟩))
    (fun os started H enc _ => lifted os started H enc)

/-- The statement. -/
theorem proved : Rows.FnRoomHearBackSaid := over
#print axioms proved
end Go.Proofs.Ytelcclhaepfmgaa.fnRoomHearBack
