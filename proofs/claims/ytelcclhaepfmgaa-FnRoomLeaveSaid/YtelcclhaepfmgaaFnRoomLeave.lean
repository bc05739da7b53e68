/- The law FnRoomLeave of the program is true at every input: the call returns true, and each argument reads behind the call as before. Conditions: none. -/
import Derived.Test.YtelcclhaepfmgaaRlx
import Derived.WalkKit
import Derived.ProofKit
import Derived.OpenShut
import Derived.ShutString
import Derived.ChangeOld
import Derived.Below
import Derived.IntWalk
import Derived.Deep.DeepCutAuto
namespace Go.Proofs.Ytelcclhaepfmgaa
open Go.RowKit
set_option linter.unusedVariables false
set_option linter.unusedSimpArgs false

set_option maxRecDepth 100000 in
set_option maxHeartbeats 16000000 in
theorem walk_FnRoomLeave (A : Option Addr) (n c : Nat) (w : World) (h : IsInts .u8 w A n c) :
    Calls Try.prog 8 #[.slice A n c] w fun e w' => e = .returned (.bool true) ∧ Below w.heap.size w w' := by
  have H := Lib.hid h
  clear h
  by_cases hn0 : 1048576 < n
  · go_enter Try.func8, Try.ntmps8
    go_wp2_with fail
    go_ret
    exact ⟨rfl, Below.refl _ _⟩
  · have hn : n ≤ 1048576 := by omega
    clear hn0
    go_enter Try.func8, Try.ntmps8
    go_wp2_with fail
    refine (draw_rml w A n c H.out hn).mono ?_
    intro e w1 hm
    obtain ⟨B1, c1, n1, M1, v, hnf, hO1, hn6, hbd, ⟨id, rfl⟩, rfl, hb1⟩ := hm.norm
    have NF := Lib.hid hnf
    have RL_1 := Lib.hid hO1
    have BD := Lib.hid hbd
    have HB1 := Lib.hid hb1
    have hz1 := hb1.size
    have hnn : n1 ≤ 1048576 := by omega
    have hnc : n1 ≤ c1 := own_leR hO1.row
    clear hm hnf hO1 hbd hb1
    have hi := fun W (hW : RmO w.heap.size B1 n1 c1 M1 W) => ilv_g (c := c1) id hW.room (Nat.le_refl _) hnn BD.out
    have hs := fun W (hW : RmO w.heap.size B1 n1 c1 M1 W) => slv_g (c := c1) id hW.room (Nat.le_refl _) hnn BD.out
    by_cases hok : leaveOk n1 (plain M1) id
    rotate_left
    · rw [if_neg hok, decide_eq_false hok] at hi hs
      have HI := Lib.hid hi
      have HS := Lib.hid hs
      clear hi hs hok
      go_wp2_with fail
      refine (HI.out _ RL_1.out).mono ?_
      rintro e w2 ⟨B2, c2, M2, he2, hO2, rfl, hb2⟩
      have EO := Lib.hid he2
      have Rn2 := Lib.hid hO2
      clear he2 hO2
      have RL_2 := Lib.hid (RL_1.out.below hb2)
      have HB2 := Lib.hid (HB1.out.trans (hb2.mono HB1.out.size))
      have hz2 : w1.heap.size ≤ w2.heap.size := hb2.size
      clear hb2 HB1 RL_1
      have RO_2 := Rn2
      clear Rn2
      go_wp2_with fail
      refine (HS.out _ RL_2.out).mono ?_
      rintro e w3 ⟨B3, c3, M3, he3, hO3, rfl, hb3⟩
      have EW := Lib.hid he3
      have Rn3 := Lib.hid hO3
      clear he3 hO3
      have RL_3 := Lib.hid (RL_2.out.below hb3)
      have RO_3 := Lib.hid (RO_2.out.below hb3)
      have HB3 := Lib.hid (HB2.out.trans (hb3.mono HB2.out.size))
      have hz3 : w2.heap.size ≤ w3.heap.size := hb3.size
      clear hb3 HB2 RL_2 RO_2
      have RW_3 := Rn3
      clear Rn3
      go_wp2_with fail
      refine (sameRoom_same _ RO_3.out.room RW_3.out.room (Nat.le_refl _) (Nat.le_refl _) (Nat.zero_le _) (fun i hi => absurd hi (by omega)) (fun i hi => absurd hi (by omega))).mono ?_
      rintro e w4 ⟨rfl, hb4⟩
      have RL_4 := Lib.hid (RL_3.out.below hb4)
      have RO_4 := Lib.hid (RO_3.out.below hb4)
      have RW_4 := Lib.hid (RW_3.out.below hb4)
      have HB4 := Lib.hid (HB3.out.trans (hb4.mono HB3.out.size))
      have hz4 : w3.heap.size ≤ w4.heap.size := hb4.size
      clear hb4 HB3 RL_3 RO_3 RW_3
      go_wp2_with fail
      refine (sameRoom_same _ RO_4.out.room RW_4.out.room (Nat.le_refl _) (Nat.le_refl _) (Nat.zero_le _) (fun i hi => absurd hi (by omega)) (fun i hi => absurd hi (by omega))).mono ?_
      rintro e w5 ⟨rfl, hb5⟩
      have RL_5 := Lib.hid (RL_4.out.below hb5)
      have RO_5 := Lib.hid (RO_4.out.below hb5)
      have RW_5 := Lib.hid (RW_4.out.below hb5)
      have HB5 := Lib.hid (HB4.out.trans (hb5.mono HB4.out.size))
      have hz5 : w4.heap.size ≤ w5.heap.size := hb5.size
      clear hb5 HB4 RL_4 RO_4 RW_4
      go_wp2_with fail
      go_ret
      go_light
      exact ⟨rfl, HB5.out⟩
    rw [if_pos hok, decide_eq_true hok] at hi hs
    obtain ⟨m, rfl⟩ : ∃ m, n1 = m + 1 := ⟨n1 - 1, by have := atR_lt hok.2; omega⟩
    rw [Nat.add_sub_cancel] at hi hs
    have HI := Lib.hid hi
    have HS := Lib.hid hs
    have HK := Lib.hid hok
    clear hi hs hok
    go_wp2_with fail
    refine (HI.out _ RL_1.out).mono ?_
    rintro e w2 ⟨B2, c2, M2, he2, hO2, rfl, hb2⟩
    have EO := Lib.hid he2
    have Rn2 := Lib.hid hO2
    clear he2 hO2
    have RL_2 := Lib.hid (RL_1.out.below hb2)
    have HB2 := Lib.hid (HB1.out.trans (hb2.mono HB1.out.size))
    have hz2 : w1.heap.size ≤ w2.heap.size := hb2.size
    clear hb2 HB1 RL_1
    have RO_2 := Rn2
    clear Rn2
    go_wp2_with fail
    refine (HS.out _ RL_2.out).mono ?_
    rintro e w3 ⟨B3, c3, M3, he3, hO3, rfl, hb3⟩
    have EW := Lib.hid he3
    have Rn3 := Lib.hid hO3
    clear he3 hO3
    have RL_3 := Lib.hid (RL_2.out.below hb3)
    have RO_3 := Lib.hid (RO_2.out.below hb3)
    have HB3 := Lib.hid (HB2.out.trans (hb3.mono HB2.out.size))
    have hz3 : w2.heap.size ≤ w3.heap.size := hb3.size
    clear hb3 HB2 RL_2 RO_2
    have RW_3 := Rn3
    clear Rn3
    have hlf := leaveF_ok HK.out
    rw [Nat.add_sub_cancel] at hlf
    have HLF := Lib.hid hlf
    clear hlf
    have hm5 : m ≤ 5 := by omega
    have BO := Lib.hid (few_ok EO.out HLF.out)
    go_wp2_with fail
    refine (sameRoom_same _ RO_3.out.room RW_3.out.room (Nat.le_refl _) (Nat.le_refl _) (by omega) BO.out (fun i hi => congrFun (EO.out.trans EW.out.symm) i)).mono ?_
    rintro e w4 ⟨rfl, hb4⟩
    have RL_4 := Lib.hid (RL_3.out.below hb4)
    have RO_4 := Lib.hid (RO_3.out.below hb4)
    have RW_4 := Lib.hid (RW_3.out.below hb4)
    have HB4 := Lib.hid (HB3.out.trans (hb4.mono HB3.out.size))
    have hz4 : w3.heap.size ≤ w4.heap.size := hb4.size
    clear hb4 HB3 RL_3 RO_3 RW_3
    go_wp2_with fail
    go_loopw [9] (fun i wr => ∃ k, k ≤ m ∧ i = .int .i64 (k : Nat) ∧ Hid (Below w4.heap.size w4 wr)) (fun i _ => m - (intOf i).toNat)
    case atStart => exact ⟨0, Nat.zero_le _, rfl, Lib.hid (Below.refl _ _)⟩
    case round =>
      obtain ⟨k, hk, rfl, HBR⟩ := hrel
      have hbr := HBR.out
      have hzr := hbr.size
      obtain ⟨w5, rfl⟩ : ∃ v, v = wr := ⟨_, rfl⟩
      have hb5 := hbr
      clear hbr
      by_cases hkm : k < m
      · have RO := Lib.hid (RO_4.out.below hb5)
        obtain ⟨b, off, hAe, -, hb2, c0, c1', c2'⟩ := Mb_at RO.out.row.row hkm
        subst hAe
        have hbw : b < w5.heap.size := hb2
        obtain ⟨h1, h2⟩ := leaveF_no (i := k) HK.out (by omega)
        rw [← show (M2 k).p = leaveF (m + 1) (plain M1) id k from congrFun EO.out k] at h1 h2
        have hidb : ((M2 k).p.id == id) = false := beq_false_of_ne h1
        have hh := hasInt_any w5 w1.heap.size w5.heap.size (M2 k).A (M2 k).p.n (M2 k).c id (M2 k).p.z (RO.out.hears k hkm).ints (Nat.le_refl _) (BO.out k hkm)
        rw [h2] at hh
        have HH := Lib.hid hh
        clear hh h2 hb5
        go_wp2_with fail
        refine (HH.out).mono ?_
        rintro e w6 ⟨rfl, hb6⟩
        have HB6 := Lib.hid (HBR.out.trans (hb6.mono hzr))
        clear hb6 HBR RO HH
        go_wp2_with fail
        go_roundw
        case rel => exact ⟨k + 1, by omega, by go_num, HB6⟩
        case measure => simp [intOf]; omega
      obtain rfl : k = m := by omega
      clear HBR hzr
      have RL_5 := Lib.hid (RL_4.out.below hb5)
      have RO_5 := Lib.hid (RO_4.out.below hb5)
      have RW_5 := Lib.hid (RW_4.out.below hb5)
      have HB5 := Lib.hid (HB4.out.trans (hb5.mono HB4.out.size))
      have hz5 : w4.heap.size ≤ w5.heap.size := hb5.size
      clear hb5 HB4 RL_4 RO_4 RW_4
      have hkm2 : k ≤ 1048576 := by omega
      have hv := irv_any w5 w1.heap.size w5.heap.size B2 k c2 M2 RO_5.out.room (Nat.le_refl _) hkm2 BO.out
      rw [EO.out, show rmB k (leaveF (k + 1) (plain M1) id) = true from decide_eq_true (okM_iff.2 HLF.out)] at hv
      have HVV := Lib.hid hv
      clear hv
      go_wp2_with fail
      refine (HVV.out).mono ?_
      rintro e w6 ⟨rfl, hb6⟩
      have RL_6 := Lib.hid (RL_5.out.below hb6)
      have RO_6 := Lib.hid (RO_5.out.below hb6)
      have RW_6 := Lib.hid (RW_5.out.below hb6)
      have HB6 := Lib.hid (HB5.out.trans (hb6.mono HB5.out.size))
      have hz6 : w5.heap.size ≤ w6.heap.size := hb6.size
      clear hb6 HB5 RL_5 RO_5 RW_5
      go_wp2_with fail
      go_ret
      go_light
      exact ⟨rfl, HB6.out⟩

end Go.Proofs.Ytelcclhaepfmgaa
namespace Go.Proofs.Ytelcclhaepfmgaa.fnRoomLeave
open Go.ChangeShapes Go.WideShapes Go.ChangeAt Go.RowKit
set_option linter.unusedVariables false

theorem own : ownKnob Try.prog.godebug = none := by kernel_rfl
theorem laidOut : laidOutB Try.prog = true := by kernel_rfl

set_option maxRecDepth 100000 in
theorem lifted (os : Os) (started : os.Started) (H : Type) (enc : TypeId × Value → H) :
    ReturnsInHanded {} Try.checked os 8 .any (Rows.fnRoomLeaveSpec.pre6 enc Try.prog Try.f8 Rows.fnRoomLeaveRow.domain false) (Rows.fnRoomLeaveSpec.post enc Try.prog Try.f8 false true false false) := by
  refine returnsInHanded_of_change (C := Try.checked) own started (by kernel_rfl) Try.func8
    (ChangeSpec.witness6 (enc := enc) (C := Try.checked) false ⟨#[], #[.slice none 0 0], []⟩ 8 (by kernel_rfl) (by kernel_rfl) (by kernel_rfl) (by kernel_rfl)) ?_
  intro W base args ds gs before hval0 hW hcnd _
  have hval : ∀ (j : Nat) t v, Try.f8.params[j]? = some t → args[j]? = some v → Value.okWide Try.prog W .any base t v := hval0
  have hW' := hW
  obtain ⟨p, q, hA0, hV, rfl, hfz, hnd⟩ := hW
  have hA : DataW.TrodAll enc Try.prog W 0 (fun _ => true) true Try.f8.params.toList args.toList ds p := hA0
  rw [Try.params8] at hA hval
  obtain ⟨v0, vs0, d0, ds0, p0, q0, hargs, rfl, rfl, h0, r0⟩ := trodAll_cons hA
  obtain ⟨rfl, rfl, rfl⟩ := trodAll_nil r0
  obtain rfl : args = #[v0] := by cases args; simp_all
  obtain ⟨rfl, rfl⟩ := trodVars_none hV
  have k0 := h0
  have lt0 : ∀ x ∈ p0, x.block < W.heap.size := by obtain ⟨m, hm⟩ := k0; exact DataW.trod_lt m _ _ _ hm
  obtain ⟨a0, n0, c0, rfl, w0⟩ := open_code (hval 0 22 v0 rfl rfl) h0
  clear hA0 hval0
  refine (walk_FnRoomLeave a0 n0 c0 W w0).mono fun e W' ⟨he, bel⟩ => ?_
  subst he
  exact ⟨_, rfl, _, _, _, [], _, [], hW', trodAll_mk1 (shut_bool Try.underlying4 _), (trodAll_cons_mk (Below.trod laidOut (by kernel_rfl) (of_decide_eq_true (by kernel_rfl)) k0 bel lt0) trodAll_mk0), rfl, bel.frame _, fun h => by cases h⟩

theorem over : Rows.fnRoomLeaveRow.holds Try.pinned (OpenSpec.ofChange Rows.fnRoomLeaveSpec) :=
  OpenClaim.holds_of_wide 8 Try.f8 rfl rfl rfl rfl rfl rfl rfl ⟨rfl, rfl, rfl, rfl, rfl⟩ rfl rfl rfl rfl rfl (by kernel_rfl) Try.func8 (by kernel_rfl)
    (of_decide_eq_true (by kernel_rfl)) (by unfold Func.isWrapper; first | (rw [if_pos (by decide +kernel)]; kernel_rfl) | (rw [if_neg (by decide +kernel)]; exact ⟨rfl, rfl⟩))
    (fun os started H enc _ => lifted os started H enc)

/-- The statement. -/
theorem proved : Rows.FnRoomLeaveSaid := over
#print axioms proved
end Go.Proofs.Ytelcclhaepfmgaa.fnRoomLeave
