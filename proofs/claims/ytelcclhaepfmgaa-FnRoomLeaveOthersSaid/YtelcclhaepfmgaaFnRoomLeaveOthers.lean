/- The law FnRoomLeaveOthers of the program is true at every input: the call returns true, and each argument reads behind the call as before. Conditions: none. -/
import Derived.Test.YtelcclhaepfmgaaRlx
import Derived.WalkKit
import Derived.ProofKit
import Derived.OpenShut
import Derived.ShutString
import Derived.ChangeOld
import Derived.Below
import Derived.IntWalk
import Derived.Deep.DeepCutAuto
namespace Go.Proofs.Ytelcclhaepfmgaa
open Go.RowKit
set_option linter.unusedVariables false
set_option linter.unusedSimpArgs false

set_option maxRecDepth 100000 in
set_option maxHeartbeats 16000000 in
theorem walk_FnRoomLeaveOthers (A : Option Addr) (n c : Nat) (w : World) (h : IsInts .u8 w A n c) :
    Calls Try.prog 9 #[.slice A n c] w fun e w' => e = .returned (.bool true) ∧ Below w.heap.size w w' := by
  have H := Lib.hid h
  clear h
  by_cases hn0 : 1048576 < n
  · go_enter Try.func9, Try.ntmps9
    go_wp2_with fail
    go_ret
    exact ⟨rfl, Below.refl _ _⟩
  · have hn : n ≤ 1048576 := by omega
    clear hn0
    go_enter Try.func9, Try.ntmps9
    go_wp2_with fail
    refine (draw_rml w A n c H.out hn).mono ?_
    intro e w1 hm
    obtain ⟨B1, c1, n1, M1, v, hnf, hO1, hn6, hbd, ⟨id, rfl⟩, rfl, hb1⟩ := hm.norm
    have NF := Lib.hid hnf
    have RL_1 := Lib.hid hO1
    have BD := Lib.hid hbd
    have HB1 := Lib.hid hb1
    have hz1 := hb1.size
    have hnn : n1 ≤ 1048576 := by omega
    have hnc : n1 ≤ c1 := own_leR hO1.row
    clear hm hnf hO1 hbd hb1
    have hi := fun W (hW : RmO w.heap.size B1 n1 c1 M1 W) => ilv_g (c := c1) id hW.room (Nat.le_refl _) hnn BD.out
    have hs := fun W (hW : RmO w.heap.size B1 n1 c1 M1 W) => slv_g (c := c1) id hW.room (Nat.le_refl _) hnn BD.out
    by_cases hok : leaveOk n1 (plain M1) id
    rotate_left
    · rw [if_neg hok, decide_eq_false hok] at hi hs
      have HI := Lib.hid hi
      have HS := Lib.hid hs
      clear hi hs hok
      go_wp2_with fail
      refine (HI.out _ RL_1.out).mono ?_
      rintro e w2 ⟨B2, c2, M2, he2, hO2, rfl, hb2⟩
      have EO := Lib.hid he2
      have Rn2 := Lib.hid hO2
      clear he2 hO2
      have RL_2 := Lib.hid (RL_1.out.below hb2)
      have HB2 := Lib.hid (HB1.out.trans (hb2.mono HB1.out.size))
      have hz2 : w1.heap.size ≤ w2.heap.size := hb2.size
      clear hb2 HB1 RL_1
      have RO_2 := Rn2
      clear Rn2
      go_wp2_with fail
      refine (HS.out _ RL_2.out).mono ?_
      rintro e w3 ⟨B3, c3, M3, he3, hO3, rfl, hb3⟩
      have EW := Lib.hid he3
      have Rn3 := Lib.hid hO3
      clear he3 hO3
      have RL_3 := Lib.hid (RL_2.out.below hb3)
      have RO_3 := Lib.hid (RO_2.out.below hb3)
      have HB3 := Lib.hid (HB2.out.trans (hb3.mono HB2.out.size))
      have hz3 : w2.heap.size ≤ w3.heap.size := hb3.size
      clear hb3 HB2 RL_2 RO_2
      have RW_3 := Rn3
      clear Rn3
      go_wp2_with fail
      refine (sameRoom_same _ RO_3.out.room RW_3.out.room (Nat.le_refl _) (Nat.le_refl _) (Nat.zero_le _) (fun i hi => absurd hi (by omega)) (fun i hi => absurd hi (by omega))).mono ?_
      rintro e w4 ⟨rfl, hb4⟩
      have RL_4 := Lib.hid (RL_3.out.below hb4)
      have RO_4 := Lib.hid (RO_3.out.below hb4)
      have RW_4 := Lib.hid (RW_3.out.below hb4)
      have HB4 := Lib.hid (HB3.out.trans (hb4.mono HB3.out.size))
      have hz4 : w3.heap.size ≤ w4.heap.size := hb4.size
      clear hb4 HB3 RL_3 RO_3 RW_3
      go_wp2_with fail
      refine (sameRoom_same _ RO_4.out.room RW_4.out.room (Nat.le_refl _) (Nat.le_refl _) (Nat.zero_le _) (fun i hi => absurd hi (by omega)) (fun i hi => absurd hi (by omega))).mono ?_
      rintro e w5 ⟨rfl, hb5⟩
      have RL_5 := Lib.hid (RL_4.out.below hb5)
      have RO_5 := Lib.hid (RO_4.out.below hb5)
      have RW_5 := Lib.hid (RW_4.out.below hb5)
      have HB5 := Lib.hid (HB4.out.trans (hb5.mono HB4.out.size))
      have hz5 : w4.heap.size ≤ w5.heap.size := hb5.size
      clear hb5 HB4 RL_4 RO_4 RW_4
      go_wp2_with fail
      go_ret
      go_light
      exact ⟨rfl, HB5.out⟩
    rw [if_pos hok, decide_eq_true hok] at hi hs
    obtain ⟨m, hm⟩ : ∃ m, n1 - 1 = m := ⟨_, rfl⟩
    rw [hm] at hi hs
    have hm5 : m < 6 := by have := atR_lt hok.2; omega
    have HM := Lib.hid (show n1 = m + 1 by have := atR_lt hok.2; omega)
    have hlf := leaveF_ok hok
    rw [hm] at hlf
    have HLF := Lib.hid hlf
    clear hlf hm
    have HI := Lib.hid hi
    have HS := Lib.hid hs
    have HK := Lib.hid hok
    clear hi hs hok
    go_wp2_with fail
    refine (HI.out _ RL_1.out).mono ?_
    rintro e w2 ⟨B2, c2, M2, he2, hO2, rfl, hb2⟩
    have EO := Lib.hid he2
    have Rn2 := Lib.hid hO2
    clear he2 hO2
    have RL_2 := Lib.hid (RL_1.out.below hb2)
    have HB2 := Lib.hid (HB1.out.trans (hb2.mono HB1.out.size))
    have hz2 : w1.heap.size ≤ w2.heap.size := hb2.size
    clear hb2 HB1 RL_1
    have RO_2 := Rn2
    clear Rn2
    go_wp2_with fail
    refine (HS.out _ RL_2.out).mono ?_
    rintro e w3 ⟨B3, c3, M3, he3, hO3, rfl, hb3⟩
    have EW := Lib.hid he3
    have Rn3 := Lib.hid hO3
    clear he3 hO3
    have RL_3 := Lib.hid (RL_2.out.below hb3)
    have RO_3 := Lib.hid (RO_2.out.below hb3)
    have HB3 := Lib.hid (HB2.out.trans (hb3.mono HB2.out.size))
    have hz3 : w2.heap.size ≤ w3.heap.size := hb3.size
    clear hb3 HB2 RL_2 RO_2
    have RW_3 := Rn3
    clear Rn3
    have BO := Lib.hid (few_ok EO.out HLF.out)
    go_wp2_with fail
    refine (sameRoom_same _ RO_3.out.room RW_3.out.room (Nat.le_refl _) (Nat.le_refl _) (by omega) BO.out (fun i hi => congrFun (EO.out.trans EW.out.symm) i)).mono ?_
    rintro e w4 ⟨rfl, hb4⟩
    have RL_4 := Lib.hid (RL_3.out.below hb4)
    have RO_4 := Lib.hid (RO_3.out.below hb4)
    have RW_4 := Lib.hid (RW_3.out.below hb4)
    have HB4 := Lib.hid (HB3.out.trans (hb4.mono HB3.out.size))
    have hz4 : w3.heap.size ≤ w4.heap.size := hb4.size
    clear hb4 HB3 RL_3 RO_3 RW_3
    go_wp2_with fail
    go_loopw [9] (fun i wr => ∃ j, j ≤ n1 ∧ i = .int .i64 (j : Nat) ∧ Hid (Below w4.heap.size w4 wr)) (fun i _ => n1 - (intOf i).toNat)
    case atStart => exact ⟨0, Nat.zero_le _, rfl, Lib.hid (Below.refl _ _)⟩
    case round =>
      obtain ⟨j, hj, rfl, HBR⟩ := hrel
      by_cases hjm : j < n1
      rotate_left
      · obtain rfl : j = n1 := by omega
        have HB5 := Lib.hid (HB4.out.trans (HBR.out.mono HB4.out.size))
        go_wp2_with fail
        go_ret
        exact ⟨rfl, HB5.out⟩
      have hjn : (M1 j).p.n ≤ 1048576 := BD.out j hjm
      go_wp2_with fail
      go_loopw [10] (fun i wr2 => ∃ k, k ≤ m ∧ i = .int .i64 (k : Nat) ∧ Hid (Below w4.heap.size w4 wr2)) (fun i _ => m - (intOf i).toNat)
      case atStart => exact ⟨0, Nat.zero_le _, rfl, HBR⟩
      clear HBR
      case round =>
        obtain ⟨k, hk, rfl, HBR⟩ := hrel
        obtain ⟨wr2, rfl⟩ : ∃ v, v = wr := ⟨_, rfl⟩
        by_cases hkm : k < m
        rotate_left
        · obtain rfl : k = m := by omega
          go_wp2_with fail
          go_roundw
          case rel => exact ⟨j + 1, by omega, by go_num, HBR⟩
          case measure => simp [intOf]; omega
        have RO := Lib.hid (RO_4.out.below HBR.out)
        have RL := Lib.hid (RL_4.out.below HBR.out)
        have hzr := HBR.out.size
        obtain ⟨b, off, hAe, -, hb2, c0, -, c2⟩ := Mb_at RO.out.row.row hkm
        obtain ⟨d, dff, hAd, -, hd2, e0, -, e2⟩ := Mb_at RL.out.row.row hjm
        subst hAe hAd
        have hbw : b < wr2.heap.size := hb2
        have hdw : d < wr2.heap.size := hd2
        clear c2
        by_cases hid : (M2 k).p.id = (M1 j).p.id
        rotate_left
        · have hidb : ((M2 k).p.id == (M1 j).p.id) = false := beq_false_of_ne hid
          have HBd := Lib.hid HBR.out.drew
          go_upto_region 14 with fail
          refine wp_region_mix (Exc (fun _ => False) wr2) (by kernel_rfl) (by kernel_rfl) (Exc.drew (Exc.refl _ _)) ?_
          repeat (first
            | (refine mix_skip rfl ?_; have e0 : True := trivial; clear e0; refine mix_putK ?_; intro K hK; go_simp; refine hK _ ?_; clear hK K)
            | (refine mix_readE rfl rfl rfl ?_; apply Exists.intro; refine ⟨fun w' hb' => ?_, ?_⟩; (focus (obtain ⟨hc', hf'⟩ := exc_cells hb'; clear hb'; go_simp; try exact rfl)); have e0 : True := trivial; clear e0; refine mix_putK ?_; intro K hK; go_simp; refine hK _ ?_; clear hK K)
            | (refine mix_pureE rfl rfl ?_; apply Exists.intro; refine ⟨fun w' => ?_, ?_⟩; (focus (first | (fail) | (go_simp; try exact rfl))); have e0 : True := trivial; clear e0; refine mix_putK ?_; intro K hK; go_simp; refine hK _ ?_; clear hK K)
            | (refine mix_eff rfl rfl ?_; go_wp2_with (fail); refine then_mix rfl ?_ ?_; (focus (first | (intro h; have h2 : false = true := h; cases h2) | (intro _; assumption) | (intro _; repeat (first | assumption | (with_reducible exact Exc.refl _ _) | (with_reducible refine Exc.drew ?_) | (with_reducible refine Exc.alloc ?_ _) | (with_reducible refine Exc.setC ?_ ?_ _; focus (simp))))))))
          refine mix_nil ?_
          go_wp2_with fail
          go_roundw
          case rel => exact ⟨k + 1, by omega, by go_num, HBd⟩
          case measure => simp [intOf]; omega
        obtain ⟨h1, h2⟩ := lo_same (k := k) (i := j) HK.out (by have := HM.out; omega) hjm ((congrArg (fun q => (q k).id) EO.out).symm.trans hid)
        rw [← show (M2 k).p = leaveF n1 (plain M1) id k from congrFun EO.out k] at h1 h2
        have h1 : (M2 k).p.s = (M1 j).p.s := h1
        have h2 : (M2 k).p.n = if hasB (M1 j).p.n (M1 j).p.z id = true then (M1 j).p.n - 1 else (M1 j).p.n := h2
        have H1 := Lib.hid h1
        have H2 := Lib.hid h2
        have hh := fun W (hW : Below wr2.heap.size wr2 W) => hasInt_any W w.heap.size W.heap.size (M1 j).A (M1 j).p.n (M1 j).c id (M1 j).p.z ((RL.out.below hW).hears j hjm).ints (Nat.le_refl _) hjn
        have hidb : ((M2 k).p.id == (M1 j).p.id) = true := beq_iff_eq.2 hid
        clear h1 h2 hid
        go_upto_region 14 with fail
        refine wp_region_mix (Exc (fun _ => False) wr2) (by kernel_rfl) (by kernel_rfl) (Exc.drew (Exc.refl _ _)) ?_
        repeat (first
          | (refine mix_skip rfl ?_; have e0 : True := trivial; clear e0; refine mix_putK ?_; intro K hK; go_simp; refine hK _ ?_; clear hK K)
          | (refine mix_readE rfl rfl rfl ?_; apply Exists.intro; refine ⟨fun w' hb' => ?_, ?_⟩; (focus (obtain ⟨hc', hf'⟩ := exc_cells hb'; clear hb'; go_simp; try exact rfl)); have e0 : True := trivial; clear e0; refine mix_putK ?_; intro K hK; go_simp; refine hK _ ?_; clear hK K)
          | (refine mix_pureE rfl rfl ?_; apply Exists.intro; refine ⟨fun w' => ?_, ?_⟩; (focus (first | (fail) | (go_simp; try exact rfl))); have e0 : True := trivial; clear e0; refine mix_putK ?_; intro K hK; go_simp; refine hK _ ?_; clear hK K)
          | (refine mix_eff rfl rfl ?_; go_wp2_with (fail); refine then_mix rfl ?_ ?_; (focus (first | (intro h; have h2 : false = true := h; cases h2) | (intro _; assumption) | (intro _; repeat (first | assumption | (with_reducible exact Exc.refl _ _) | (with_reducible refine Exc.drew ?_) | (with_reducible refine Exc.alloc ?_ _) | (with_reducible refine Exc.setC ?_ ?_ _; focus (simp))))))))
        refine mix_nil ?_
        obtain ⟨hs, hse⟩ : ∃ v, hasB (M1 j).p.n (M1 j).p.z id = v := ⟨_, rfl⟩
        rw [hse] at hh
        have HS := Lib.hid hse
        have HH := Lib.hid hh
        clear hh hse
        go_wp2_with fail
        refine (HH.out _ (Below.refl _ wr2).drew).mono ?_
        rintro e w6 ⟨rfl, hb6⟩
        have hb6 : Below wr2.heap.size wr2 w6 := Below.trans (Below.refl _ wr2).drew hb6
        have HB6 := Lib.hid (HBR.out.trans (hb6.mono hzr))
        have RO6 := Lib.hid (RO.out.below hb6)
        have RL6 := Lib.hid (RL.out.below hb6)
        clear hb6 HBR RO RL c0 e0 e2 HH
        obtain ⟨b3, off3, hAe, -, hb3, -, c1, c2⟩ := Mb_at RO6.out.row.row hkm
        obtain ⟨d3, dff3, hAd, -, hd3, -, e1, e2⟩ := Mb_at RL6.out.row.row hjm
        injection hAe with hAe
        injection hAe with q1 q2
        subst q1 q2
        injection hAd with hAd
        injection hAd with q1 q2
        subst q1 q2
        have hbw6 : b < w6.heap.size := hb3
        have hdw6 : d < w6.heap.size := hd3
        rw [H1.out] at c1
        have HBd := Lib.hid HB6.out.drew
        cases hs
        · have h2 : (M2 k).p.n = (M1 j).p.n := by have e := H2.out; rw [HS.out] at e; exact e
          rw [h2] at c2
          go_upto_region 18 with fail
          refine wp_region_mix (Exc (fun _ => False) w6) (by kernel_rfl) (by kernel_rfl) (Exc.drew (Exc.refl _ _)) ?_
          repeat (first
            | (refine mix_skip rfl ?_; have e0 : True := trivial; clear e0; refine mix_putK ?_; intro K hK; go_simp; refine hK _ ?_; clear hK K)
            | (refine mix_readE rfl rfl rfl ?_; apply Exists.intro; refine ⟨fun w' hb' => ?_, ?_⟩; (focus (obtain ⟨hc', hf'⟩ := exc_cells hb'; clear hb'; go_simp; try exact rfl)); have e0 : True := trivial; clear e0; refine mix_putK ?_; intro K hK; go_simp; refine hK _ ?_; clear hK K)
            | (refine mix_pureE rfl rfl ?_; apply Exists.intro; refine ⟨fun w' => ?_, ?_⟩; (focus (first | (fail) | (go_simp; try exact rfl))); have e0 : True := trivial; clear e0; refine mix_putK ?_; intro K hK; go_simp; refine hK _ ?_; clear hK K)
            | (refine mix_eff rfl rfl ?_; go_wp2_with (fail); refine then_mix rfl ?_ ?_; (focus (first | (intro h; have h2 : false = true := h; cases h2) | (intro _; assumption) | (intro _; repeat (first | assumption | (with_reducible exact Exc.refl _ _) | (with_reducible refine Exc.drew ?_) | (with_reducible refine Exc.alloc ?_ _) | (with_reducible refine Exc.setC ?_ ?_ _; focus (simp))))))))
          refine mix_nil ?_
          go_wp2_with fail
          go_roundw
          case rel => exact ⟨k + 1, by omega, by go_num, HBd⟩
          case measure => simp [intOf]; omega
        · have hp := hasB_pos HS.out
          obtain ⟨q, hq⟩ : ∃ q, (M1 j).p.n = q + 1 := ⟨(M1 j).p.n - 1, by omega⟩
          have h2 : (M2 k).p.n = q := by have e := H2.out; rw [HS.out, if_pos rfl, hq] at e; exact e
          rw [h2] at c2
          have hqe : ((M1 j).p.n : Int) - 1 = (q : Int) := by omega
          go_upto_region 18 with fail
          refine wp_region_mix (Exc (fun _ => False) w6) (by kernel_rfl) (by kernel_rfl) (Exc.drew (Exc.refl _ _)) ?_
          repeat (first
            | (refine mix_skip rfl ?_; have e0 : True := trivial; clear e0; refine mix_putK ?_; intro K hK; go_simp; refine hK _ ?_; clear hK K)
            | (refine mix_readE rfl rfl rfl ?_; apply Exists.intro; refine ⟨fun w' hb' => ?_, ?_⟩; (focus (obtain ⟨hc', hf'⟩ := exc_cells hb'; clear hb'; go_simp; try exact rfl)); have e0 : True := trivial; clear e0; refine mix_putK ?_; intro K hK; go_simp; refine hK _ ?_; clear hK K)
            | (refine mix_pureE rfl rfl ?_; apply Exists.intro; refine ⟨fun w' => ?_, ?_⟩; (focus (first | (fail) | (go_simp; try exact rfl))); have e0 : True := trivial; clear e0; refine mix_putK ?_; intro K hK; go_simp; refine hK _ ?_; clear hK K)
            | (refine mix_eff rfl rfl ?_; go_wp2_with (fail); refine then_mix rfl ?_ ?_; (focus (first | (intro h; have h2 : false = true := h; cases h2) | (intro _; assumption) | (intro _; repeat (first | assumption | (with_reducible exact Exc.refl _ _) | (with_reducible refine Exc.drew ?_) | (with_reducible refine Exc.alloc ?_ _) | (with_reducible refine Exc.setC ?_ ?_ _; focus (simp))))))))
          refine mix_nil ?_
          go_wp2_with fail
          go_roundw
          case rel => exact ⟨k + 1, by omega, by go_num, HBd⟩
          case measure => simp [intOf]; omega

end Go.Proofs.Ytelcclhaepfmgaa
namespace Go.Proofs.Ytelcclhaepfmgaa.fnRoomLeaveOthers
open Go.ChangeShapes Go.WideShapes Go.ChangeAt Go.RowKit
set_option linter.unusedVariables false

theorem own : ownKnob Try.prog.godebug = none := by kernel_rfl
theorem laidOut : laidOutB Try.prog = true := by kernel_rfl

set_option maxRecDepth 100000 in
theorem lifted (os : Os) (started : os.Started) (H : Type) (enc : TypeId × Value → H) :
    ReturnsInHanded {} Try.checked os 9 .any (Rows.fnRoomLeaveOthersSpec.pre6 enc Try.prog Try.f9 Rows.fnRoomLeaveOthersRow.domain false) (Rows.fnRoomLeaveOthersSpec.post enc Try.prog Try.f9 false true false false) := by
  refine returnsInHanded_of_change (C := Try.checked) own started (by kernel_rfl) Try.func9
    (ChangeSpec.witness6 (enc := enc) (C := Try.checked) false ⟨#[], #[.slice none 0 0], []⟩ 8 (by kernel_rfl) (by kernel_rfl) (by kernel_rfl) (by kernel_rfl)) ?_
  intro W base args ds gs before hval0 hW hcnd _
  have hval : ∀ (j : Nat) t v, Try.f9.params[j]? = some t → args[j]? = some v → Value.okWide Try.prog W .any base t v := hval0
  have hW' := hW
  obtain ⟨p, q, hA0, hV, rfl, hfz, hnd⟩ := hW
  have hA : DataW.TrodAll enc Try.prog W 0 (fun _ => true) true Try.f9.params.toList args.toList ds p := hA0
  rw [Try.params9] at hA hval
  obtain ⟨v0, vs0, d0, ds0, p0, q0, hargs, rfl, rfl, h0, r0⟩ := trodAll_cons hA
  obtain ⟨rfl, rfl, rfl⟩ := trodAll_nil r0
  obtain rfl : args = #[v0] := by cases args; simp_all
  obtain ⟨rfl, rfl⟩ := trodVars_none hV
  have k0 := h0
  have lt0 : ∀ x ∈ p0, x.block < W.heap.size := by obtain ⟨m, hm⟩ := k0; exact DataW.trod_lt m _ _ _ hm
  obtain ⟨a0, n0, c0, rfl, w0⟩ := open_code (hval 0 22 v0 rfl rfl) h0
  clear hA0 hval0
  refine (walk_FnRoomLeaveOthers a0 n0 c0 W w0).mono fun e W' ⟨he, bel⟩ => ?_
  subst he
  exact ⟨_, rfl, _, _, _, [], _, [], hW', trodAll_mk1 (shut_bool Try.underlying4 _), (trodAll_cons_mk (Below.trod laidOut (by kernel_rfl) (of_decide_eq_true (by kernel_rfl)) k0 bel lt0) trodAll_mk0), rfl, bel.frame _, fun h => by cases h⟩

theorem over : Rows.fnRoomLeaveOthersRow.holds Try.pinned (OpenSpec.ofChange Rows.fnRoomLeaveOthersSpec) :=
  OpenClaim.holds_of_wide 9 Try.f9 rfl rfl rfl rfl rfl rfl rfl ⟨rfl, rfl, rfl, rfl, rfl⟩ rfl rfl rfl rfl rfl (by kernel_rfl) Try.func9 (by kernel_rfl)
    (of_decide_eq_true (by kernel_rfl)) (by unfold Func.isWrapper; first | (rw [if_pos (by decide +kernel)]; kernel_rfl) | (rw [if_neg (by decide +kernel)]; exact ⟨rfl, rfl⟩))
    (fun os started H enc _ => lifted os started H enc)

/-- The statement. -/
theorem proved : Rows.FnRoomLeaveOthersSaid := over
#print axioms proved
end Go.Proofs.Ytelcclhaepfmgaa.fnRoomLeaveOthers
