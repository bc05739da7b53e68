/- The law FnRoomJoin of the program is true at every input: the call returns true, and each argument reads behind the call as before. Conditions: none. -/
import Derived.Test.YtelcclhaepfmgaaRlx
import Derived.WalkKit
import Derived.ProofKit
import Derived.OpenShut
import Derived.ShutString
import Derived.ChangeOld
import Derived.Below
import Derived.IntWalk
import Derived.Deep.DeepCutAuto
namespace Go.Proofs.Ytelcclhaepfmgaa
open Go.RowKit
set_option linter.unusedVariables false
set_option linter.unusedSimpArgs false

theorem cut_sk {w : World} {e : TypeId} {lo hi n c k : Nat} {A : Option Addr} {M : Nat → Mb} (hk : k ≤ n) (h : RowOwn e w lo hi A n c 3 (catF (k * 3) (catF (0 * 3) (MbF M) (MbF M)) fun j => MbF M ((k + 1) * 3 + j))) : RowOwn e w lo hi A n c 3 (MbF (skM M k)) := by
  refine RowOwn.congr h fun j hj => ?_
  have hd := Nat.div_add_mod j 3
  have hm := Nat.mod_lt j (show 0 < 3 by decide)
  show (if j < k * 3 then (if j < 0 * 3 then MbF M j else MbF M (j - 0 * 3)) else MbC (M (((k + 1) * 3 + (j - k * 3)) / 3)) (((k + 1) * 3 + (j - k * 3)) % 3)) = MbC (if j / 3 < k then M (j / 3) else M (j / 3 + 1)) (j % 3)
  by_cases h1 : j < k * 3
  · rw [if_pos h1, if_neg (by omega), if_pos (by omega), Nat.zero_mul, Nat.sub_zero]; rfl
  · rw [if_neg h1, if_neg (by omega), show ((k + 1) * 3 + (j - k * 3)) / 3 = j / 3 + 1 by omega, show ((k + 1) * 3 + (j - k * 3)) % 3 = j % 3 by omega]
theorem fromA_int {c k : Nat} (h : k ≤ c) : ((k : Int) ≤ (c : Int)) := by omega
set_option maxRecDepth 100000 in
set_option maxHeartbeats 16000000 in
theorem walk_FnRoomJoin (A : Option Addr) (n c : Nat) (w : World) (h : IsInts .u8 w A n c) :
    Calls Try.prog 4 #[.slice A n c] w fun e w' => e = .returned (.bool true) ∧ Below w.heap.size w w' := by
  have H := Lib.hid h
  clear h
  by_cases hn0 : 1048576 < n
  · go_enter Try.func4, Try.ntmps4
    go_wp2_with fail
    go_ret
    exact ⟨rfl, Below.refl _ _⟩
  · have hn : n ≤ 1048576 := by omega
    clear hn0
    go_enter Try.func4, Try.ntmps4
    go_wp2_with fail
    refine (draw_rmj w A n c H.out hn).mono ?_
    intro e w1 hm
    obtain ⟨B1, c1, n1, M1, v, hnf, hO1, hn6, hbd, ⟨id, s, rfl⟩, rfl, hb1⟩ := hm.norm
    have NF := Lib.hid hnf
    have RL_1 := Lib.hid hO1
    have BD := Lib.hid hbd
    have HB1 := Lib.hid hb1
    have hz1 := hb1.size
    have hnn : n1 ≤ 1048576 := by omega
    have hnc : n1 ≤ c1 := own_leR hO1.row
    clear hm hnf hO1 hbd hb1
    have hi := fun W (hW : RmO w.heap.size B1 n1 c1 M1 W) => ijn_g (c := c1) id s hW.room (Nat.le_refl _) hnn hnc BD.out
    have hs := fun W (hW : RmO w.heap.size B1 n1 c1 M1 W) => sjn_g (c := c1) id s hW.room (Nat.le_refl _) hnn BD.out
    by_cases hok : joinOk n1 (plain M1) id
    rotate_left
    · rw [if_neg hok, decide_eq_false hok] at hi hs
      have HI := Lib.hid hi
      have HS := Lib.hid hs
      clear hi hs hok
      go_wp2_with fail
      refine (HI.out _ RL_1.out).mono ?_
      rintro e w2 ⟨B2, c2, M2, he2, hO2, rfl, hb2⟩
      have EO := Lib.hid he2
      have Rn2 := Lib.hid hO2
      clear he2 hO2
      have RL_2 := Lib.hid (RL_1.out.below hb2)
      have HB2 := Lib.hid (HB1.out.trans (hb2.mono HB1.out.size))
      have hz2 : w1.heap.size ≤ w2.heap.size := hb2.size
      clear hb2 HB1 RL_1
      have RO_2 := Rn2
      clear Rn2
      go_wp2_with fail
      refine (HS.out _ RL_2.out).mono ?_
      rintro e w3 ⟨B3, c3, M3, he3, hO3, rfl, hb3⟩
      have EW := Lib.hid he3
      have Rn3 := Lib.hid hO3
      clear he3 hO3
      have RL_3 := Lib.hid (RL_2.out.below hb3)
      have RO_3 := Lib.hid (RO_2.out.below hb3)
      have HB3 := Lib.hid (HB2.out.trans (hb3.mono HB2.out.size))
      have hz3 : w2.heap.size ≤ w3.heap.size := hb3.size
      clear hb3 HB2 RL_2 RO_2
      have RW_3 := Rn3
      clear Rn3
      go_wp2_with fail
      refine (sameRoom_same _ RO_3.out.room RW_3.out.room (Nat.le_refl _) (Nat.le_refl _) (Nat.zero_le _) (fun i hi => absurd hi (by omega)) (fun i hi => absurd hi (by omega))).mono ?_
      rintro e w4 ⟨rfl, hb4⟩
      have RL_4 := Lib.hid (RL_3.out.below hb4)
      have RO_4 := Lib.hid (RO_3.out.below hb4)
      have RW_4 := Lib.hid (RW_3.out.below hb4)
      have HB4 := Lib.hid (HB3.out.trans (hb4.mono HB3.out.size))
      have hz4 : w3.heap.size ≤ w4.heap.size := hb4.size
      clear hb4 HB3 RL_3 RO_3 RW_3
      go_wp2_with fail
      refine (sameRoom_same _ RO_4.out.room RW_4.out.room (Nat.le_refl _) (Nat.le_refl _) (Nat.zero_le _) (fun i hi => absurd hi (by omega)) (fun i hi => absurd hi (by omega))).mono ?_
      rintro e w5 ⟨rfl, hb5⟩
      have RL_5 := Lib.hid (RL_4.out.below hb5)
      have RO_5 := Lib.hid (RO_4.out.below hb5)
      have RW_5 := Lib.hid (RW_4.out.below hb5)
      have HB5 := Lib.hid (HB4.out.trans (hb5.mono HB4.out.size))
      have hz5 : w4.heap.size ≤ w5.heap.size := hb5.size
      clear hb5 HB4 RL_4 RO_4 RW_4
      go_wp2_with fail
      go_ret
      go_light
      exact ⟨rfl, HB5.out⟩
    rw [if_pos hok, decide_eq_true hok] at hi hs
    obtain ⟨m, hm⟩ : ∃ m, n1 + 1 = m := ⟨_, rfl⟩
    rw [hm] at hi hs
    have hm6 : m ≤ 6 := by rw [← hm]; exact (joinF_ok (s := s) hok).six
    have HM := Lib.hid (show m = n1 + 1 from hm.symm)
    have hlf := joinF_ok (s := s) hok
    rw [hm] at hlf
    have HLF := Lib.hid hlf
    clear hlf hm
    have HI := Lib.hid hi
    have HS := Lib.hid hs
    have HK := Lib.hid hok
    clear hi hs hok
    go_wp2_with fail
    refine (HI.out _ RL_1.out).mono ?_
    rintro e w2 ⟨B2, c2, M2, he2, hO2, rfl, hb2⟩
    have EO := Lib.hid he2
    have Rn2 := Lib.hid hO2
    clear he2 hO2
    have RL_2 := Lib.hid (RL_1.out.below hb2)
    have HB2 := Lib.hid (HB1.out.trans (hb2.mono HB1.out.size))
    have hz2 : w1.heap.size ≤ w2.heap.size := hb2.size
    clear hb2 HB1 RL_1
    have RO_2 := Rn2
    clear Rn2
    go_wp2_with fail
    refine (HS.out _ RL_2.out).mono ?_
    rintro e w3 ⟨B3, c3, M3, he3, hO3, rfl, hb3⟩
    have EW := Lib.hid he3
    have Rn3 := Lib.hid hO3
    clear he3 hO3
    have RL_3 := Lib.hid (RL_2.out.below hb3)
    have RO_3 := Lib.hid (RO_2.out.below hb3)
    have HB3 := Lib.hid (HB2.out.trans (hb3.mono HB2.out.size))
    have hz3 : w2.heap.size ≤ w3.heap.size := hb3.size
    clear hb3 HB2 RL_2 RO_2
    have RW_3 := Rn3
    clear Rn3
    have BO := Lib.hid (few_ok EO.out HLF.out)
    go_wp2_with fail
    refine (sameRoom_same _ RO_3.out.room RW_3.out.room (Nat.le_refl _) (Nat.le_refl _) (by omega) BO.out (fun i hi => congrFun (EO.out.trans EW.out.symm) i)).mono ?_
    rintro e w4 ⟨rfl, hb4⟩
    have RL_4 := Lib.hid (RL_3.out.below hb4)
    have RO_4 := Lib.hid (RO_3.out.below hb4)
    have RW_4 := Lib.hid (RW_3.out.below hb4)
    have HB4 := Lib.hid (HB3.out.trans (hb4.mono HB3.out.size))
    have hz4 : w3.heap.size ≤ w4.heap.size := hb4.size
    clear hb4 HB3 RL_3 RO_3 RW_3
    obtain ⟨i0, q1, q2, q3, q4⟩ := info_parts info_mb
    obtain ⟨a, hae⟩ : ∃ a, jpos (plain M1) id n1 = a := ⟨_, rfl⟩
    have haL : a ≤ n1 := by rw [← hae]; exact jpos_le
    have hlt : ∀ i, i < a → (M2 i).p.id ≠ id ∧ (M2 i).p = (M1 i).p := fun i hi => by
      have h1 := joinF_lt (n := n1) (r := plain M1) (id := id) (s := s) (i := i) (by rw [hae]; exact hi)
      rw [← congrFun EO.out i] at h1
      have h2 : (M2 i).p = nm (M1 i).p := h1
      refine ⟨fun e => ?_, h2.trans (NF.out i)⟩
      have h3 := (jpos_at (plain M1) id n1).2.1 i (by rw [hae]; exact hi)
      rw [h2] at e
      have h4 : (plain M1 i).id = id := e
      omega
    have hgt : ∀ i, a ≤ i → (M2 (i + 1)).p = (M1 i).p := fun i hi => by
      have h1 := joinF_gt (n := n1) (r := plain M1) (id := id) (s := s) (i := i + 1) (by rw [hae]; omega)
      rw [← congrFun EO.out (i + 1)] at h1
      exact Eq.trans (show (M2 (i + 1)).p = nm (M1 i).p from h1) (NF.out i)
    have hat : (M2 a).p = nm ⟨id, s, 0, fun _ => 0⟩ := by
      have h1 := joinF_at (n := n1) (r := plain M1) (id := id) (s := s)
      rw [hae, ← congrFun EO.out a] at h1
      exact h1
    have HLT := Lib.hid hlt
    have HGT := Lib.hid hgt
    have HAT := Lib.hid hat
    have ham : a < m := by have := HM.out; omega
    have hnc2 : m ≤ c2 := own_leR RO_4.out.row
    clear hlt hgt hat hae
    go_wp2_with fail
    go_loopw [10] (fun i wr => ∃ k, k ≤ a ∧ i = .int .i64 (k : Nat) ∧ w4 = wr) (fun i _ => a - (intOf i).toNat)
    case atStart => exact ⟨0, Nat.zero_le _, rfl, rfl⟩
    case round =>
      obtain ⟨k, hk, rfl, rfl⟩ := hrel
      by_cases hka : k < a
      · obtain ⟨b, off, hAe, -, hb2, c0, -, -⟩ := Mb_at RO_4.out.row.row (show k < m by omega)
        subst hAe
        have hbw : b < w4.heap.size := hb2
        have hkm : k < m := by omega
        have hidb : ((M2 k).p.id == id) = false := beq_false_of_ne (HLT.out k hka).1
        go_wp2_with fail
        go_roundw
        case rel => exact ⟨k + 1, by omega, by go_num, by first | rfl | trivial⟩
        case measure => simp [intOf]; omega
      obtain rfl : k = a := by omega
      clear hka hk
      obtain ⟨b, off, hAe, -, hb2, c0, -, -⟩ := Mb_at RO_4.out.row.row ham
      subst hAe
      have hbw : b < w4.heap.size := hb2
      have hidt : (M2 k).p.id = id := by rw [HAT.out]; rfl
      rw [hidt] at c0
      have hk1 : k + 1 ≤ m := by omega
      have wK : IntKind.i64.wrap ((k : Int) + 1) = (k : Int) + 1 := IntWalk.i64_in _ (by omega)
      have hkc : k ≤ c2 := by omega
      have hkm : k ≤ m := by omega
      have hnm : n1 ≤ m := by have := HM.out; omega
      go_upto_region 12 with fail
      refine wp_region_mix (Exc (fun _ => False) w4) (by kernel_rfl) (by kernel_rfl) (Exc.drew (Exc.refl _ _)) ?_
      repeat (first
        | (refine mix_skip rfl ?_; have e0 : True := trivial; clear e0; refine mix_putK ?_; intro K hK; go_simp; refine hK _ ?_; clear hK K)
        | (refine mix_readE rfl rfl rfl ?_; apply Exists.intro; refine ⟨fun w' hb' => ?_, ?_⟩; (focus ((first |exact exec_upto (.tmp 70) (.tmp 71) rfl (by rfl) (by rfl) Try.underlying23 q1 q3 hkc |exact exec_from (k := k + 1) (.tmp 74) (.tmp 76) rfl (by rfl) (by rfl) Try.underlying23 q1 q3 hk1 hnc2))); have e0 : True := trivial; clear e0; refine mix_putK ?_; intro K hK; go_simp; refine hK _ ?_; clear hK K)
        | (refine mix_readE rfl rfl rfl ?_; apply Exists.intro; refine ⟨fun w' hb' => ?_, ?_⟩; (focus (obtain ⟨hc', hf'⟩ := exc_cells hb'; clear hb'; go_simp; try exact rfl)); have e0 : True := trivial; clear e0; refine mix_putK ?_; intro K hK; go_simp; refine hK _ ?_; clear hK K)
        | (refine mix_pureE rfl rfl ?_; apply Exists.intro; refine ⟨fun w' => ?_, ?_⟩; (focus (first | ((first |exact exec_upto (.tmp 70) (.tmp 71) rfl (by rfl) (by rfl) Try.underlying23 q1 q3 hkc |exact exec_from (k := k + 1) (.tmp 74) (.tmp 76) rfl (by rfl) (by rfl) Try.underlying23 q1 q3 hk1 hnc2)) | (go_simp; try exact rfl))); have e0 : True := trivial; clear e0; refine mix_putK ?_; intro K hK; go_simp; refine hK _ ?_; clear hK K)
        | (refine mix_eff rfl rfl ?_; go_wp2_with ((first | (at_builtin; go_loud (refine wpList_rowAppendN _ rfl (.tmp 69) (.tmp 72) _ rfl 28 i0 _ 3 40 Try.underlying23 q1 q2 q3 q4 rfl (by decide) w4.heap.size _ (some ⟨w4.heap.size, 0, none⟩) 0 0 (MbF M2) rfl (empty_at _ 28 w4.heap.size 3 (MbF M2) (by simp)) _ _ _ k c2 (MbF M2) rfl ((RowAt.upto RO_4.out.row.row hkm).below (Nat.le_refl _) (by repeat (first | (with_reducible exact Below.refl _ _) | (with_reducible refine Bal ?_ _) | (with_reducible refine Below.drew ?_) | (with_reducible refine below_drewN ?_ _) | (with_reducible refine Bset ?_ ?_ _; focus (first | (with_reducible exact Nat.le_refl _) | (simp; done) | (simp; omega) | omega)) | (with_reducible refine Bt ?_ (by assumption)) | (with_reducible refine Bp (g := g) ?_ (by assumption) (by assumption))))) k (Nat.zero_add _) ?_ (by unfold maxLen; omega) (by omega) (by simp) ?_); (focus (intro i hi; exact mb_one _ _)); intro B5 cb5 w5 hO5 hG5 hL5; have hb5 : Below w4.heap.size w4 w5 := (show Below w4.heap.size w4 _ by repeat (first | (with_reducible exact Below.refl _ _) | (with_reducible refine Bal ?_ _) | (with_reducible refine Below.drew ?_) | (with_reducible refine below_drewN ?_ _) | (with_reducible refine Bset ?_ ?_ _; focus (first | (with_reducible exact Nat.le_refl _) | (simp; done) | (simp; omega) | omega)) | (with_reducible refine Bt ?_ (by assumption)) | (with_reducible refine Bp (g := g) ?_ (by assumption) (by assumption)))).grown hG5 (by simp) (fun g hg => by cases hg; exact Nat.le_refl _); have hE5 : Exc (fun _ => False) w4 w5 := Exc.of_belowR hb5) | (at_builtin; go_loud (refine wpList_rowAppendN _ rfl (.tmp 73) (.tmp 77) _ rfl 28 i0 _ 3 40 Try.underlying23 q1 q2 q3 q4 rfl (by decide) w4.heap.size _ B5 k cb5 _ rfl hO5 _ _ (fromA _ c2 (k + 1) 3) (m - (k + 1)) (c2 - (k + 1)) _ rfl ((RowAt.from RO_4.out.row.row hk1 hnc2).below (Nat.le_refl _) hb5) n1 (by have := HM.out; omega) ?_ (by unfold maxLen; omega) (by omega) (by have := hb5.size; omega) ?_); (focus (intro i hi; exact mb_one _ _)); intro B6 cb6 w6 hO6 hG6 hL6; have hb6 : Below w4.heap.size w4 w6 := hb5.grown hG6 hb5.size (fun g hg => (hO5.1.lt g hg).1); have hE6 : Exc (fun _ => False) w4 w6 := Exc.of_belowR hb6))); refine then_mix rfl ?_ ?_; (focus (first | (intro h; have h2 : false = true := h; cases h2) | (intro _; assumption) | (intro _; repeat (first | assumption | (with_reducible exact Exc.refl _ _) | (with_reducible refine Exc.drew ?_) | (with_reducible refine Exc.alloc ?_ _) | (with_reducible refine Exc.setC ?_ ?_ _; focus (simp))))))))
      refine mix_nil ?_
      have HX := Lib.hid (cut_sk haL hO6)
      clear hO5 hO6 hG5 hG6 hL5 hL6 hb5 hE5 hE6 wK c0 hidt hkc
      have RL_6 := Lib.hid (RL_4.out.below hb6)
      have RO_6 := Lib.hid (RO_4.out.below hb6)
      have RW_6 := Lib.hid (RW_4.out.below hb6)
      have HB6 := Lib.hid (HB4.out.trans (hb6.mono HB4.out.size))
      have hz6 : w4.heap.size ≤ w6.heap.size := hb6.size
      clear hb6 HB4 RL_4 RO_4 RW_4
      have hws6 : w4.heap.size ≤ w6.heap.size := hz6
      have HRX := Lib.hid (show Room w6 0 w6.heap.size B6 n1 (skM M2 k) from ⟨HX.out.row.wide (Nat.zero_le _) (Nat.le_refl _), fun i hi => by
        unfold skM
        split
        · exact ((RO_6.out.hears i (by have := HM.out; omega)).ints).wide (Nat.zero_le _) (Nat.le_refl _)
        · exact ((RO_6.out.hears (i + 1) (by have := HM.out; omega)).ints).wide (Nat.zero_le _) (Nat.le_refl _)⟩)
      have hv := irv_any w6 w1.heap.size w6.heap.size _ m c2 M2 RO_6.out.room (Nat.le_refl _) (by omega) BO.out
      rw [EO.out, show rmB m (joinF n1 (plain M1) id s) = true from decide_eq_true (okM_iff.2 HLF.out)] at hv
      have HVV := Lib.hid hv
      clear hv HX
      go_wp2_with fail
      refine (HVV.out).mono ?_
      rintro e w7 ⟨rfl, hb7⟩
      have HRY := Lib.hid ((HRX.out.below (Nat.le_refl _) hb7))
      have RL_7 := Lib.hid (RL_6.out.below hb7)
      have RO_7 := Lib.hid (RO_6.out.below hb7)
      have RW_7 := Lib.hid (RW_6.out.below hb7)
      have HB7 := Lib.hid (HB6.out.trans (hb7.mono HB6.out.size))
      have hz7 : w6.heap.size ≤ w7.heap.size := hb7.size
      clear hb7 HB6 RL_6 RO_6 RW_6
      obtain ⟨b2, off2, hAe, -, hb22, -, d1, d2⟩ := Mb_at RO_7.out.row.row ham
      injection hAe with hAe
      injection hAe with y1 y2
      subst y1 y2
      have hbw7 : b < w7.heap.size := hb22
      rw [show (M2 k).p.s = s by rw [HAT.out]; rfl] at d1
      rw [show (M2 k).p.n = 0 by rw [HAT.out]; rfl] at d2
      go_wp2_with fail
      refine (sameRoom_same _ HRY.out RL_7.out.room hz7 (Nat.le_refl _) hnn ?_ ?_).mono ?_
      · intro i hi
        unfold skM
        split
        · rw [(HLT.out i ‹_›).2]; exact BD.out i hi
        · rw [HGT.out i (by omega)]; exact BD.out i hi
      · intro i hi
        unfold skM
        split
        · exact (HLT.out i ‹_›).2
        · exact HGT.out i (by omega)
      rintro e w8 ⟨rfl, hb8⟩
      have HB8 := Lib.hid (HB7.out.trans (hb8.mono HB7.out.size))
      clear hb8
      go_wp2_with fail
      go_ret
      go_light
      exact ⟨rfl, HB8.out⟩

end Go.Proofs.Ytelcclhaepfmgaa
namespace Go.Proofs.Ytelcclhaepfmgaa.fnRoomJoin
open Go.ChangeShapes Go.WideShapes Go.ChangeAt Go.RowKit
set_option linter.unusedVariables false

theorem own : ownKnob Try.prog.godebug = none := by kernel_rfl
theorem laidOut : laidOutB Try.prog = true := by kernel_rfl

set_option maxRecDepth 100000 in
theorem lifted (os : Os) (started : os.Started) (H : Type) (enc : TypeId × Value → H) :
    ReturnsInHanded {} Try.checked os 4 .any (Rows.fnRoomJoinSpec.pre6 enc Try.prog Try.f4 Rows.fnRoomJoinRow.domain false) (Rows.fnRoomJoinSpec.post enc Try.prog Try.f4 false true false false) := by
  refine returnsInHanded_of_change (C := Try.checked) own started (by kernel_rfl) Try.func4
    (ChangeSpec.witness6 (enc := enc) (C := Try.checked) false ⟨#[], #[.slice none 0 0], []⟩ 8 (by kernel_rfl) (by kernel_rfl) (by kernel_rfl) (by kernel_rfl)) ?_
  intro W base args ds gs before hval0 hW hcnd _
  have hval : ∀ (j : Nat) t v, Try.f4.params[j]? = some t → args[j]? = some v → Value.okWide Try.prog W .any base t v := hval0
  have hW' := hW
  obtain ⟨p, q, hA0, hV, rfl, hfz, hnd⟩ := hW
  have hA : DataW.TrodAll enc Try.prog W 0 (fun _ => true) true Try.f4.params.toList args.toList ds p := hA0
  rw [Try.params4] at hA hval
  obtain ⟨v0, vs0, d0, ds0, p0, q0, hargs, rfl, rfl, h0, r0⟩ := trodAll_cons hA
  obtain ⟨rfl, rfl, rfl⟩ := trodAll_nil r0
  obtain rfl : args = #[v0] := by cases args; simp_all
  obtain ⟨rfl, rfl⟩ := trodVars_none hV
  have k0 := h0
  have lt0 : ∀ x ∈ p0, x.block < W.heap.size := by obtain ⟨m, hm⟩ := k0; exact DataW.trod_lt m _ _ _ hm
  obtain ⟨a0, n0, c0, rfl, w0⟩ := open_code (hval 0 22 v0 rfl rfl) h0
  clear hA0 hval0
  refine (walk_FnRoomJoin a0 n0 c0 W w0).mono fun e W' ⟨he, bel⟩ => ?_
  subst he
  exact ⟨_, rfl, _, _, _, [], _, [], hW', trodAll_mk1 (shut_bool Try.underlying4 _), (trodAll_cons_mk (Below.trod laidOut (by kernel_rfl) (of_decide_eq_true (by kernel_rfl)) k0 bel lt0) trodAll_mk0), rfl, bel.frame _, fun h => by cases h⟩

theorem over : Rows.fnRoomJoinRow.holds Try.pinned (OpenSpec.ofChange Rows.fnRoomJoinSpec) :=
  OpenClaim.holds_of_wide 4 Try.f4 rfl rfl rfl rfl rfl rfl rfl ⟨rfl, rfl, rfl, rfl, rfl⟩ rfl rfl rfl rfl rfl (by kernel_rfl) Try.func4 (by kernel_rfl)
    (of_decide_eq_true (by kernel_rfl)) (by unfold Func.isWrapper; first | (rw [if_pos (by decide +kernel)]; kernel_rfl) | (rw [if_neg (by decide +kernel)]; exact ⟨rfl, rfl⟩))
    (fun os started H enc _ => lifted os started H enc)

/-- The statement. -/
theorem proved : Rows.FnRoomJoinSaid := over
#print axioms proved
end Go.Proofs.Ytelcclhaepfmgaa.fnRoomJoin
