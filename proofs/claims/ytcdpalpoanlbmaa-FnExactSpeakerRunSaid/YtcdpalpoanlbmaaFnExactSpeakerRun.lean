/- The law FnExactSpeakerRun of the program is true at every input: the call returns true, and each argument reads behind the call as before. Conditions: none. -/
import Derived.Test.YtcdpalpoanlbmaaSx
import Derived.Test.YtcdpalpoanlbmaaSn
import Derived.Test.YtcdpalpoanlbmaaSo
import Derived.Test.YtcdpalpoanlbmaaOps
import Derived.WalkKit
import Derived.ProofKit
import Derived.OpenShut
import Derived.ShutString
import Derived.ChangeOld
import Derived.Below
import Derived.IntWalk
namespace Go.Proofs.Ytcdpalpoanlbmaa
open Go.RowKit
set_option linter.unusedVariables false
set_option linter.unusedSimpArgs false

set_option maxRecDepth 100000 in
set_option maxHeartbeats 32000000 in
theorem walk_FnExactSpeakerRun (A : Option Addr) (n c : Nat) (S : Nat → Sr) (w : World) (h : Mtx w 0 w.heap.size A n S) (hm : n ≤ maxLen) (hm2 : ∀ i, i < n → (S i).n ≤ maxLen) :
    Calls Try.prog 4 #[.slice A n c] w fun e w' => e = .returned (.bool true) ∧ Below w.heap.size w w' := by
  have H := Lib.hid h
  have HM2 := Lib.hid hm2
  unfold maxLen at hm
  clear h hm2
  by_cases hn0 : 1048576 < n
  · go_enter Try.func4, Try.ntmps4
    go_wp2_with fail
    refine (szSS_big w A n c hn0 (by omega)).mono ?_
    rintro e w0 ⟨rfl, hb0⟩
    go_wp2_with fail
    go_ret
    go_light
    exact ⟨rfl, hb0⟩
  have hn : n ≤ 1048576 := by omega
  by_cases hs0 : 1048576 < n + sumS S n
  · go_enter Try.func4, Try.ntmps4
    go_wp2_with fail
    refine (szSS_out w 0 w.heap.size A n c S H.out.1 (Nat.le_refl _) hn hs0 (fun i hi => by have := HM2.out i hi; unfold maxLen at this; omega)).mono ?_
    rintro e w0 ⟨rfl, hb0⟩
    go_wp2_with fail
    go_ret
    go_light
    exact ⟨rfl, hb0⟩
  have hs1 : n + sumS S n ≤ 1048576 := by omega
  have HN := Lib.hid (show ∀ i, i < n → (S i).n ≤ 1048576 from fun i hi => by have := sumS_at S hi; omega)
  have HSZ := Lib.hid hs1
  clear hn0 hs0 hm HM2 hs1
  have hi := fun (W : World) (lo hi : Nat) (B : Option Addr) (cb : Nat) (a : Nat → Option Addr) (d : Nat → Nat) (h : Mtx W lo hi B n (cpS S a d)) (hh : hi ≤ W.heap.size) => irun_any W lo hi B n cb (cpS S a d) h hh hn HN.out
  have hs := fun (W : World) (lo hi : Nat) (B : Option Addr) (cb : Nat) (a : Nat → Option Addr) (d : Nat → Nat) (h : Mtx W lo hi B n (cpS S a d)) (hh : hi ≤ W.heap.size) => srun_any W lo hi B n cb (cpS S a d) h hh hn HN.out
  have hrl : (runR n S).length ≤ 20 := runR_len
  simp only [runR_cp] at hi hs
  generalize runR n S = l at hi hs hrl
  generalize l.length = K at hi hs hrl
  have hK1 : K ≤ 1048576 := by omega
  have HI := Lib.hid hi
  have HS := Lib.hid hs
  clear hi hs hrl
  go_enter Try.func4, Try.ntmps4
  go_wp2_with fail
  refine (szSS_in w 0 w.heap.size A n c S H.out.1 (Nat.le_refl _) HSZ.out).mono ?_
  rintro e w0 ⟨⟨left, hleft, rfl⟩, hb0⟩
  have hlb : ¬ left < 0 := by omega
  have hz0 : w.heap.size ≤ w0.heap.size := hb0.size
  have Ha_0 := Lib.hid (H.out.below (Nat.le_refl _) hb0)
  have HB0 := Lib.hid hb0
  clear hb0 H hleft
  go_wp2_with fail
  refine (toSS_any w0 0 w.heap.size A n c S Ha_0.out (by omega) hn HN.out).mono ?_
  rintro e w1 ⟨B1, c1, a1, d1, hO1, rfl, hb1⟩
  have Qt := Lib.hid hO1
  clear hO1
  have hz1 : w0.heap.size ≤ w1.heap.size := hb1.size
  have Ha_1 := Lib.hid (Mtx.below (B := w0.heap.size) (by omega) Ha_0.out hb1)
  have HB1 := Lib.hid (HB0.out.trans (hb1.mono HB0.out.size))
  clear hb1 HB0 Ha_0 
  have Ht_1 := Qt
  clear Qt
  go_wp2_with fail
  refine (HS.out w1 w0.heap.size w1.heap.size B1 c1 a1 d1 (Ht_1.out.mtx.wide (Nat.le_refl _) (by omega)) (Nat.le_refl _)).mono ?_
  rintro e w2 ⟨B2, c2, hO2, rfl, hb2⟩
  have Qs := Lib.hid hO2
  clear hO2
  have hz2 : w1.heap.size ≤ w2.heap.size := hb2.size
  have Ha_2 := Lib.hid (Mtx.below (B := w1.heap.size) (by omega) Ha_1.out hb2)
  have Ht_2 := Lib.hid (MtH.below (B0 := w1.heap.size) (by omega) Ht_1.out hb2)
  have HB2 := Lib.hid (HB1.out.trans (hb2.mono HB1.out.size))
  clear hb2 HB1 Ha_1 Ht_1
  have Hs_2 := Qs
  clear Qs
  go_wp2_with fail
  refine (toSS_any w2 0 w.heap.size A n c S Ha_2.out (by omega) hn HN.out).mono ?_
  rintro e w3 ⟨B3, c3, a3, d3, hO3, rfl, hb3⟩
  have Qx := Lib.hid hO3
  clear hO3
  have hz3 : w2.heap.size ≤ w3.heap.size := hb3.size
  have Ha_3 := Lib.hid (Mtx.below (B := w2.heap.size) (by omega) Ha_2.out hb3)
  have Ht_3 := Lib.hid (MtH.below (B0 := w2.heap.size) (by omega) Ht_2.out hb3)
  have Hs_3 := Lib.hid (OwnI.below (B := w2.heap.size) (by omega) Hs_2.out hb3)
  have HB3 := Lib.hid (HB2.out.trans (hb3.mono HB2.out.size))
  clear hb3 HB2 Ha_2 Ht_2 Hs_2
  have Hx_3 := Qx
  clear Qx
  go_wp2_with fail
  refine (HI.out w3 w2.heap.size w3.heap.size B3 c3 a3 d3 (Hx_3.out.mtx.wide (Nat.le_refl _) (by omega)) (Nat.le_refl _)).mono ?_
  rintro e w4 ⟨B4, c4, hO4, rfl, hb4⟩
  have Qg := Lib.hid hO4
  clear hO4
  have hz4 : w3.heap.size ≤ w4.heap.size := hb4.size
  have Ha_4 := Lib.hid (Mtx.below (B := w3.heap.size) (by omega) Ha_3.out hb4)
  have Ht_4 := Lib.hid (MtH.below (B0 := w3.heap.size) (by omega) Ht_3.out hb4)
  have Hx_4 := Lib.hid (MtH.below (B0 := w3.heap.size) (by omega) Hx_3.out hb4)
  have Hs_4 := Lib.hid (OwnI.below (B := w3.heap.size) (by omega) Hs_3.out hb4)
  have HB4 := Lib.hid (HB3.out.trans (hb4.mono HB3.out.size))
  clear hb4 HB3 Ha_3 Ht_3 Hx_3 Hs_3
  have Hg_4 := Qg
  clear Qg
  go_wp2_with fail
  refine (eqIntS_same w4 (RowOwn.row (Hg_4.out)) (RowOwn.row (Hs_4.out)) (by omega) (by omega) hK1).mono ?_
  rintro e w5 ⟨rfl, hb5⟩
  have hz5 : w4.heap.size ≤ w5.heap.size := hb5.size
  have Ha_5 := Lib.hid (Mtx.below (B := w4.heap.size) (by omega) Ha_4.out hb5)
  have Ht_5 := Lib.hid (MtH.below (B0 := w4.heap.size) (by omega) Ht_4.out hb5)
  have Hx_5 := Lib.hid (MtH.below (B0 := w4.heap.size) (by omega) Hx_4.out hb5)
  have Hs_5 := Lib.hid (OwnI.below (B := w4.heap.size) (by omega) Hs_4.out hb5)
  have Hg_5 := Lib.hid (OwnI.below (B := w4.heap.size) (by omega) Hg_4.out hb5)
  have HB5 := Lib.hid (HB4.out.trans (hb5.mono HB4.out.size))
  clear hb5 HB4 Ha_4 Ht_4 Hx_4 Hs_4 Hg_4
  go_wp2_with fail
  refine (toSS_any w5 0 w.heap.size A n c S Ha_5.out (by omega) hn HN.out).mono ?_
  rintro e w6 ⟨B6, c6, a6, d6, hO6, rfl, hb6⟩
  have Qu := Lib.hid hO6
  clear hO6
  have hz6 : w5.heap.size ≤ w6.heap.size := hb6.size
  have Ha_6 := Lib.hid (Mtx.below (B := w5.heap.size) (by omega) Ha_5.out hb6)
  have Ht_6 := Lib.hid (MtH.below (B0 := w5.heap.size) (by omega) Ht_5.out hb6)
  have Hx_6 := Lib.hid (MtH.below (B0 := w5.heap.size) (by omega) Hx_5.out hb6)
  have Hs_6 := Lib.hid (OwnI.below (B := w5.heap.size) (by omega) Hs_5.out hb6)
  have Hg_6 := Lib.hid (OwnI.below (B := w5.heap.size) (by omega) Hg_5.out hb6)
  have HB6 := Lib.hid (HB5.out.trans (hb6.mono HB5.out.size))
  clear hb6 HB5 Ha_5 Ht_5 Hx_5 Hs_5 Hg_5
  have Hu_6 := Qu
  clear Qu
  go_wp2_with fail
  refine (eqSS_same w6 (Hx_6.out.mtx) (Hu_6.out.mtx) (by omega) (by omega) hn HN.out (fun i hi => ⟨rfl, rfl⟩)).mono ?_
  rintro e w7 ⟨rfl, hb7⟩
  have hz7 : w6.heap.size ≤ w7.heap.size := hb7.size
  have Ha_7 := Lib.hid (Mtx.below (B := w6.heap.size) (by omega) Ha_6.out hb7)
  have Ht_7 := Lib.hid (MtH.below (B0 := w6.heap.size) (by omega) Ht_6.out hb7)
  have Hx_7 := Lib.hid (MtH.below (B0 := w6.heap.size) (by omega) Hx_6.out hb7)
  have Hu_7 := Lib.hid (MtH.below (B0 := w6.heap.size) (by omega) Hu_6.out hb7)
  have Hs_7 := Lib.hid (OwnI.below (B := w6.heap.size) (by omega) Hs_6.out hb7)
  have Hg_7 := Lib.hid (OwnI.below (B := w6.heap.size) (by omega) Hg_6.out hb7)
  have HB7 := Lib.hid (HB6.out.trans (hb7.mono HB6.out.size))
  clear hb7 HB6 Ha_6 Ht_6 Hx_6 Hu_6 Hs_6 Hg_6
  clear Ht_7
  clear Hu_7
  have hmk := markSS_any w7 (lo := w2.heap.size) (hi := w3.heap.size) (n := n) (c := c3) (B := B3) (S := cpS S a3 d3) 1 Hx_7.out (by omega) hn HN.out (by rw [sumS_cp]; have := HSZ.out; omega)
  generalize 1 + sumS (cpS S a3 d3) n = EX at hmk
  have hEXn : ¬ ((EX : Nat) : Int) < 0 := by omega
  have HMK := Lib.hid hmk
  clear hmk
  go_wp2_with fail
  refine HMK.out.mono ?_
  rintro e w8 ⟨rfl, hE8, hs8⟩
  clear HMK
  have hz8 : w7.heap.size ≤ w8.heap.size := Nat.le_of_eq hs8.symm
  have hy8 : w8.heap.size ≤ w7.heap.size := Nat.le_of_eq hs8
  clear hs8
  have Ha_8 := Lib.hid (Mtx.exc (by omega) Ha_7.out hE8 (fun g h1 h2 h3 => by omega))
  have Hs_8 := Lib.hid (RowOwn.excS Hs_7.out hE8 (fun g h1 h2 h3 => by omega))
  have Hg_8 := Lib.hid (RowOwn.excS Hg_7.out hE8 (fun g h1 h2 h3 => by omega))
  have HB8 := Lib.hid (HB7.out.trans (hE8.below (B := w.heap.size) (fun g h3 => by omega) (by omega)))
  clear hE8 HB7 Ha_7 Hx_7 Hs_7 Hg_7
  go_wp2_with fail
  refine (eqIntS_same w8 (RowOwn.row (Hg_8.out)) (RowOwn.row (Hs_8.out)) (by omega) (by omega) hK1).mono ?_
  rintro e w10 ⟨rfl, hb10⟩
  have hz10 : w8.heap.size ≤ w10.heap.size := hb10.size
  have Ha_10 := Lib.hid (Mtx.below (B := w8.heap.size) (by omega) Ha_8.out hb10)
  have Hs_10 := Lib.hid (OwnI.below (B := w8.heap.size) (by omega) Hs_8.out hb10)
  have Hg_10 := Lib.hid (OwnI.below (B := w8.heap.size) (by omega) Hg_8.out hb10)
  have HB10 := Lib.hid (HB8.out.trans (hb10.mono HB8.out.size))
  clear hb10 HB8 Ha_8 Hs_8 Hg_8
  have hEGn : ¬ (1 : Int) + K < 0 := by omega
  have hEGx : (((1 : Int) + K) != ((1 : Int) + K)) = false := by simp
  go_wp2_with fail
  refine (markIntS_any w10 1 Hg_10.out hK1 (by omega)).mono ?_
  rintro e w11 ⟨hM11, rfl, hG11, hs11⟩
  have hE11 : Exc (fun g => w3.heap.size ≤ g ∧ g < w4.heap.size) w10 w11 := (Exc.refl _ _).grownS (fun g hg => Or.inl ⟨(Hg_10.out.1.lt g hg).1, Hg_10.out.2 g hg⟩) hG11
  have Hg_11 := Lib.hid hM11
  clear hM11 hG11
  have hz11 : w10.heap.size ≤ w11.heap.size := Nat.le_of_eq hs11.symm
  have hy11 : w11.heap.size ≤ w10.heap.size := Nat.le_of_eq hs11
  clear hs11
  have Ha_11 := Lib.hid (Mtx.exc (by omega) Ha_10.out hE11 (fun g h1 h2 h3 => by omega))
  have Hs_11 := Lib.hid (RowOwn.excS Hs_10.out hE11 (fun g h1 h2 h3 => by omega))
  have HB11 := Lib.hid (HB10.out.trans (hE11.below (B := w.heap.size) (fun g h3 => by omega) (by omega)))
  clear hE11 HB10 Ha_10 Hs_10 Hg_10
  go_wp2_with fail
  refine (heldIntS_any w11 1 (RowOwn.row (Hg_11.out)) hK1 (by omega)).mono ?_
  rintro e w9 ⟨rfl, rfl⟩
  go_wp2_with fail
  refine (toSS_any w11 0 w.heap.size A n c S Ha_11.out (by omega) hn HN.out).mono ?_
  rintro e w12 ⟨B12, c12, a12, d12, hO12, rfl, hb12⟩
  have Qv := Lib.hid hO12
  clear hO12
  have hz12 : w11.heap.size ≤ w12.heap.size := hb12.size
  have Ha_12 := Lib.hid (Mtx.below (B := w11.heap.size) (by omega) Ha_11.out hb12)
  have Hs_12 := Lib.hid (OwnI.below (B := w11.heap.size) (by omega) Hs_11.out hb12)
  have Hg_12 := Lib.hid (OwnI.below (B := w11.heap.size) (by omega) Hg_11.out hb12)
  have HB12 := Lib.hid (HB11.out.trans (hb12.mono HB11.out.size))
  clear hb12 HB11 Ha_11 Hs_11 Hg_11
  have Hv_12 := Qv
  clear Qv
  go_wp2_with fail
  refine (HI.out w12 w11.heap.size w12.heap.size B12 c12 a12 d12 (Hv_12.out.mtx.wide (Nat.le_refl _) (by omega)) (Nat.le_refl _)).mono ?_
  rintro e w13 ⟨B13, c13, hO13, rfl, hb13⟩
  have Qy := Lib.hid hO13
  clear hO13
  have hz13 : w12.heap.size ≤ w13.heap.size := hb13.size
  have Ha_13 := Lib.hid (Mtx.below (B := w12.heap.size) (by omega) Ha_12.out hb13)
  have Hv_13 := Lib.hid (MtH.below (B0 := w12.heap.size) (by omega) Hv_12.out hb13)
  have Hs_13 := Lib.hid (OwnI.below (B := w12.heap.size) (by omega) Hs_12.out hb13)
  have Hg_13 := Lib.hid (OwnI.below (B := w12.heap.size) (by omega) Hg_12.out hb13)
  have HB13 := Lib.hid (HB12.out.trans (hb13.mono HB12.out.size))
  clear hb13 HB12 Ha_12 Hv_12 Hs_12 Hg_12
  have Hy_13 := Qy
  clear Qy
  go_wp2_with fail
  refine (eqIntS_same w13 (RowOwn.row (Hy_13.out)) (RowOwn.row (Hs_13.out)) (by omega) (by omega) hK1).mono ?_
  rintro e w14 ⟨rfl, hb14⟩
  have hz14 : w13.heap.size ≤ w14.heap.size := hb14.size
  have Ha_14 := Lib.hid (Mtx.below (B := w13.heap.size) (by omega) Ha_13.out hb14)
  have Hv_14 := Lib.hid (MtH.below (B0 := w13.heap.size) (by omega) Hv_13.out hb14)
  have Hs_14 := Lib.hid (OwnI.below (B := w13.heap.size) (by omega) Hs_13.out hb14)
  have Hg_14 := Lib.hid (OwnI.below (B := w13.heap.size) (by omega) Hg_13.out hb14)
  have Hy_14 := Lib.hid (OwnI.below (B := w13.heap.size) (by omega) Hy_13.out hb14)
  have HB14 := Lib.hid (HB13.out.trans (hb14.mono HB13.out.size))
  clear hb14 HB13 Ha_13 Hv_13 Hs_13 Hg_13 Hy_13
  go_wp2_with fail
  refine (heldIntS_any w14 1 (RowOwn.row (Hg_14.out)) hK1 (by omega)).mono ?_
  rintro e w9 ⟨rfl, rfl⟩
  go_wp2_with fail
  go_ret
  go_light
  exact ⟨rfl, HB14.out⟩

end Go.Proofs.Ytcdpalpoanlbmaa
namespace Go.Proofs.Ytcdpalpoanlbmaa.fnExactSpeakerRun
open Go.ChangeShapes Go.WideShapes Go.ChangeAt Go.RowKit
set_option linter.unusedVariables false

theorem own : ownKnob Try.prog.godebug = none := by kernel_rfl
theorem laidOut : laidOutB Try.prog = true := by kernel_rfl

set_option maxRecDepth 100000 in
theorem lifted (os : Os) (started : os.Started) (H : Type) (enc : TypeId × Value → H) :
    ReturnsInHanded {} Try.checked os 4 .any (Rows.fnExactSpeakerRunSpec.pre6 enc Try.prog Try.f4 Rows.fnExactSpeakerRunRow.domain false) (Rows.fnExactSpeakerRunSpec.post enc Try.prog Try.f4 false true false false) := by
  refine returnsInHanded_of_change (C := Try.checked) own started (by kernel_rfl) Try.func4
    (ChangeSpec.witness6 (enc := enc) (C := Try.checked) false ⟨#[], #[.slice none 0 0], []⟩ 8 (by kernel_rfl) (by kernel_rfl) (by kernel_rfl) (by kernel_rfl)) ?_
  intro W base args ds gs before hval0 hW hcnd _
  have hval : ∀ (j : Nat) t v, Try.f4.params[j]? = some t → args[j]? = some v → Value.okWide Try.prog W .any base t v := hval0
  have hW' := hW
  obtain ⟨p, q, hA0, hV, rfl, hfz, hnd⟩ := hW
  have hA : DataW.TrodAll enc Try.prog W 0 (fun _ => true) true Try.f4.params.toList args.toList ds p := hA0
  rw [Try.params4] at hA hval
  obtain ⟨v0, vs0, d0, ds0, p0, q0, hargs, rfl, rfl, h0, r0⟩ := trodAll_cons hA
  obtain ⟨rfl, rfl, rfl⟩ := trodAll_nil r0
  obtain rfl : args = #[v0] := by cases args; simp_all
  obtain ⟨rfl, rfl⟩ := trodVars_none hV
  have k0 := h0
  have lt0 : ∀ x ∈ p0, x.block < W.heap.size := by obtain ⟨m, hm⟩ := k0; exact DataW.trod_lt m _ _ _ hm
  obtain ⟨a0, n0, c0, z0, rfl, w0, l0, m0⟩ := open_intss (hval 0 23 v0 rfl rfl) h0
  clear hA0 hval0
  refine (walk_FnExactSpeakerRun a0 n0 c0 z0 W w0 l0 m0).mono fun e W' ⟨he, bel⟩ => ?_
  subst he
  exact ⟨_, rfl, _, _, _, [], _, [], hW', trodAll_mk1 (shut_bool Try.underlying4 _), (trodAll_cons_mk (Below.trod laidOut (by kernel_rfl) (of_decide_eq_true (by kernel_rfl)) k0 bel lt0) trodAll_mk0), rfl, bel.frame _, fun h => by cases h⟩

theorem over : Rows.fnExactSpeakerRunRow.holds Try.pinned (OpenSpec.ofChange Rows.fnExactSpeakerRunSpec) :=
  OpenClaim.holds_of_wide 4 Try.f4 rfl rfl rfl rfl rfl rfl rfl ⟨rfl, rfl, rfl, rfl, rfl⟩ rfl rfl rfl rfl rfl (by kernel_rfl) Try.func4 (by kernel_rfl)
    (of_decide_eq_true (by kernel_rfl)) (by unfold Func.isWrapper; first | (rw [if_pos (by decide +kernel)]; kernel_rfl) | (rw [if_neg (by decide +kernel)]; exact ⟨rfl, rfl⟩))
    (fun os started H enc _ => lifted os started H enc)

/-- The statement. -/
theorem proved : Rows.FnExactSpeakerRunSaid := over
#print axioms proved
end Go.Proofs.Ytcdpalpoanlbmaa.fnExactSpeakerRun
