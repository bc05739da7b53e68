/- The law FnExactRoomHear of the program is true at every input: the call returns true, and each argument reads behind the call as before. Conditions: none. -/
import Derived.Test.YtelcclhaepfmgaaRxl
import Derived.WalkKit
import Derived.ProofKit
import Derived.OpenShut
import Derived.ShutString
import Derived.ChangeOld
import Derived.Below
import Derived.IntWalk
namespace Go.Proofs.Ytelcclhaepfmgaa
open Go.RowKit
set_option linter.unusedVariables false
set_option linter.unusedSimpArgs false

set_option maxRecDepth 100000 in
set_option maxHeartbeats 32000000 in
theorem walk_FnExactRoomHear (A : Option Addr) (n c : Nat) (M : Nat → Mb) (id other : Int) (on : Bool) (w : World) (h : Room w 0 w.heap.size A n M) (hm : n ≤ maxLen) (hm2 : ∀ i, i < n → (M i).p.n ≤ maxLen) (hwf : (Lit.int .i64 id).wf = true) (hwf2 : (Lit.int .i64 other).wf = true) :
    Calls Try.prog 15 #[.slice A n c, .int .i64 id, .int .i64 other, .bool on] w fun e w' => e = .returned (.bool true) ∧ Below w.heap.size w w' := by
  have H := Lib.hid h
  have HM2 := Lib.hid hm2
  unfold maxLen at hm
  clear h hm2
  by_cases hn0 : 1048576 < n
  · go_enter Try.func15, Try.ntmps15
    go_wp2_with fail
    refine (szMb_big w A n c hn0 (by omega)).mono ?_
    rintro e w0 ⟨rfl, hb0⟩
    go_wp2_with fail
    go_ret
    go_light
    exact ⟨rfl, hb0⟩
  have hn : n ≤ 1048576 := by omega
  by_cases hs0 : 1048576 < n + sumN M n
  · go_enter Try.func15, Try.ntmps15
    go_wp2_with fail
    refine (szMb_out w 0 w.heap.size A n c M H.out.1 (Nat.le_refl _) hn hs0 (fun i hi => by have := HM2.out i hi; unfold maxLen at this; omega)).mono ?_
    rintro e w0 ⟨rfl, hb0⟩
    go_wp2_with fail
    go_ret
    go_light
    exact ⟨rfl, hb0⟩
  have hs1 : n + sumN M n ≤ 1048576 := by omega
  have HN := Lib.hid (show ∀ i, i < n → (M i).p.n ≤ 1048576 from fun i hi => by have := sumN_at M hi; omega)
  have HSZ := Lib.hid hs1
  clear hn0 hs0 hm HM2 hs1
  obtain ⟨K, F, ok, ⟨hK6, hF⟩, hi, hs⟩ := exHear (plain M) n id other on hn HN.out
  have HF := Lib.hid hF
  have hK1 : K ≤ 1048576 := by omega
  have HI := Lib.hid hi
  have HS := Lib.hid hs
  clear hi hs hF
  go_enter Try.func15, Try.ntmps15
  go_wp2_with fail
  refine (szMb_in w 0 w.heap.size A n c M H.out.1 (Nat.le_refl _) HSZ.out).mono ?_
  rintro e w0 ⟨⟨left, hleft, rfl⟩, hb0⟩
  have hlb : ¬ left < 0 := by omega
  have hz0 : w.heap.size ≤ w0.heap.size := hb0.size
  have Ha_0 := Lib.hid (H.out.below (Nat.le_refl _) hb0)
  have HB0 := Lib.hid hb0
  clear hb0 H hleft
  go_wp2_with fail
  refine ((toMb_any w0 0 w.heap.size A n c M Ha_0.out (by omega) hn HN.out).mono (fun e w' hr => hr.full)).mono ?_
  rintro e w1 ⟨B1, c1, M1, he1, hO1, rfl, hb1⟩
  have Et := Lib.hid he1
  have Qt := Lib.hid hO1.rh
  clear he1 hO1
  have hz1 : w0.heap.size ≤ w1.heap.size := hb1.size
  have Ha_1 := Lib.hid (Room.below (B := w0.heap.size) (by omega) Ha_0.out hb1)
  have HB1 := Lib.hid (HB0.out.trans (hb1.mono HB0.out.size))
  clear hb1 HB0 Ha_0 
  have Ht_1 := Qt
  clear Qt
  have hct : n ≤ c1 := own_leR Ht_1.out.row
  go_wp2_with fail
  refine (HS.out w1 w0.heap.size w1.heap.size B1 c1 M1 Et.out (Ht_1.out.room.wide (Nat.le_refl _) (by omega)) (Nat.le_refl _) hct).mono ?_
  rintro e w2 ⟨B2, c2, M2, he2, hO2, rfl, hb2⟩
  have Es := Lib.hid he2
  have Qs := Lib.hid hO2.rh
  clear he2 hO2
  have hz2 : w1.heap.size ≤ w2.heap.size := hb2.size
  have Ha_2 := Lib.hid (Room.below (B := w1.heap.size) (by omega) Ha_1.out hb2)
  have Ht_2 := Lib.hid (RmH.below (B0 := w1.heap.size) (by omega) Ht_1.out hb2)
  have HB2 := Lib.hid (HB1.out.trans (hb2.mono HB1.out.size))
  clear hb2 HB1 Ha_1 Ht_1
  have Hs_2 := Qs
  clear Qs
  have hcs : K ≤ c2 := own_leR Hs_2.out.row
  go_wp2_with fail
  refine ((toMb_any w2 0 w.heap.size A n c M Ha_2.out (by omega) hn HN.out).mono (fun e w' hr => hr.full)).mono ?_
  rintro e w3 ⟨B3, c3, M3, he3, hO3, rfl, hb3⟩
  have Ex := Lib.hid he3
  have Qx := Lib.hid hO3.rh
  clear he3 hO3
  have hz3 : w2.heap.size ≤ w3.heap.size := hb3.size
  have Ha_3 := Lib.hid (Room.below (B := w2.heap.size) (by omega) Ha_2.out hb3)
  have Ht_3 := Lib.hid (RmH.below (B0 := w2.heap.size) (by omega) Ht_2.out hb3)
  have Hs_3 := Lib.hid (RmH.below (B0 := w2.heap.size) (by omega) Hs_2.out hb3)
  have HB3 := Lib.hid (HB2.out.trans (hb3.mono HB2.out.size))
  clear hb3 HB2 Ha_2 Ht_2 Hs_2
  have Hx_3 := Qx
  clear Qx
  have hcx : n ≤ c3 := own_leR Hx_3.out.row
  go_wp2_with fail
  refine (HI.out w3 w2.heap.size w3.heap.size B3 c3 M3 Ex.out (Hx_3.out.room.wide (Nat.le_refl _) (by omega)) (Nat.le_refl _) hcx).mono ?_
  rintro e w4 ⟨B4, c4, M4, he4, hO4, rfl, hb4⟩
  have Eg := Lib.hid he4
  have Qg := Lib.hid hO4.rh
  clear he4 hO4
  have hz4 : w3.heap.size ≤ w4.heap.size := hb4.size
  have Ha_4 := Lib.hid (Room.below (B := w3.heap.size) (by omega) Ha_3.out hb4)
  have Ht_4 := Lib.hid (RmH.below (B0 := w3.heap.size) (by omega) Ht_3.out hb4)
  have Hs_4 := Lib.hid (RmH.below (B0 := w3.heap.size) (by omega) Hs_3.out hb4)
  have Hx_4 := Lib.hid (RmH.below (B0 := w3.heap.size) (by omega) Hx_3.out hb4)
  have HB4 := Lib.hid (HB3.out.trans (hb4.mono HB3.out.size))
  clear hb4 HB3 Ha_3 Ht_3 Hs_3 Hx_3
  have Hg_4 := Qg
  clear Qg
  have hcg : K ≤ c4 := own_leR Hg_4.out.row
  go_wp2_with fail
  refine (eqMb_same w4 (Hg_4.out.room) (Hs_4.out.room) (by omega) (by omega) hK1 (fun i hi => by rw [show (M4 i).p = F i from congrFun Eg.out i]; have := HF.out i hi; omega) (fun i hi => congrFun (Eg.out.trans Es.out.symm) i)).mono ?_
  rintro e w5 ⟨rfl, hb5⟩
  have hz5 : w4.heap.size ≤ w5.heap.size := hb5.size
  have Ha_5 := Lib.hid (Room.below (B := w4.heap.size) (by omega) Ha_4.out hb5)
  have Ht_5 := Lib.hid (RmH.below (B0 := w4.heap.size) (by omega) Ht_4.out hb5)
  have Hs_5 := Lib.hid (RmH.below (B0 := w4.heap.size) (by omega) Hs_4.out hb5)
  have Hx_5 := Lib.hid (RmH.below (B0 := w4.heap.size) (by omega) Hx_4.out hb5)
  have Hg_5 := Lib.hid (RmH.below (B0 := w4.heap.size) (by omega) Hg_4.out hb5)
  have HB5 := Lib.hid (HB4.out.trans (hb5.mono HB4.out.size))
  clear hb5 HB4 Ha_4 Ht_4 Hs_4 Hx_4 Hg_4
  go_wp2_with fail
  refine ((toMb_any w5 0 w.heap.size A n c M Ha_5.out (by omega) hn HN.out).mono (fun e w' hr => hr.full)).mono ?_
  rintro e w6 ⟨B6, c6, M6, he6, hO6, rfl, hb6⟩
  have Eu := Lib.hid he6
  have Qu := Lib.hid hO6.rh
  clear he6 hO6
  have hz6 : w5.heap.size ≤ w6.heap.size := hb6.size
  have Ha_6 := Lib.hid (Room.below (B := w5.heap.size) (by omega) Ha_5.out hb6)
  have Ht_6 := Lib.hid (RmH.below (B0 := w5.heap.size) (by omega) Ht_5.out hb6)
  have Hs_6 := Lib.hid (RmH.below (B0 := w5.heap.size) (by omega) Hs_5.out hb6)
  have Hx_6 := Lib.hid (RmH.below (B0 := w5.heap.size) (by omega) Hx_5.out hb6)
  have Hg_6 := Lib.hid (RmH.below (B0 := w5.heap.size) (by omega) Hg_5.out hb6)
  have HB6 := Lib.hid (HB5.out.trans (hb6.mono HB5.out.size))
  clear hb6 HB5 Ha_5 Ht_5 Hs_5 Hx_5 Hg_5
  have Hu_6 := Qu
  clear Qu
  have hcu : n ≤ c6 := own_leR Hu_6.out.row
  go_wp2_with fail
  refine (eqMb_same w6 (Hx_6.out.room) (Hu_6.out.room) (by omega) (by omega) hn (fun i hi => by rw [show (M3 i).p = (M i).p from congrFun Ex.out i]; exact HN.out i hi) (fun i hi => congrFun (Ex.out.trans Eu.out.symm) i)).mono ?_
  rintro e w7 ⟨rfl, hb7⟩
  have hz7 : w6.heap.size ≤ w7.heap.size := hb7.size
  have Ha_7 := Lib.hid (Room.below (B := w6.heap.size) (by omega) Ha_6.out hb7)
  have Ht_7 := Lib.hid (RmH.below (B0 := w6.heap.size) (by omega) Ht_6.out hb7)
  have Hs_7 := Lib.hid (RmH.below (B0 := w6.heap.size) (by omega) Hs_6.out hb7)
  have Hx_7 := Lib.hid (RmH.below (B0 := w6.heap.size) (by omega) Hx_6.out hb7)
  have Hg_7 := Lib.hid (RmH.below (B0 := w6.heap.size) (by omega) Hg_6.out hb7)
  have Hu_7 := Lib.hid (RmH.below (B0 := w6.heap.size) (by omega) Hu_6.out hb7)
  have HB7 := Lib.hid (HB6.out.trans (hb7.mono HB6.out.size))
  clear hb7 HB6 Ha_6 Ht_6 Hs_6 Hx_6 Hg_6 Hu_6
  obtain ⟨EX, hEX⟩ : ∃ EX, endQ M3 1 n = EX := ⟨_, rfl⟩
  have hEXb : endQ M3 1 n ≤ 100000000 := by unfold endQ; rw [sumN_plain Ex.out]; have := HSZ.out; omega
  have HEX := Lib.hid hEX
  have HEXb := Lib.hid hEXb
  clear hEX hEXb
  have hEXn : ¬ ((EX : Nat) : Int) < 0 := by omega
  clear Ht_7 Et
  clear Hu_7 Eu
  have hmk := markMb_any w7 (lo := w2.heap.size) (hi := w3.heap.size) (n := n) (c := c3) (B := B3) (M := M3) 1 Hx_7.out (by omega) hn (fun i hi => by rw [show (M3 i).p = (M i).p from congrFun Ex.out i]; exact HN.out i hi) HEXb.out
  rw [HEX.out] at hmk
  have HMK := Lib.hid hmk
  clear hmk
  go_wp2_with fail
  refine HMK.out.mono ?_
  rintro e w8 ⟨hM8, rfl, hE8, hs8⟩
  clear HMK
  have Hx_8 := Lib.hid hM8
  clear hM8
  have hz8 : w7.heap.size ≤ w8.heap.size := Nat.le_of_eq hs8.symm
  have hy8 : w8.heap.size ≤ w7.heap.size := Nat.le_of_eq hs8
  clear hs8
  have Ha_8 := Lib.hid (Room.excR (by omega) Ha_7.out hE8 (fun g h1 h2 h3 => by omega))
  have Hs_8 := Lib.hid (Hs_7.out.exc hE8 (fun g h1 h2 h3 => by omega))
  have Hg_8 := Lib.hid (Hg_7.out.exc hE8 (fun g h1 h2 h3 => by omega))
  have HB8 := Lib.hid (HB7.out.trans (hE8.below (B := w.heap.size) (fun g h3 => by omega) (by omega)))
  clear hE8 HB7 Ha_7 Hs_7 Hx_7 Hg_7
  clear Hx_8 Ex HEX HEXb
  go_wp2_with fail
  refine (eqMb_same w8 (Hg_8.out.room) (Hs_8.out.room) (by omega) (by omega) hK1 (fun i hi => by rw [show (M4 i).p = F i from congrFun Eg.out i]; have := HF.out i hi; omega) (fun i hi => congrFun (Eg.out.trans Es.out.symm) i)).mono ?_
  rintro e w10 ⟨rfl, hb10⟩
  have hz10 : w8.heap.size ≤ w10.heap.size := hb10.size
  have Ha_10 := Lib.hid (Room.below (B := w8.heap.size) (by omega) Ha_8.out hb10)
  have Hs_10 := Lib.hid (RmH.below (B0 := w8.heap.size) (by omega) Hs_8.out hb10)
  have Hg_10 := Lib.hid (RmH.below (B0 := w8.heap.size) (by omega) Hg_8.out hb10)
  have HB10 := Lib.hid (HB8.out.trans (hb10.mono HB8.out.size))
  clear hb10 HB8 Ha_8 Hs_8 Hg_8
  obtain ⟨EG, hEG⟩ : ∃ EG, endQ M4 1 K = EG := ⟨_, rfl⟩
  have hEGb : endQ M4 1 K ≤ 100000000 := by unfold endQ; have := sumN_bd (M := M4) (k := K) (fun i hi => by rw [show (M4 i).p = F i from congrFun Eg.out i]; exact HF.out i hi); omega
  have HEG := Lib.hid hEG
  have HEGb := Lib.hid hEGb
  clear hEG hEGb
  have hEGn : ¬ ((EG : Nat) : Int) < 0 := by omega
  have hEGx : (((EG : Nat) : Int) != ((EG : Nat) : Int)) = false := by simp
  have hmk := markMb_any w10 (lo := w3.heap.size) (hi := w4.heap.size) (n := K) (c := c4) (B := B4) (M := M4) 1 Hg_10.out (by omega) hK1 (fun i hi => by rw [show (M4 i).p = F i from congrFun Eg.out i]; have := HF.out i hi; omega) HEGb.out
  rw [HEG.out] at hmk
  have HMK := Lib.hid hmk
  clear hmk
  go_wp2_with fail
  refine HMK.out.mono ?_
  rintro e w11 ⟨hM11, rfl, hE11, hs11⟩
  clear HMK
  have Hg_11 := Lib.hid hM11
  clear hM11
  have hz11 : w10.heap.size ≤ w11.heap.size := Nat.le_of_eq hs11.symm
  have hy11 : w11.heap.size ≤ w10.heap.size := Nat.le_of_eq hs11
  clear hs11
  have Ha_11 := Lib.hid (Room.excR (by omega) Ha_10.out hE11 (fun g h1 h2 h3 => by omega))
  have Hs_11 := Lib.hid (Hs_10.out.exc hE11 (fun g h1 h2 h3 => by omega))
  have HB11 := Lib.hid (HB10.out.trans (hE11.below (B := w.heap.size) (fun g h3 => by omega) (by omega)))
  clear hE11 HB10 Ha_10 Hs_10 Hg_10
  have hmk := heldMb_any w11 (lo := w3.heap.size) (hi := w4.heap.size) (n := K) (c := c4) (B := B4) (M := M4) 1 Hg_11.out.room hK1 (fun i hi => by rw [show (M4 i).p = F i from congrFun Eg.out i]; have := HF.out i hi; omega) HEGb.out
  rw [HEG.out] at hmk
  have HMK := Lib.hid hmk
  clear hmk
  go_wp2_with fail
  refine HMK.out.mono ?_
  rintro e w9 ⟨rfl, rfl⟩
  clear HMK
  go_wp2_with fail
  refine ((toMb_any w11 0 w.heap.size A n c M Ha_11.out (by omega) hn HN.out).mono (fun e w' hr => hr.full)).mono ?_
  rintro e w12 ⟨B12, c12, M12, he12, hO12, rfl, hb12⟩
  have Ev := Lib.hid he12
  have Qv := Lib.hid hO12.rh
  clear he12 hO12
  have hz12 : w11.heap.size ≤ w12.heap.size := hb12.size
  have Ha_12 := Lib.hid (Room.below (B := w11.heap.size) (by omega) Ha_11.out hb12)
  have Hs_12 := Lib.hid (RmH.below (B0 := w11.heap.size) (by omega) Hs_11.out hb12)
  have Hg_12 := Lib.hid (RmH.below (B0 := w11.heap.size) (by omega) Hg_11.out hb12)
  have HB12 := Lib.hid (HB11.out.trans (hb12.mono HB11.out.size))
  clear hb12 HB11 Ha_11 Hs_11 Hg_11
  have Hv_12 := Qv
  clear Qv
  have hcv : n ≤ c12 := own_leR Hv_12.out.row
  go_wp2_with fail
  refine (HI.out w12 w11.heap.size w12.heap.size B12 c12 M12 Ev.out (Hv_12.out.room.wide (Nat.le_refl _) (by omega)) (Nat.le_refl _) hcv).mono ?_
  rintro e w13 ⟨B13, c13, M13, he13, hO13, rfl, hb13⟩
  have Ey := Lib.hid he13
  have Qy := Lib.hid hO13.rh
  clear he13 hO13
  have hz13 : w12.heap.size ≤ w13.heap.size := hb13.size
  have Ha_13 := Lib.hid (Room.below (B := w12.heap.size) (by omega) Ha_12.out hb13)
  have Hs_13 := Lib.hid (RmH.below (B0 := w12.heap.size) (by omega) Hs_12.out hb13)
  have Hg_13 := Lib.hid (RmH.below (B0 := w12.heap.size) (by omega) Hg_12.out hb13)
  have Hv_13 := Lib.hid (RmH.below (B0 := w12.heap.size) (by omega) Hv_12.out hb13)
  have HB13 := Lib.hid (HB12.out.trans (hb13.mono HB12.out.size))
  clear hb13 HB12 Ha_12 Hs_12 Hg_12 Hv_12
  have Hy_13 := Qy
  clear Qy
  have hcy : K ≤ c13 := own_leR Hy_13.out.row
  go_wp2_with fail
  refine (eqMb_same w13 (Hy_13.out.room) (Hs_13.out.room) (by omega) (by omega) hK1 (fun i hi => by rw [show (M13 i).p = F i from congrFun Ey.out i]; have := HF.out i hi; omega) (fun i hi => congrFun (Ey.out.trans Es.out.symm) i)).mono ?_
  rintro e w14 ⟨rfl, hb14⟩
  have hz14 : w13.heap.size ≤ w14.heap.size := hb14.size
  have Ha_14 := Lib.hid (Room.below (B := w13.heap.size) (by omega) Ha_13.out hb14)
  have Hs_14 := Lib.hid (RmH.below (B0 := w13.heap.size) (by omega) Hs_13.out hb14)
  have Hg_14 := Lib.hid (RmH.below (B0 := w13.heap.size) (by omega) Hg_13.out hb14)
  have Hv_14 := Lib.hid (RmH.below (B0 := w13.heap.size) (by omega) Hv_13.out hb14)
  have Hy_14 := Lib.hid (RmH.below (B0 := w13.heap.size) (by omega) Hy_13.out hb14)
  have HB14 := Lib.hid (HB13.out.trans (hb14.mono HB13.out.size))
  clear hb14 HB13 Ha_13 Hs_13 Hg_13 Hv_13 Hy_13
  have hmk := heldMb_any w14 (lo := w3.heap.size) (hi := w4.heap.size) (n := K) (c := c4) (B := B4) (M := M4) 1 Hg_14.out.room hK1 (fun i hi => by rw [show (M4 i).p = F i from congrFun Eg.out i]; have := HF.out i hi; omega) HEGb.out
  rw [HEG.out] at hmk
  have HMK := Lib.hid hmk
  clear hmk
  go_wp2_with fail
  refine HMK.out.mono ?_
  rintro e w9 ⟨rfl, rfl⟩
  clear HMK
  go_wp2_with fail
  go_ret
  go_light
  exact ⟨rfl, HB14.out⟩

end Go.Proofs.Ytelcclhaepfmgaa
namespace Go.Proofs.Ytelcclhaepfmgaa.fnExactRoomHear
open Go.ChangeShapes Go.WideShapes Go.ChangeAt Go.RowKit
set_option linter.unusedVariables false

theorem own : ownKnob Try.prog.godebug = none := by kernel_rfl
theorem laidOut : laidOutB Try.prog = true := by kernel_rfl

set_option maxRecDepth 100000 in
theorem lifted (os : Os) (started : os.Started) (H : Type) (enc : TypeId × Value → H) :
    ReturnsInHanded {} Try.checked os 15 .any (Rows.fnExactRoomHearSpec.pre6 enc Try.prog Try.f15 Rows.fnExactRoomHearRow.domain false) (Rows.fnExactRoomHearSpec.post enc Try.prog Try.f15 false true false false) := by
  refine returnsInHanded_of_change (C := Try.checked) own started (by kernel_rfl) Try.func15
    (ChangeSpec.witness6 (enc := enc) (C := Try.checked) false ⟨#[], #[.slice none 0 0, .int .i64 0, .int .i64 0, .bool false], []⟩ 8 (by kernel_rfl) (by kernel_rfl) (by kernel_rfl) (by kernel_rfl)) ?_
  intro W base args ds gs before hval0 hW hcnd _
  have hval : ∀ (j : Nat) t v, Try.f15.params[j]? = some t → args[j]? = some v → Value.okWide Try.prog W .any base t v := hval0
  have hW' := hW
  obtain ⟨p, q, hA0, hV, rfl, hfz, hnd⟩ := hW
  have hA : DataW.TrodAll enc Try.prog W 0 (fun _ => true) true Try.f15.params.toList args.toList ds p := hA0
  rw [Try.params15] at hA hval
  obtain ⟨v0, vs0, d0, ds0, p0, q0, hargs, rfl, rfl, h0, r0⟩ := trodAll_cons hA
  obtain ⟨v1, vs1, d1, ds1, p1, q1, rfl, rfl, rfl, h1, r1⟩ := trodAll_cons r0
  obtain ⟨v2, vs2, d2, ds2, p2, q2, rfl, rfl, rfl, h2, r2⟩ := trodAll_cons r1
  obtain ⟨v3, vs3, d3, ds3, p3, q3, rfl, rfl, rfl, h3, r3⟩ := trodAll_cons r2
  obtain ⟨rfl, rfl, rfl⟩ := trodAll_nil r3
  obtain rfl : args = #[v0, v1, v2, v3] := by cases args; simp_all
  obtain ⟨rfl, rfl⟩ := trodVars_none hV
  have k0 := h0
  have lt0 : ∀ x ∈ p0, x.block < W.heap.size := by obtain ⟨m, hm⟩ := k0; exact DataW.trod_lt m _ _ _ hm
  obtain ⟨a0, n0, c0, z0, rfl, w0, l0, m0⟩ := open_members (hval 0 45 v0 rfl rfl) h0
  obtain ⟨a1, rfl, rfl, rfl, w1⟩ := open_int Try.underlying3 (hval 1 3 v1 rfl rfl) h1
  obtain ⟨a2, rfl, rfl, rfl, w2⟩ := open_int Try.underlying3 (hval 2 3 v2 rfl rfl) h2
  obtain ⟨a3, rfl, rfl, rfl⟩ := open_bool Try.underlying4 (hval 3 4 v3 rfl rfl) h3
  clear hA0 hval0
  refine (walk_FnExactRoomHear a0 n0 c0 z0 a1 a2 a3 W w0 l0 m0 w1 w2).mono fun e W' ⟨he, bel⟩ => ?_
  subst he
  exact ⟨_, rfl, _, _, _, [], _, [], hW', trodAll_mk1 (shut_bool Try.underlying4 _), (trodAll_cons_mk (Below.trod laidOut (by kernel_rfl) (of_decide_eq_true (by kernel_rfl)) k0 bel lt0) (trodAll_cons_mk (shut_int Try.underlying3 w1) (trodAll_cons_mk (shut_int Try.underlying3 w2) (trodAll_cons_mk (shut_bool Try.underlying4 _) trodAll_mk0)))), rfl, bel.frame _, fun h => by cases h⟩

theorem over : Rows.fnExactRoomHearRow.holds Try.pinned (OpenSpec.ofChange Rows.fnExactRoomHearSpec) :=
  OpenClaim.holds_of_wide 15 Try.f15 rfl rfl rfl rfl rfl rfl rfl ⟨rfl, rfl, rfl, rfl, rfl⟩ rfl rfl rfl rfl rfl (by kernel_rfl) Try.func15 (by kernel_rfl)
    (of_decide_eq_true (by kernel_rfl)) (by unfold Func.isWrapper; first | (rw [if_pos (by decide +kernel)]; kernel_rfl) | (rw [if_neg (by decide +kernel)]; exact ⟨rfl, rfl⟩))
    (fun os started H enc _ => lifted os started H enc)

/-- The statement. -/
theorem proved : Rows.FnExactRoomHearSaid := over
#print axioms proved
end Go.Proofs.Ytelcclhaepfmgaa.fnExactRoomHear
