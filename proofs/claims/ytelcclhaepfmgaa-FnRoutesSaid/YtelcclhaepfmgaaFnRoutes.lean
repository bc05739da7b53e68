/- The law FnRoutes of the program is true at every input: the call returns true, and each argument reads behind the call as before. Conditions: none. -/
import Derived.Test.YtelcclhaepfmgaaRly
import Derived.WalkKit
import Derived.ProofKit
import Derived.OpenShut
import Derived.ShutString
import Derived.ChangeOld
import Derived.Below
import Derived.IntWalk
import Derived.Deep.DeepCutAuto
namespace Go.Proofs.Ytelcclhaepfmgaa
open Go.RowKit
set_option linter.unusedVariables false
set_option linter.unusedSimpArgs false

set_option maxRecDepth 100000 in
set_option maxHeartbeats 16000000 in
theorem walk_FnRoutes (A : Option Addr) (n c : Nat) (w : World) (h : IsInts .u8 w A n c) :
    Calls Try.prog 6 #[.slice A n c] w fun e w' => e = .returned (.bool true) ∧ Below w.heap.size w w' := by
  have H := Lib.hid h
  clear h
  by_cases hn0 : 1048576 < n
  · go_enter Try.func6, Try.ntmps6
    go_wp2_with fail
    go_ret
    exact ⟨rfl, Below.refl _ _⟩
  · have hn : n ≤ 1048576 := by omega
    clear hn0
    go_enter Try.func6, Try.ntmps6
    go_wp2_with fail
    refine (draw_rmr w A n c H.out hn).mono ?_
    intro e w1 hm
    obtain ⟨B1, c1, n1, M1, v, hnf, hO1, hn6, hbd, ⟨id, rfl⟩, rfl, hb1⟩ := hm.norm
    have NF := Lib.hid hnf
    have RL_1 := Lib.hid hO1
    have BD := Lib.hid hbd
    have HB1 := Lib.hid hb1
    have hz1 := hb1.size
    have hnn : n1 ≤ 1048576 := by omega
    have hnc : n1 ≤ c1 := own_leR hO1.row
    clear hm hnf hO1 hbd hb1
    obtain ⟨q, hq⟩ : ∃ q, (routeL n1 (plain M1) id).length = q := ⟨_, rfl⟩
    have hi := fun W (hW : RmO w.heap.size B1 n1 c1 M1 W) => irt_any W w.heap.size W.heap.size B1 n1 c1 M1 id hW.room (Nat.le_refl _) hnn BD.out
    have hs := fun W (hW : RmO w.heap.size B1 n1 c1 M1 W) => srt_any W w.heap.size W.heap.size B1 n1 c1 M1 id hW.room (Nat.le_refl _) hnn BD.out
    unfold IntsRet at hi hs
    rw [hq] at hi hs
    have HI := Lib.hid hi
    have HS := Lib.hid hs
    have HQ := Lib.hid hq
    have hq6 : q ≤ 6 := by
      rw [← hq]
      unfold routeL
      split
      · have := rtL_len (plain M1) id n1
        omega
      · simp
    clear hi hs hq
    go_wp2_with fail
    refine (HI.out _ RL_1.out).mono ?_
    rintro e w2 ⟨B2, c2, hO2, rfl, hb2⟩
    have Zn2 := Lib.hid hO2
    clear hO2
    have RL_2 := Lib.hid (RL_1.out.below hb2)
    have HB2 := Lib.hid (HB1.out.trans (hb2.mono HB1.out.size))
    have hz2 : w1.heap.size ≤ w2.heap.size := hb2.size
    clear hb2 HB1 RL_1
    have ZO_2 := Zn2
    clear Zn2
    go_wp2_with fail
    refine (HS.out _ RL_2.out).mono ?_
    rintro e w3 ⟨B3, c3, hO3, rfl, hb3⟩
    have Zn3 := Lib.hid hO3
    clear hO3
    have RL_3 := Lib.hid (RL_2.out.below hb3)
    have ZO_3 := Lib.hid ((ZO_2.out.below (Nat.le_refl _) hb3).wide (Nat.le_refl _) hb3.size)
    have HB3 := Lib.hid (HB2.out.trans (hb3.mono HB2.out.size))
    have hz3 : w2.heap.size ≤ w3.heap.size := hb3.size
    clear hb3 HB2 RL_2 ZO_2
    have ZW_3 := Zn3
    clear Zn3
    go_wp2_with fail
    refine (sameInts_same _ (ZO_3.out.ints) (ZW_3.out.ints) (Nat.le_refl _) (Nat.le_refl _) (by omega)).mono ?_
    rintro e w4 ⟨rfl, hb4⟩
    have RL_4 := Lib.hid (RL_3.out.below hb4)
    have ZO_4 := Lib.hid ((ZO_3.out.below (Nat.le_refl _) hb4).wide (Nat.le_refl _) hb4.size)
    have ZW_4 := Lib.hid ((ZW_3.out.below (Nat.le_refl _) hb4).wide (Nat.le_refl _) hb4.size)
    have HB4 := Lib.hid (HB3.out.trans (hb4.mono HB3.out.size))
    have hz4 : w3.heap.size ≤ w4.heap.size := hb4.size
    clear hb4 HB3 RL_3 ZO_3  ZW_3
    have hv := fun W (hW : RmO w.heap.size B1 n1 c1 M1 W) => srv_any W w.heap.size W.heap.size B1 n1 c1 M1 hW.room (Nat.le_refl _) hnn BD.out
    by_cases hok : RmOk n1 (plain M1)
    rotate_left
    · rw [show rmB n1 (plain M1) = false from decide_eq_false hok] at hv
      have HV := Lib.hid hv
      clear hv hok
      go_wp2_with fail
      refine (HV.out _ RL_4.out).mono ?_
      rintro e w5 ⟨rfl, hb5⟩
      have RL_5 := Lib.hid (RL_4.out.below hb5)
      have ZO_5 := Lib.hid ((ZO_4.out.below (Nat.le_refl _) hb5).wide (Nat.le_refl _) hb5.size)
      have ZW_5 := Lib.hid ((ZW_4.out.below (Nat.le_refl _) hb5).wide (Nat.le_refl _) hb5.size)
      have HB5 := Lib.hid (HB4.out.trans (hb5.mono HB4.out.size))
      have hz5 : w4.heap.size ≤ w5.heap.size := hb5.size
      clear hb5 HB4 RL_4 ZO_4  ZW_4
      go_wp2_with fail
      refine (sameInts_same _ (ZO_5.out.ints) (ZW_5.out.ints) (Nat.le_refl _) (Nat.le_refl _) (by omega)).mono ?_
      rintro e w6 ⟨rfl, hb6⟩
      have RL_6 := Lib.hid (RL_5.out.below hb6)
      have ZO_6 := Lib.hid ((ZO_5.out.below (Nat.le_refl _) hb6).wide (Nat.le_refl _) hb6.size)
      have ZW_6 := Lib.hid ((ZW_5.out.below (Nat.le_refl _) hb6).wide (Nat.le_refl _) hb6.size)
      have HB6 := Lib.hid (HB5.out.trans (hb6.mono HB5.out.size))
      have hz6 : w5.heap.size ≤ w6.heap.size := hb6.size
      clear hb6 HB5 RL_5 ZO_5  ZW_5
      go_wp2_with fail
      go_ret
      go_light
      exact ⟨rfl, HB6.out⟩
    rw [show rmB n1 (plain M1) = true from decide_eq_true hok] at hv
    have HV := Lib.hid hv
    have HK := Lib.hid hok
    clear hv hok
    go_wp2_with fail
    refine (HV.out _ RL_4.out).mono ?_
    rintro e w5 ⟨rfl, hb5⟩
    have RL_5 := Lib.hid (RL_4.out.below hb5)
    have ZO_5 := Lib.hid ((ZO_4.out.below (Nat.le_refl _) hb5).wide (Nat.le_refl _) hb5.size)
    have ZW_5 := Lib.hid ((ZW_4.out.below (Nat.le_refl _) hb5).wide (Nat.le_refl _) hb5.size)
    have HB5 := Lib.hid (HB4.out.trans (hb5.mono HB4.out.size))
    have hz5 : w4.heap.size ≤ w5.heap.size := hb5.size
    clear hb5 HB4 RL_4 ZO_4  ZW_4
    go_wp2_with fail
    go_loopw [7, 8] (fun s i wr => ∃ (k : Nat) (b : Bool), k ≤ n1 ∧ i = .int .i64 (k : Nat) ∧ s = .bool b ∧ Hid (sB (plain M1) id k = b) ∧ w5 = wr) (fun _ i _ => n1 - (intOf i).toNat)
    case atStart => exact ⟨0, false, Nat.zero_le _, rfl, rfl, Lib.hid sB_zero, rfl⟩
    case round =>
      obtain ⟨k, b, hk, rfl, rfl, HSB, rfl⟩ := hrel
      by_cases hkn : k < n1
      · cases b
        · obtain ⟨d, off, hAe, -, hd2, e0, e1, -⟩ := Mb_at RL_5.out.row.row hkn
          subst hAe
          have hdw : d < w5.heap.size := hd2
          by_cases hid : (M1 k).p.id = id
          · have hidt : ((M1 k).p.id == id) = true := beq_iff_eq.2 hid
            obtain ⟨x, hx⟩ : ∃ x, (M1 k).p.s = x := ⟨_, rfl⟩
            rw [hx] at e1
            have HX := Lib.hid hx
            have HID := Lib.hid hid
            clear hx
            cases x
            · go_wp2_with fail
              go_roundw
              case rel => exact ⟨k + 1, false, by omega, by go_num, rfl, Lib.hid (sB_miss HSB.out (fun h => by have h1 : (M1 k).p.s = true := h.2; rw [HX.out] at h1; cases h1)), (by first | rfl | trivial)⟩
              case measure => simp [intOf]; omega
            · go_wp2_with fail
              go_roundw
              case rel => exact ⟨k + 1, true, by omega, by go_num, rfl, Lib.hid (sB_hit HID.out HX.out), (by first | rfl | trivial)⟩
              case measure => simp [intOf]; omega
          · have hidb : ((M1 k).p.id == id) = false := beq_false_of_ne hid
            go_wp2_with fail
            go_roundw
            case rel => exact ⟨k + 1, false, by omega, by go_num, rfl, Lib.hid (sB_miss HSB.out (fun h => hid h.1)), (by first | rfl | trivial)⟩
            case measure => simp [intOf]; omega
        · go_wp2_with fail
          go_roundw
          case rel => exact ⟨k + 1, true, by omega, by go_num, rfl, Lib.hid (sB_true HSB.out), (by first | rfl | trivial)⟩
          case measure => simp [intOf]; omega
      obtain rfl : k = n1 := by omega
      clear hkn hk
      cases b
      · have e : q = 0 := by rw [← HQ.out, routeL_no HSB.out]; rfl
        subst e
        go_wp2_with fail
        go_loopw [9, 10] (fun s i wr => s = .int .i64 0 ∧ i = .int .i64 0 ∧ w5 = wr) (fun _ _ _ => 0)
        case atStart => exact ⟨rfl, rfl, rfl⟩
        case round =>
          obtain ⟨rfl, rfl, rfl⟩ := hrel
          by_cases hn0 : 0 < k
          all_goals (
            go_wp2_with fail
            go_ret
            exact ⟨rfl, HB5.out⟩)
      have HRL := Lib.hid (routeL_yes HK.out HSB.out)
      have hql : (rtL (plain M1) id k).length = q := by rw [← HRL.out]; exact HQ.out
      have HQL := Lib.hid hql
      have hz5o := (Lib.hid (show OwnI w5 w1.heap.size w5.heap.size B2 q c2 (atL (rtL (plain M1) id k)) by rw [← HRL.out]; exact ZO_5.out))
      clear hql HSB
      go_wp2_with fail
      go_loopw [9, 10] (fun s i wr => ∃ j : Nat, j ≤ k ∧ i = .int .i64 (j : Nat) ∧ s = .int .i64 ((rtL (plain M1) id j).length : Nat) ∧ Hid (Below w5.heap.size w5 wr)) (fun _ i _ => k - (intOf i).toNat)
      case atStart => exact ⟨0, Nat.zero_le _, rfl, rfl, Lib.hid (Below.refl _ _)⟩
      case round =>
        obtain ⟨j, hj, rfl, rfl, HBR⟩ := hrel
        obtain ⟨w6, rfl⟩ : ∃ v, v = wr := ⟨_, rfl⟩
        have hzr := HBR.out.size
        have hlen : (rtL (plain M1) id j).length ≤ 6 := by have := rtL_len (plain M1) id j; omega
        obtain ⟨l, hl⟩ : ∃ l, (rtL (plain M1) id j).length = l := ⟨_, rfl⟩
        rw [hl] at hlen
        rw [hl]
        by_cases hjk : j < k
        rotate_left
        · obtain rfl : j = k := by omega
          have e : l = q := hl.symm.trans HQL.out
          subst e
          have HB6 := Lib.hid (HB5.out.trans (HBR.out.mono HB5.out.size))
          clear hl
          go_wp2_with fail
          go_ret
          exact ⟨rfl, HB6.out⟩
        have HLL := Lib.hid hl
        clear hl
        have RL := Lib.hid (RL_5.out.below HBR.out)
        obtain ⟨d, off, hAe, -, hd2, e0, -, e2⟩ := Mb_at RL.out.row.row hjk
        subst hAe
        have hdw : d < w6.heap.size := hd2
        obtain ⟨x, hx⟩ : ∃ x, hasB (M1 j).p.n (M1 j).p.z id = x := ⟨_, rfl⟩
        have hh := hasInt_any w6 w.heap.size w6.heap.size (M1 j).A (M1 j).p.n (M1 j).c id (M1 j).p.z (RL.out.hears j hjk).ints (Nat.le_refl _) (BD.out j hjk)
        rw [hx] at hh
        have HH := Lib.hid hh
        have HX := Lib.hid hx
        clear hh hx
        go_wp2_with fail
        refine HH.out.mono ?_
        rintro e w7 ⟨rfl, hb7⟩
        have HB7 := Lib.hid (HBR.out.trans (hb7.mono hzr))
        have RL7 := Lib.hid (RL.out.below hb7)
        clear hb7 HH RL HBR e0 e2
        cases x
        · go_wp2_with fail
          go_roundw
          case rel => exact ⟨j + 1, by omega, by go_num, (by rw [show rtL (plain M1) id (j + 1) = rtL (plain M1) id j from if_neg (fun e => by have := HX.out.symm.trans e; cases this), HLL.out]), HB7⟩
          case measure => simp [intOf]; omega
        · obtain ⟨h1, h2⟩ := (show (rtL (plain M1) id j).length < (rtL (plain M1) id k).length ∧ atL (rtL (plain M1) id k) (rtL (plain M1) id j).length = (M1 j).p.id from rtL_at (r := plain M1) (v := id) (n := k) hjk HX.out)
          rw [HQL.out, HLL.out] at h1
          rw [HLL.out] at h2
          have zo := (hz5o.out.ints.below (Nat.le_refl _) HB7.out).at_ h1
          rw [h2] at zo
          obtain ⟨b3, off3, rfl, -, hb3, z0⟩ := zo
          obtain ⟨d3, dff3, hAd, -, hd3, e0, -, -⟩ := Mb_at RL7.out.row.row hjk
          injection hAd with hAd
          injection hAd with y1 y2
          subst y1 y2
          have hbw7 : b3 < w7.heap.size := by have := HB7.out.size; omega
          have hdw7 : d < w7.heap.size := hd3
          have hlq : ¬ q ≤ l := by omega
          have hlI : (0 : Int) ≤ (l : Int) := by omega
          have hlJ : decide ((q : Int) ≤ (l : Int)) = false := decide_eq_false (by omega)
          have HBd := Lib.hid HB7.out.drew
          have hxx : ((M1 j).p.id != (M1 j).p.id) = false := by simp
          clear h2
          go_upto_region 18 with fail
          refine wp_region_mix (Exc (fun _ => False) w7) (by kernel_rfl) (by kernel_rfl) (Exc.drew (Exc.refl _ _)) ?_
          repeat (first
            | (refine mix_skip rfl ?_; have e0 : True := trivial; clear e0; refine mix_putK ?_; intro K hK; go_simp; refine hK _ ?_; clear hK K)
            | (refine mix_readE rfl rfl rfl ?_; apply Exists.intro; refine ⟨fun w' hb' => ?_, ?_⟩; (focus (obtain ⟨hc', hf'⟩ := exc_cells hb'; clear hb'; go_simp; try exact rfl)); have e0 : True := trivial; clear e0; refine mix_putK ?_; intro K hK; go_simp; refine hK _ ?_; clear hK K)
            | (refine mix_pureE rfl rfl ?_; apply Exists.intro; refine ⟨fun w' => ?_, ?_⟩; (focus (first | (fail) | (go_simp; try exact rfl))); have e0 : True := trivial; clear e0; refine mix_putK ?_; intro K hK; go_simp; refine hK _ ?_; clear hK K)
            | (refine mix_eff rfl rfl ?_; go_wp2_with (fail); refine then_mix rfl ?_ ?_; (focus (first | (intro h; have h2 : false = true := h; cases h2) | (intro _; assumption) | (intro _; repeat (first | assumption | (with_reducible exact Exc.refl _ _) | (with_reducible refine Exc.drew ?_) | (with_reducible refine Exc.alloc ?_ _) | (with_reducible refine Exc.setC ?_ ?_ _; focus (simp))))))))
          refine mix_nil ?_
          go_wp2_with fail
          go_roundw
          case rel => exact ⟨j + 1, by omega, by go_num, (by rw [show rtL (plain M1) id (j + 1) = rtL (plain M1) id j ++ [(M1 j).p.id] from if_pos HX.out, List.length_append, HLL.out]; rfl), HBd⟩
          case measure => simp [intOf]; omega

end Go.Proofs.Ytelcclhaepfmgaa
namespace Go.Proofs.Ytelcclhaepfmgaa.fnRoutes
open Go.ChangeShapes Go.WideShapes Go.ChangeAt Go.RowKit
set_option linter.unusedVariables false

theorem own : ownKnob Try.prog.godebug = none := by kernel_rfl
theorem laidOut : laidOutB Try.prog = true := by kernel_rfl

set_option maxRecDepth 100000 in
theorem lifted (os : Os) (started : os.Started) (H : Type) (enc : TypeId × Value → H) :
    ReturnsInHanded {} Try.checked os 6 .any (Rows.fnRoutesSpec.pre6 enc Try.prog Try.f6 Rows.fnRoutesRow.domain false) (Rows.fnRoutesSpec.post enc Try.prog Try.f6 false true false false) := by
  refine returnsInHanded_of_change (C := Try.checked) own started (by kernel_rfl) Try.func6
    (ChangeSpec.witness6 (enc := enc) (C := Try.checked) false ⟨#[], #[.slice none 0 0], []⟩ 8 (by kernel_rfl) (by kernel_rfl) (by kernel_rfl) (by kernel_rfl)) ?_
  intro W base args ds gs before hval0 hW hcnd _
  have hval : ∀ (j : Nat) t v, Try.f6.params[j]? = some t → args[j]? = some v → Value.okWide Try.prog W .any base t v := hval0
  have hW' := hW
  obtain ⟨p, q, hA0, hV, rfl, hfz, hnd⟩ := hW
  have hA : DataW.TrodAll enc Try.prog W 0 (fun _ => true) true Try.f6.params.toList args.toList ds p := hA0
  rw [Try.params6] at hA hval
  obtain ⟨v0, vs0, d0, ds0, p0, q0, hargs, rfl, rfl, h0, r0⟩ := trodAll_cons hA
  obtain ⟨rfl, rfl, rfl⟩ := trodAll_nil r0
  obtain rfl : args = #[v0] := by cases args; simp_all
  obtain ⟨rfl, rfl⟩ := trodVars_none hV
  have k0 := h0
  have lt0 : ∀ x ∈ p0, x.block < W.heap.size := by obtain ⟨m, hm⟩ := k0; exact DataW.trod_lt m _ _ _ hm
  obtain ⟨a0, n0, c0, rfl, w0⟩ := open_code (hval 0 22 v0 rfl rfl) h0
  clear hA0 hval0
  refine (walk_FnRoutes a0 n0 c0 W w0).mono fun e W' ⟨he, bel⟩ => ?_
  subst he
  exact ⟨_, rfl, _, _, _, [], _, [], hW', trodAll_mk1 (shut_bool Try.underlying4 _), (trodAll_cons_mk (Below.trod laidOut (by kernel_rfl) (of_decide_eq_true (by kernel_rfl)) k0 bel lt0) trodAll_mk0), rfl, bel.frame _, fun h => by cases h⟩

theorem over : Rows.fnRoutesRow.holds Try.pinned (OpenSpec.ofChange Rows.fnRoutesSpec) :=
  OpenClaim.holds_of_wide 6 Try.f6 rfl rfl rfl rfl rfl rfl rfl ⟨rfl, rfl, rfl, rfl, rfl⟩ rfl rfl rfl rfl rfl (by kernel_rfl) Try.func6 (by kernel_rfl)
    (of_decide_eq_true (by kernel_rfl)) (by unfold Func.isWrapper; first | (rw [if_pos (by decide +kernel)]; kernel_rfl) | (rw [if_neg (by decide +kernel)]; exact ⟨rfl, rfl⟩))
    (fun os started H enc _ => lifted os started H enc)

/-- The statement. -/
theorem proved : Rows.FnRoutesSaid := over
#print axioms proved
end Go.Proofs.Ytelcclhaepfmgaa.fnRoutes
