/- The law FnRoomHear of the program is true at every input: the call returns true, and each argument reads behind the call as before. Conditions: none. -/
import Derived.Test.YtelcclhaepfmgaaRlx
import Derived.WalkKit
import Derived.ProofKit
import Derived.OpenShut
import Derived.ShutString
import Derived.ChangeOld
import Derived.Below
import Derived.IntWalk
import Derived.Deep.DeepCutAuto
namespace Go.Proofs.Ytelcclhaepfmgaa
open Go.RowKit
set_option linter.unusedVariables false
set_option linter.unusedSimpArgs false

theorem exec_sub {P : Program} {w : World} {o : Oper} {a : Act} {t e : TypeId} {i : TypeInfo} {A : Option Addr} {n c k sz : Nat} (x l h : Operand) (ho : o.op = .slice t x (some l) (some h) none) (hx : a.eval x = .slice A n c) (hl : a.eval l = .int .i64 (k : Nat)) (hh : a.eval h = .int .i64 ((k : Int) + 1)) (ht : P.underlying t = some (.slice e)) (hi : P.info? e = some i) (hs : i.size = sz) (hk : k + 1 ≤ c) :
    (execOp a.eval o).run P w = .ok (.value (.slice (A.map (·.add (k * sz))) 1 (c - k))) w := by
  unfold execOp
  simp only [ho, hx, hl, hh, Option.map_some, Option.map_none, Instr.sliceAt, Instr.slice, Sem.run_bind, Sem.run_pure, run_underlying ht, Result.andThen_ok, Instr.sliceBounds, Instr.sliceBound, size_of w hi hs]
  have hz : ∀ w, (sizeOf e).run P w = .ok sz w := fun w => size_of w hi hs
  have hv : ∀ (j : Nat) w, (asIntOf (.int .i64 (j : Nat))).run P w = .ok (.i64, (j : Int)) w := fun _ _ => rfl
  have h1 : k ≤ k + 1 := by omega
  have h2 : c ≠ k := by omega
  have hv2 : ∀ w, (asIntOf (.int .i64 ((k : Int) + 1))).run P w = .ok (.i64, (k : Int) + 1) w := fun _ => rfl
  have h3 : (0 : Int) ≤ (k : Int) + 1 := by omega
  have h4 : (k : Int) + 1 ≤ (c : Int) := by omega
  have h5 : ((k : Int) + 1).toNat = k + 1 := by omega
  have h6 : (k : Int) ≤ (k : Int) + 1 := by omega
  simp [hk, hz, hv, hv2, h1, h2, h3, h4, h5, h6, Result.andThen]
theorem map_add (b off j : Nat) : (some (⟨b, off, none⟩ : Addr)).map (fun x => x.add j) = some ⟨b, off + j, none⟩ := by
  unfold Addr.add
  by_cases e : j = 0
  · subst e; simp
  · simp [e]
theorem one_of {w : World} {lo hi n k : Nat} {A : Option Addr} {M : Nat → Mb} (h : Room w lo hi A n M) (hk : k < n) : Room w lo hi (A.map (·.add (k * 3))) 1 (fun _ => M k) := by
  refine ⟨?_, fun i hi => h.2 k hk⟩
  have h2 := h.1.part (A' := A.map (·.add (k * 3))) (k := k) (m := 1) (by omega) (fun _ b off e => by subst e; simp [Addr.add])
  refine h2.congr fun j hj => ?_
  show MbC (M ((k * 3 + j) / 3)) ((k * 3 + j) % 3) = MbC (M k) (j % 3)
  rw [show (k * 3 + j) / 3 = k by omega, show (k * 3 + j) % 3 = j % 3 by omega]
set_option maxRecDepth 100000 in
set_option maxHeartbeats 16000000 in
theorem walk_FnRoomHear (A : Option Addr) (n c : Nat) (w : World) (h : IsInts .u8 w A n c) :
    Calls Try.prog 10 #[.slice A n c] w fun e w' => e = .returned (.bool true) ∧ Below w.heap.size w w' := by
  have H := Lib.hid h
  clear h
  by_cases hn0 : 1048576 < n
  · go_enter Try.func10, Try.ntmps10
    go_wp2_with fail
    go_ret
    exact ⟨rfl, Below.refl _ _⟩
  · have hn : n ≤ 1048576 := by omega
    clear hn0
    go_enter Try.func10, Try.ntmps10
    go_wp2_with fail
    refine (draw_rmh w A n c H.out hn).mono ?_
    intro e w1 hm
    obtain ⟨B1, c1, n1, M1, v, hnf, hO1, hn6, hbd, ⟨id, other, on, rfl⟩, rfl, hb1⟩ := hm.norm
    have NF := Lib.hid hnf
    have RL_1 := Lib.hid hO1
    have BD := Lib.hid hbd
    have HB1 := Lib.hid hb1
    have hz1 := hb1.size
    have hnn : n1 ≤ 1048576 := by omega
    have hnc : n1 ≤ c1 := own_leR hO1.row
    clear hm hnf hO1 hbd hb1
    have hi := fun W (hW : RmO w.heap.size B1 n1 c1 M1 W) => ihr_g (c := c1) id other on hW.room (Nat.le_refl _) hnn BD.out
    have hs := fun W (hW : RmO w.heap.size B1 n1 c1 M1 W) => shr_g (c := c1) id other on hW.room (Nat.le_refl _) hnn BD.out
    by_cases hok : hearOk n1 (plain M1) id other on
    rotate_left
    · rw [if_neg hok, decide_eq_false hok] at hi hs
      have HI := Lib.hid hi
      have HS := Lib.hid hs
      clear hi hs hok
      go_wp2_with fail
      refine (HI.out _ RL_1.out).mono ?_
      rintro e w2 ⟨B2, c2, M2, he2, hO2, rfl, hb2⟩
      have EO := Lib.hid he2
      have Rn2 := Lib.hid hO2
      clear he2 hO2
      have RL_2 := Lib.hid (RL_1.out.below hb2)
      have HB2 := Lib.hid (HB1.out.trans (hb2.mono HB1.out.size))
      have hz2 : w1.heap.size ≤ w2.heap.size := hb2.size
      clear hb2 HB1 RL_1
      have RO_2 := Rn2
      clear Rn2
      go_wp2_with fail
      refine (HS.out _ RL_2.out).mono ?_
      rintro e w3 ⟨B3, c3, M3, he3, hO3, rfl, hb3⟩
      have EW := Lib.hid he3
      have Rn3 := Lib.hid hO3
      clear he3 hO3
      have RL_3 := Lib.hid (RL_2.out.below hb3)
      have RO_3 := Lib.hid (RO_2.out.below hb3)
      have HB3 := Lib.hid (HB2.out.trans (hb3.mono HB2.out.size))
      have hz3 : w2.heap.size ≤ w3.heap.size := hb3.size
      clear hb3 HB2 RL_2 RO_2
      have RW_3 := Rn3
      clear Rn3
      go_wp2_with fail
      refine (sameRoom_same _ RO_3.out.room RW_3.out.room (Nat.le_refl _) (Nat.le_refl _) (Nat.zero_le _) (fun i hi => absurd hi (by omega)) (fun i hi => absurd hi (by omega))).mono ?_
      rintro e w4 ⟨rfl, hb4⟩
      have RL_4 := Lib.hid (RL_3.out.below hb4)
      have RO_4 := Lib.hid (RO_3.out.below hb4)
      have RW_4 := Lib.hid (RW_3.out.below hb4)
      have HB4 := Lib.hid (HB3.out.trans (hb4.mono HB3.out.size))
      have hz4 : w3.heap.size ≤ w4.heap.size := hb4.size
      clear hb4 HB3 RL_3 RO_3 RW_3
      go_wp2_with fail
      refine (sameRoom_same _ RO_4.out.room RW_4.out.room (Nat.le_refl _) (Nat.le_refl _) (Nat.zero_le _) (fun i hi => absurd hi (by omega)) (fun i hi => absurd hi (by omega))).mono ?_
      rintro e w5 ⟨rfl, hb5⟩
      have RL_5 := Lib.hid (RL_4.out.below hb5)
      have RO_5 := Lib.hid (RO_4.out.below hb5)
      have RW_5 := Lib.hid (RW_4.out.below hb5)
      have HB5 := Lib.hid (HB4.out.trans (hb5.mono HB4.out.size))
      have hz5 : w4.heap.size ≤ w5.heap.size := hb5.size
      clear hb5 HB4 RL_4 RO_4 RW_4
      go_wp2_with fail
      go_ret
      go_light
      exact ⟨rfl, HB5.out⟩
    rw [if_pos hok, decide_eq_true hok] at hi hs
    have HI := Lib.hid hi
    have HS := Lib.hid hs
    have HK := Lib.hid hok
    clear hi hs hok
    go_wp2_with fail
    refine (HI.out _ RL_1.out).mono ?_
    rintro e w2 ⟨B2, c2, M2, he2, hO2, rfl, hb2⟩
    have EO := Lib.hid he2
    have Rn2 := Lib.hid hO2
    clear he2 hO2
    have RL_2 := Lib.hid (RL_1.out.below hb2)
    have HB2 := Lib.hid (HB1.out.trans (hb2.mono HB1.out.size))
    have hz2 : w1.heap.size ≤ w2.heap.size := hb2.size
    clear hb2 HB1 RL_1
    have RO_2 := Rn2
    clear Rn2
    go_wp2_with fail
    refine (HS.out _ RL_2.out).mono ?_
    rintro e w3 ⟨B3, c3, M3, he3, hO3, rfl, hb3⟩
    have EW := Lib.hid he3
    have Rn3 := Lib.hid hO3
    clear he3 hO3
    have RL_3 := Lib.hid (RL_2.out.below hb3)
    have RO_3 := Lib.hid (RO_2.out.below hb3)
    have HB3 := Lib.hid (HB2.out.trans (hb3.mono HB2.out.size))
    have hz3 : w2.heap.size ≤ w3.heap.size := hb3.size
    clear hb3 HB2 RL_2 RO_2
    have RW_3 := Rn3
    clear Rn3
    have BO := Lib.hid (few_ok EO.out (hearF_ok HK.out))
    go_wp2_with fail
    refine (sameRoom_same _ RO_3.out.room RW_3.out.room (Nat.le_refl _) (Nat.le_refl _) hnn BO.out (fun i hi => congrFun (EO.out.trans EW.out.symm) i)).mono ?_
    rintro e w4 ⟨rfl, hb4⟩
    have RL_4 := Lib.hid (RL_3.out.below hb4)
    have RO_4 := Lib.hid (RO_3.out.below hb4)
    have RW_4 := Lib.hid (RW_3.out.below hb4)
    have HB4 := Lib.hid (HB3.out.trans (hb4.mono HB3.out.size))
    have hz4 : w3.heap.size ≤ w4.heap.size := hb4.size
    clear hb4 HB3 RL_3 RO_3 RW_3
    obtain ⟨i0, q1, q2, q3, q4⟩ := info_parts info_mb
    obtain ⟨a, hae⟩ : ∃ a, atR (plain M1) id n1 = a := ⟨_, rfl⟩
    have hah : hasB (M2 a).p.n (M2 a).p.z other = on := by
      have h := hearF_has HK.out
      rw [hae, ← congrFun EO.out a] at h
      exact h
    have hai : (M2 a).p.id = id := by
      have h := hearF_id (n := n1) (r := plain M1) (id := id) (other := other) (on := on) (i := a)
      rw [← congrFun EO.out a] at h
      exact h.trans (by rw [← hae]; exact atR_spec HK.out.2.1)
    have hne : ∀ i, i < n1 → i ≠ a → (M2 i).p.id ≠ id ∧ (M2 i).p = (M1 i).p := fun i hi he => by
      have hr := okM_iff.1 HK.out.1
      have h1 := hearF_ne (n := n1) (r := plain M1) (id := id) (other := other) (on := on) (i := i) (by rw [hae]; exact he)
      rw [← congrFun EO.out i] at h1
      have h2 : (M2 i).p = nm (M1 i).p := h1
      refine ⟨fun e => he ?_, h2.trans (NF.out i)⟩
      have h3 : (plain M1 i).id = id := by rw [h2] at e; exact e
      have h4 := hr.at_ hi
      rw [h3, hae] at h4
      exact h4.symm
    have hac : a < n1 := by rw [← hae]; exact HK.out.2.1
    have HAH := Lib.hid hah
    have HAI := Lib.hid hai
    have HNE := Lib.hid hne
    have hnc2 : n1 ≤ c2 := own_leR RO_4.out.row
    clear hah hai hne hae
    go_wp2_with fail
    go_loopw [11] (fun i wr => ∃ k, k ≤ n1 ∧ i = .int .i64 (k : Nat) ∧ Hid (Below w4.heap.size w4 wr)) (fun i _ => n1 - (intOf i).toNat)
    case atStart => exact ⟨0, Nat.zero_le _, rfl, Lib.hid (Below.refl _ _)⟩
    case round =>
      obtain ⟨k, hk, rfl, HBR⟩ := hrel
      obtain ⟨w5, rfl⟩ : ∃ v, v = wr := ⟨_, rfl⟩
      have hzr := HBR.out.size
      by_cases hkm : k < n1
      · have RO := Lib.hid (RO_4.out.below HBR.out)
        have RL := Lib.hid (RL_4.out.below HBR.out)
        obtain ⟨b, off, hAe, -, hb2, c0, -, cc2⟩ := Mb_at RO.out.row.row hkm
        subst hAe
        have hbw : b < w5.heap.size := hb2
        by_cases hka : k = a
        · subst hka
          have hidt : ((M2 k).p.id == id) = true := beq_iff_eq.2 HAI.out
          have hid := HAI.out
          have hh := hasInt_any w5 w1.heap.size w5.heap.size (M2 k).A (M2 k).p.n (M2 k).c other (M2 k).p.z (RO.out.hears k hkm).ints (Nat.le_refl _) (BO.out k hkm)
          rw [HAH.out] at hh
          have HH := Lib.hid hh
          clear hh
          go_wp2_with fail
          refine (HH.out).mono ?_
          rintro e w6 ⟨rfl, hb6⟩
          have HB6 := Lib.hid (HBR.out.trans (hb6.mono hzr))
          have RO6 := Lib.hid (RO.out.below hb6)
          clear hb6 HBR RO RL HH c0 cc2
          obtain ⟨b3, off3, hAe, -, hb3, c0, -, -⟩ := Mb_at RO6.out.row.row hkm
          injection hAe with hAe
          injection hAe with y1 y2
          subst y1 y2
          have hbw6 : b < w6.heap.size := hb3
          have HBd := Lib.hid HB6.out.drew
          go_upto_region 13 with fail
          refine wp_region_mix (Exc (fun _ => False) w6) (by kernel_rfl) (by kernel_rfl) (Exc.drew (Exc.refl _ _)) ?_
          repeat (first
            | (refine mix_skip rfl ?_; have e0 : True := trivial; clear e0; refine mix_putK ?_; intro K hK; go_simp; refine hK _ ?_; clear hK K)
            | (refine mix_readE rfl rfl rfl ?_; apply Exists.intro; refine ⟨fun w' hb' => ?_, ?_⟩; (focus (obtain ⟨hc', hf'⟩ := exc_cells hb'; clear hb'; go_simp; try exact rfl)); have e0 : True := trivial; clear e0; refine mix_putK ?_; intro K hK; go_simp; refine hK _ ?_; clear hK K)
            | (refine mix_pureE rfl rfl ?_; apply Exists.intro; refine ⟨fun w' => ?_, ?_⟩; (focus (first | (fail) | (go_simp; try exact rfl))); have e0 : True := trivial; clear e0; refine mix_putK ?_; intro K hK; go_simp; refine hK _ ?_; clear hK K)
            | (refine mix_eff rfl rfl ?_; go_wp2_with (fail); refine then_mix rfl ?_ ?_; (focus (first | (intro h; have h2 : false = true := h; cases h2) | (intro _; assumption) | (intro _; repeat (first | assumption | (with_reducible exact Exc.refl _ _) | (with_reducible refine Exc.drew ?_) | (with_reducible refine Exc.alloc ?_ _) | (with_reducible refine Exc.setC ?_ ?_ _; focus (simp))))))))
          refine mix_nil ?_
          go_wp2_with fail
          go_roundw
          case rel => exact ⟨k + 1, by omega, by go_num, HBd⟩
          case measure => simp [intOf]; omega
        · obtain ⟨hid1, hpe⟩ := HNE.out k hkm hka
          have HPE := Lib.hid hpe
          have hidb : ((M2 k).p.id == id) = false := beq_false_of_ne hid1
          have hidn : ((M2 k).p.id != id) = true := by simp [bne, hidb]
          clear hpe
          have h1m : 1 ≤ 1048576 := by omega
          have hsr : ∀ W, Below w5.heap.size w5 W → Calls Try.prog 22 #[.slice (some ⟨b, off + k * 3, none⟩) 1 (c2 - k), .slice (B1.map (fun x => x.add (k * 3))) 1 (c1 - k)] W (fun e w' => e = .returned (.bool true) ∧ Below W.heap.size W w') := fun W hW =>
            sameRoom_same (M := fun _ => M2 k) (M2 := fun _ => M1 k) W (lo := w1.heap.size) (hi := w5.heap.size) (lo2 := w.heap.size) (hi2 := w5.heap.size) (by have h := one_of (RO.out.room.below (Nat.le_refl _) hW) hkm; rwa [map_add] at h) (one_of (RL.out.room.below (Nat.le_refl _) hW) hkm) hW.size hW.size h1m (fun i hi => BO.out k hkm) (fun i hi => HPE.out)
          have HSR := Lib.hid hsr
          clear hsr
          have hk1 : k + 1 ≤ c1 := by omega
          have wK : IntKind.i64.wrap ((k : Int) + 1) = (k : Int) + 1 := IntWalk.i64_in _ (by omega)
          have hk2 : k + 1 ≤ c2 := by omega
          go_upto_region 13 with fail
          refine wp_region_mix (Exc (fun _ => False) w5) (by kernel_rfl) (by kernel_rfl) (Exc.drew (Exc.refl _ _)) ?_
          repeat (first
            | (refine mix_skip rfl ?_; have e0 : True := trivial; clear e0; refine mix_putK ?_; intro K hK; go_simp; refine hK _ ?_; clear hK K)
            | (refine mix_readE rfl rfl rfl ?_; apply Exists.intro; refine ⟨fun w' hb' => ?_, ?_⟩; (focus ((first |exact exec_sub (.tmp 91) (.tmp 92) (.tmp 94) rfl (by rfl) (by rfl) (by rfl) Try.underlying23 q1 q3 hk2 |exact exec_sub (.tmp 96) (.tmp 97) (.tmp 99) rfl (by rfl) (by rfl) (by rfl) Try.underlying23 q1 q3 hk1))); have e0 : True := trivial; clear e0; refine mix_putK ?_; intro K hK; go_simp; refine hK _ ?_; clear hK K)
            | (refine mix_readE rfl rfl rfl ?_; apply Exists.intro; refine ⟨fun w' hb' => ?_, ?_⟩; (focus (obtain ⟨hc', hf'⟩ := exc_cells hb'; clear hb'; go_simp; try exact rfl)); have e0 : True := trivial; clear e0; refine mix_putK ?_; intro K hK; go_simp; refine hK _ ?_; clear hK K)
            | (refine mix_pureE rfl rfl ?_; apply Exists.intro; refine ⟨fun w' => ?_, ?_⟩; (focus (first | ((first |exact exec_sub (.tmp 91) (.tmp 92) (.tmp 94) rfl (by rfl) (by rfl) (by rfl) Try.underlying23 q1 q3 hk2 |exact exec_sub (.tmp 96) (.tmp 97) (.tmp 99) rfl (by rfl) (by rfl) (by rfl) Try.underlying23 q1 q3 hk1)) | (go_simp; try exact rfl))); have e0 : True := trivial; clear e0; refine mix_putK ?_; intro K hK; go_simp; refine hK _ ?_; clear hK K)
            | (refine mix_eff rfl rfl ?_; go_wp2_with ((go_at_call 22; refine (HSR.out _ (Below.refl _ w5).drew).mono ?_; rintro e w6 ⟨rfl, hb6⟩; have hb6 : Below w5.heap.size w5 w6 := Below.trans (Below.refl _ w5).drew hb6; have hE6 : Exc (fun _ => False) w5 w6 := Exc.of_belowR hb6)); refine then_mix rfl ?_ ?_; (focus (first | (intro h; have h2 : false = true := h; cases h2) | (intro _; assumption) | (intro _; repeat (first | assumption | (with_reducible exact Exc.refl _ _) | (with_reducible refine Exc.drew ?_) | (with_reducible refine Exc.alloc ?_ _) | (with_reducible refine Exc.setC ?_ ?_ _; focus (simp))))))))
          refine mix_nil ?_
          have HB6 := Lib.hid (HBR.out.trans (hb6.mono hzr))
          clear hb6 hE6 HBR
          go_wp2_with fail
          go_roundw
          case rel => exact ⟨k + 1, by omega, by go_num, HB6⟩
          case measure => simp [intOf]; omega
      obtain rfl : k = n1 := by omega
      have hb5 := HBR.out
      clear HBR hzr HNE HAH HAI hac hnc2
      have RL_5 := Lib.hid (RL_4.out.below hb5)
      have RO_5 := Lib.hid (RO_4.out.below hb5)
      have RW_5 := Lib.hid (RW_4.out.below hb5)
      have HB5 := Lib.hid (HB4.out.trans (hb5.mono HB4.out.size))
      have hz5 : w4.heap.size ≤ w5.heap.size := hb5.size
      clear hb5 HB4 RL_4 RO_4 RW_4
      have hv := irv_any w5 w1.heap.size w5.heap.size B2 k c2 M2 RO_5.out.room (Nat.le_refl _) hnn BO.out
      rw [EO.out, show rmB k (hearF k (plain M1) id other on) = true from decide_eq_true (okM_iff.2 (hearF_ok HK.out))] at hv
      have HVV := Lib.hid hv
      clear hv
      go_wp2_with fail
      refine (HVV.out).mono ?_
      rintro e w6 ⟨rfl, hb6⟩
      have RL_6 := Lib.hid (RL_5.out.below hb6)
      have RO_6 := Lib.hid (RO_5.out.below hb6)
      have RW_6 := Lib.hid (RW_5.out.below hb6)
      have HB6 := Lib.hid (HB5.out.trans (hb6.mono HB5.out.size))
      have hz6 : w5.heap.size ≤ w6.heap.size := hb6.size
      clear hb6 HB5 RL_5 RO_5 RW_5
      go_wp2_with fail
      go_ret
      go_light
      exact ⟨rfl, HB6.out⟩

end Go.Proofs.Ytelcclhaepfmgaa
namespace Go.Proofs.Ytelcclhaepfmgaa.fnRoomHear
open Go.ChangeShapes Go.WideShapes Go.ChangeAt Go.RowKit
set_option linter.unusedVariables false

theorem own : ownKnob Try.prog.godebug = none := by kernel_rfl
theorem laidOut : laidOutB Try.prog = true := by kernel_rfl

set_option maxRecDepth 100000 in
theorem lifted (os : Os) (started : os.Started) (H : Type) (enc : TypeId × Value → H) :
    ReturnsInHanded {} Try.checked os 10 .any (Rows.fnRoomHearSpec.pre6 enc Try.prog Try.f10 Rows.fnRoomHearRow.domain false) (Rows.fnRoomHearSpec.post enc Try.prog Try.f10 false true false false) := by
  refine returnsInHanded_of_change (C := Try.checked) own started (by kernel_rfl) Try.func10
    (ChangeSpec.witness6 (enc := enc) (C := Try.checked) false ⟨#[], #[.slice none 0 0], []⟩ 8 (by kernel_rfl) (by kernel_rfl) (by kernel_rfl) (by kernel_rfl)) ?_
  intro W base args ds gs before hval0 hW hcnd _
  have hval : ∀ (j : Nat) t v, Try.f10.params[j]? = some t → args[j]? = some v → Value.okWide Try.prog W .any base t v := hval0
  have hW' := hW
  obtain ⟨p, q, hA0, hV, rfl, hfz, hnd⟩ := hW
  have hA : DataW.TrodAll enc Try.prog W 0 (fun _ => true) true Try.f10.params.toList args.toList ds p := hA0
  rw [Try.params10] at hA hval
  obtain ⟨v0, vs0, d0, ds0, p0, q0, hargs, rfl, rfl, h0, r0⟩ := trodAll_cons hA
  obtain ⟨rfl, rfl, rfl⟩ := trodAll_nil r0
  obtain rfl : args = #[v0] := by cases args; simp_all
  obtain ⟨rfl, rfl⟩ := trodVars_none hV
  have k0 := h0
  have lt0 : ∀ x ∈ p0, x.block < W.heap.size := by obtain ⟨m, hm⟩ := k0; exact DataW.trod_lt m _ _ _ hm
  obtain ⟨a0, n0, c0, rfl, w0⟩ := open_code (hval 0 22 v0 rfl rfl) h0
  clear hA0 hval0
  refine (walk_FnRoomHear a0 n0 c0 W w0).mono fun e W' ⟨he, bel⟩ => ?_
  subst he
  exact ⟨_, rfl, _, _, _, [], _, [], hW', trodAll_mk1 (shut_bool Try.underlying4 _), (trodAll_cons_mk (Below.trod laidOut (by kernel_rfl) (of_decide_eq_true (by kernel_rfl)) k0 bel lt0) trodAll_mk0), rfl, bel.frame _, fun h => by cases h⟩

theorem over : Rows.fnRoomHearRow.holds Try.pinned (OpenSpec.ofChange Rows.fnRoomHearSpec) :=
  OpenClaim.holds_of_wide 10 Try.f10 rfl rfl rfl rfl rfl rfl rfl ⟨rfl, rfl, rfl, rfl, rfl⟩ rfl rfl rfl rfl rfl (by kernel_rfl) Try.func10 (by kernel_rfl)
    (of_decide_eq_true (by kernel_rfl)) (by unfold Func.isWrapper; first | (rw [if_pos (by decide +kernel)]; kernel_rfl) | (rw [if_neg (by decide +kernel)]; exact ⟨rfl, rfl⟩))
    (fun os started H enc _ => lifted os started H enc)

/-- The statement. -/
theorem proved : Rows.FnRoomHearSaid := over
#print axioms proved
end Go.Proofs.Ytelcclhaepfmgaa.fnRoomHear
