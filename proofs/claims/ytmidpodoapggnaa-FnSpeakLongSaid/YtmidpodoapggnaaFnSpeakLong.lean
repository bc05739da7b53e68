/- The law FnSpeakLong of the program is true at every input: the call returns true, and each argument reads behind the call as before. Conditions: none. -/
import Derived.Test.YtmidpodoapggnaaDst
import Derived.Test.YtmidpodoapggnaaSpw
import Derived.WalkKit
import Derived.ProofKit
import Derived.OpenShut
import Derived.ShutString
import Derived.ChangeOld
import Derived.Below
import Derived.IntWalk
namespace Go.Proofs.Ytmidpodoapggnaa
open Go.RowKit
set_option linter.unusedVariables false
set_option linter.unusedSimpArgs false

set_option maxHeartbeats 4000000 in
theorem walk_FnSpeakLong (A : Option Addr) (n c : Nat) (w : World) (h : IsInts .u8 w A n c) :
    Calls Try.prog 6 #[.slice A n c] w fun e w' => e = .returned (.bool true) ∧ Below w.heap.size w w' := by
  have H := Lib.hid h
  clear h
  by_cases hn0 : 1048576 < n
  · go_enter Try.func6, Try.ntmps6
    go_wp2_with fail
    go_ret
    exact ⟨rfl, Below.refl _ _⟩
  · have hn : n ≤ 1048576 := by omega
    clear hn0
    go_enter Try.func6, Try.ntmps6
    go_wp2_with fail
    refine (draw_step _ A n c (H.out.below (by repeat (first | (with_reducible exact Below.refl _ _) | (with_reducible refine Bal ?_ _) | (with_reducible refine Below.drew ?_) | (with_reducible refine below_drewN ?_ _) | (with_reducible refine Bset ?_ ?_ _; focus (first | (with_reducible exact Nat.le_refl _) | (simp; done) | (simp; omega) | omega)) | (with_reducible refine Bt ?_ (by assumption)) | (with_reducible refine Bp (g := g) ?_ (by assumption) (by assumption))))) hn).mono ?_
    rintro e w1 ⟨a, b, d, A1, m, c1, z, hI1, hm4, rfl, hb1⟩
    obtain ⟨hc1, hf1⟩ := bcell hb1
    have hy1 := hb1.size
    try simp at hy1
    have hmn : m ≤ 1048576 := by omega
    have HL := Lib.hid hI1
    clear hI1
    have hi := fun (W : World) lo hi A c => @istp_any a b d W lo hi A m c z
    have hs := fun (W : World) lo hi A c => @sstp_any a b d W lo hi A m c z
    by_cases ho : OkStep a b d m z
    · obtain ⟨e1, e2, e3, e4⟩ := sp_yes ho
      rw [e1, e2, e3, e4] at hi hs
      have hok := st_ok ho
      clear e1 e2 e3 e4
      have F := st_facts ho
      generalize hNe : stN a b d m z = N at *
      generalize hXe : stX a b d m z = X at *
      generalize hWe : stW a b d m z = V at *
      have HI := Lib.hid hi
      have HS := Lib.hid hs
      have hv := fun W : World => ispk_any N X V W
      rw [spkB_t hok.1] at hv
      have HV := Lib.hid hv
      clear hi hs hv hNe hXe hWe
      obtain ⟨B, hBe, hB, hm6, hmx, hz0, hc⟩ := F
      have HO := Lib.hid ho
      have HBE := Lib.hid hBe
      clear hBe
      have HM := Lib.hid hmx
      have HZ := Lib.hid ho.2.1.2
      clear ho hok hmx
      by_cases ha : a < 0
      · clear hc
        go_wp2_with fail
        refine (HI.out _ _ _ _ _ (HL.out.below (Nat.le_refl _) (by repeat (first | (with_reducible exact Below.refl _ _) | (with_reducible refine Bal ?_ _) | (with_reducible refine Below.drew ?_) | (with_reducible refine below_drewN ?_ _) | (with_reducible refine Bset ?_ ?_ _; focus (first | (with_reducible exact Nat.le_refl _) | (simp; done) | (simp; omega) | omega)) | (with_reducible refine Bt ?_ (by assumption)) | (with_reducible refine Bp (g := g) ?_ (by assumption) (by assumption))))) (by first | exact Nat.le_refl _ | (simp; done) | (simp; omega) | omega) hmn).mono ?_
        rintro e w2 ⟨rfl, hb2⟩
        obtain ⟨hc2, hf2⟩ := bcell hb2
        have hy2 := hb2.size
        try simp at hy2
        first | (have hz2 : w.heap.size < w2.heap.size := by (have := hb2.size; (try simp at this); omega)) | skip
        have ho2_0 : w1.heap.size < w2.heap.size := by (have := hb2.size; (try simp at this); omega)
        have hg2_0 := fun o => hc2 (w1.heap.size) o (by first | (simp; done) | (simp; omega) | omega)
        have hk2_0 := fun o => hf2 (w1.heap.size) o (by first | (simp; done) | (simp; omega) | omega)
        try simp [go_sem] at hg2_0
        try simp [go_sem] at hk2_0
        go_wp2_with fail
        refine (HS.out _ _ _ _ _ (HL.out.below (Nat.le_refl _) (by repeat (first | (with_reducible exact Below.refl _ _) | (with_reducible refine Bal ?_ _) | (with_reducible refine Below.drew ?_) | (with_reducible refine below_drewN ?_ _) | (with_reducible refine Bset ?_ ?_ _; focus (first | (with_reducible exact Nat.le_refl _) | (simp; done) | (simp; omega) | omega)) | (with_reducible refine Bt ?_ (by assumption)) | (with_reducible refine Bp (g := g) ?_ (by assumption) (by assumption))))) (by first | exact Nat.le_refl _ | (simp; done) | (simp; omega) | omega) hmn).mono ?_
        rintro e w3 ⟨rfl, hb3⟩
        obtain ⟨hc3, hf3⟩ := bcell hb3
        have hy3 := hb3.size
        try simp at hy3
        first | (have hz3 : w.heap.size < w3.heap.size := by (have := hb3.size; (try simp at this); omega)) | skip
        have ho3_0 : w1.heap.size < w3.heap.size := by (have := hb3.size; (try simp at this); omega)
        have hg3_0 := fun o => hc3 (w1.heap.size) o (by first | (simp; done) | (simp; omega) | omega)
        have hk3_0 := fun o => hf3 (w1.heap.size) o (by first | (simp; done) | (simp; omega) | omega)
        try simp [go_sem] at hg3_0
        try simp [go_sem] at hk3_0
        have ho3_1 : w2.heap.size < w3.heap.size := by (have := hb3.size; (try simp at this); omega)
        have hg3_1 := fun o => hc3 (w2.heap.size) o (by first | (simp; done) | (simp; omega) | omega)
        have hk3_1 := fun o => hf3 (w2.heap.size) o (by first | (simp; done) | (simp; omega) | omega)
        try simp [go_sem] at hg3_1
        try simp [go_sem] at hk3_1
        go_wp2_with fail
        go_ret
        go_light
        refine ⟨rfl, ?_⟩
        repeat (first | (with_reducible exact Below.refl _ _) | (with_reducible refine Bal ?_ _) | (with_reducible refine Below.drew ?_) | (with_reducible refine below_drewN ?_ _) | (with_reducible refine Bset ?_ ?_ _; focus (first | (with_reducible exact Nat.le_refl _) | (simp; done) | (simp; omega) | omega)) | (with_reducible refine Bt ?_ (by assumption)) | (with_reducible refine Bp (g := g) ?_ (by assumption) (by assumption)))
      · obtain ⟨M, rfl, hMn⟩ : ∃ M : Nat, a = M ∧ M < m := by
          rcases hc with ⟨ha1, _⟩ | ⟨M, hM, hMn, _⟩
          · omega
          · exact ⟨M, hM, hMn⟩
        clear hc
        go_wp2_with fail
        refine (HI.out _ _ _ _ _ (HL.out.below (Nat.le_refl _) (by repeat (first | (with_reducible exact Below.refl _ _) | (with_reducible refine Bal ?_ _) | (with_reducible refine Below.drew ?_) | (with_reducible refine below_drewN ?_ _) | (with_reducible refine Bset ?_ ?_ _; focus (first | (with_reducible exact Nat.le_refl _) | (simp; done) | (simp; omega) | omega)) | (with_reducible refine Bt ?_ (by assumption)) | (with_reducible refine Bp (g := g) ?_ (by assumption) (by assumption))))) (by first | exact Nat.le_refl _ | (simp; done) | (simp; omega) | omega) hmn).mono ?_
        rintro e w2 ⟨rfl, hb2⟩
        obtain ⟨hc2, hf2⟩ := bcell hb2
        have hy2 := hb2.size
        try simp at hy2
        first | (have hz2 : w.heap.size < w2.heap.size := by (have := hb2.size; (try simp at this); omega)) | skip
        have ho2_0 : w1.heap.size < w2.heap.size := by (have := hb2.size; (try simp at this); omega)
        have hg2_0 := fun o => hc2 (w1.heap.size) o (by first | (simp; done) | (simp; omega) | omega)
        have hk2_0 := fun o => hf2 (w1.heap.size) o (by first | (simp; done) | (simp; omega) | omega)
        try simp [go_sem] at hg2_0
        try simp [go_sem] at hk2_0
        go_wp2_with fail
        refine (HS.out _ _ _ _ _ (HL.out.below (Nat.le_refl _) (by repeat (first | (with_reducible exact Below.refl _ _) | (with_reducible refine Bal ?_ _) | (with_reducible refine Below.drew ?_) | (with_reducible refine below_drewN ?_ _) | (with_reducible refine Bset ?_ ?_ _; focus (first | (with_reducible exact Nat.le_refl _) | (simp; done) | (simp; omega) | omega)) | (with_reducible refine Bt ?_ (by assumption)) | (with_reducible refine Bp (g := g) ?_ (by assumption) (by assumption))))) (by first | exact Nat.le_refl _ | (simp; done) | (simp; omega) | omega) hmn).mono ?_
        rintro e w3 ⟨rfl, hb3⟩
        obtain ⟨hc3, hf3⟩ := bcell hb3
        have hy3 := hb3.size
        try simp at hy3
        first | (have hz3 : w.heap.size < w3.heap.size := by (have := hb3.size; (try simp at this); omega)) | skip
        have ho3_0 : w1.heap.size < w3.heap.size := by (have := hb3.size; (try simp at this); omega)
        have hg3_0 := fun o => hc3 (w1.heap.size) o (by first | (simp; done) | (simp; omega) | omega)
        have hk3_0 := fun o => hf3 (w1.heap.size) o (by first | (simp; done) | (simp; omega) | omega)
        try simp [go_sem] at hg3_0
        try simp [go_sem] at hk3_0
        have ho3_1 : w2.heap.size < w3.heap.size := by (have := hb3.size; (try simp at this); omega)
        have hg3_1 := fun o => hc3 (w2.heap.size) o (by first | (simp; done) | (simp; omega) | omega)
        have hk3_1 := fun o => hf3 (w2.heap.size) o (by first | (simp; done) | (simp; omega) | omega)
        try simp [go_sem] at hg3_1
        try simp [go_sem] at hk3_1
        clear hc2 hf2
        go_wp2_with fail
        go_loopw [9, 10] (fun t i wr => ∃ k, k ≤ m ∧ i = .int .i64 k ∧ t = .int .i64 (bestF z k : Nat) ∧ Hid (Ints wr 0 w1.heap.size A1 m z) ∧ Below w.heap.size w wr ∧ wr.cell? ⟨w1.heap.size, 0, none⟩ = some (.int .i64 M) ∧ wr.cell? ⟨w1.heap.size, 1, none⟩ = some (.int .i64 b) ∧ wr.cell? ⟨w1.heap.size, 2, none⟩ = some (.int .i64 d) ∧ w1.heap.size < wr.heap.size) (fun _ i _ => m - (intOf i).toNat)
        case atStart => exact ⟨0, Nat.zero_le _, rfl, rfl, Lib.hid (HL.out.below (Nat.le_refl _) (by repeat (first | (with_reducible exact Below.refl _ _) | (with_reducible refine Bal ?_ _) | (with_reducible refine Below.drew ?_) | (with_reducible refine below_drewN ?_ _) | (with_reducible refine Bset ?_ ?_ _; focus (first | (with_reducible exact Nat.le_refl _) | (simp; done) | (simp; omega) | omega)) | (with_reducible refine Bt ?_ (by assumption)) | (with_reducible refine Bp (g := g) ?_ (by assumption) (by assumption))))), by repeat (first | (with_reducible exact Below.refl _ _) | (with_reducible refine Bal ?_ _) | (with_reducible refine Below.drew ?_) | (with_reducible refine below_drewN ?_ _) | (with_reducible refine Bset ?_ ?_ _; focus (first | (with_reducible exact Nat.le_refl _) | (simp; done) | (simp; omega) | omega)) | (with_reducible refine Bt ?_ (by assumption)) | (with_reducible refine Bp (g := g) ?_ (by assumption) (by assumption))), by go_simp, by go_simp, by go_simp, by (try simp); omega⟩
        case round =>
          obtain ⟨k, hk, rfl, rfl, hZ, hBl, q0, q1, q2, hs1⟩ := hrel
          have hZs := hZ.out
          by_cases hkm : k < m
          · obtain ⟨b1, off, rfl, _, hb1', cc⟩ := hZ.out.at_ hkm
            have hG := bestF_lt z (show 0 < m by omega) k hk
            have hGS : bestF z (k + 1) = if z (bestF z k) < z k then k else bestF z k := rfl
            obtain ⟨G, hGe⟩ : ∃ G, G = bestF z k := ⟨_, rfl⟩
            rw [← hGe] at hG hGS
            rw [← hGe]
            have HGS := Lib.hid hGS
            clear hGS hGe hZs
            have cG := hZ.out.cell (k := G) hG
            have hb1'' : b1 < wr.heap.size := by omega
            by_cases hgt : z G < z k
            · go_wp2
              refine wp_region_mixB (by kernel_rfl) (by kernel_rfl) ?_
              repeat (first
                | (refine mix_skip rfl ?_; have e0 : True := trivial; clear e0; refine mix_putK ?_; intro K hK; go_simp; refine hK _ ?_; clear hK K)
                | (refine mix_readE rfl rfl rfl ?_; apply Exists.intro; refine ⟨fun w' hb' => ?_, ?_⟩; (focus (obtain ⟨hc', hf'⟩ := Old.cells hb'; clear hb'; go_simp; try exact rfl)); have e0 : True := trivial; clear e0; refine mix_putK ?_; intro K hK; go_simp; refine hK _ ?_; clear hK K)
                | (refine mix_pureE rfl rfl ?_; apply Exists.intro; refine ⟨fun w' => ?_, ?_⟩; (focus (go_simp; try exact rfl)); have e0 : True := trivial; clear e0; refine mix_putK ?_; intro K hK; go_simp; refine hK _ ?_; clear hK K)
                | (refine mix_eff rfl rfl ?_; go_wp2_with (fail); refine then_mix rfl ?_ ?_; (first | (intro h; have h2 : false = true := h; cases h2) | (intro _; refine Old.mk ?_; repeat (first | (with_reducible exact Below.refl _ _) | (with_reducible refine Bal ?_ _) | (with_reducible refine Below.drew ?_) | (with_reducible refine below_drewN ?_ _) | (with_reducible refine Bset ?_ ?_ _; focus (first | (with_reducible exact Nat.le_refl _) | (simp; done) | (simp; omega) | omega)) | (with_reducible refine Bt ?_ (by assumption)) | (with_reducible refine Bp (g := g) ?_ (by assumption) (by assumption)))))))
              refine mix_nil ?_
              go_wp2
              go_roundw
              case rel => exact ⟨k + 1, by omega, by go_num, by rw [HGS.out, if_pos hgt], Lib.hid hZ.out.drew, hBl.drew, q0, q1, q2, hs1⟩
              case measure => simp [intOf]; omega
            · go_wp2
              refine wp_region_mixB (by kernel_rfl) (by kernel_rfl) ?_
              repeat (first
                | (refine mix_skip rfl ?_; have e0 : True := trivial; clear e0; refine mix_putK ?_; intro K hK; go_simp; refine hK _ ?_; clear hK K)
                | (refine mix_readE rfl rfl rfl ?_; apply Exists.intro; refine ⟨fun w' hb' => ?_, ?_⟩; (focus (obtain ⟨hc', hf'⟩ := Old.cells hb'; clear hb'; go_simp; try exact rfl)); have e0 : True := trivial; clear e0; refine mix_putK ?_; intro K hK; go_simp; refine hK _ ?_; clear hK K)
                | (refine mix_pureE rfl rfl ?_; apply Exists.intro; refine ⟨fun w' => ?_, ?_⟩; (focus (go_simp; try exact rfl)); have e0 : True := trivial; clear e0; refine mix_putK ?_; intro K hK; go_simp; refine hK _ ?_; clear hK K)
                | (refine mix_eff rfl rfl ?_; go_wp2_with (fail); refine then_mix rfl ?_ ?_; (first | (intro h; have h2 : false = true := h; cases h2) | (intro _; refine Old.mk ?_; repeat (first | (with_reducible exact Below.refl _ _) | (with_reducible refine Bal ?_ _) | (with_reducible refine Below.drew ?_) | (with_reducible refine below_drewN ?_ _) | (with_reducible refine Bset ?_ ?_ _; focus (first | (with_reducible exact Nat.le_refl _) | (simp; done) | (simp; omega) | omega)) | (with_reducible refine Bt ?_ (by assumption)) | (with_reducible refine Bp (g := g) ?_ (by assumption) (by assumption)))))))
              refine mix_nil ?_
              go_wp2
              go_roundw
              case rel => exact ⟨k + 1, by omega, by go_num, by rw [HGS.out, if_neg (by omega)], Lib.hid hZ.out.drew, hBl.drew, q0, q1, q2, hs1⟩
              case measure => simp [intOf]; omega
          · obtain rfl : k = m := by omega
            rw [HBE.out]
            clear hZs hkm
            try clear hc3 hf3
            (try clear hg2_0); (try clear hk2_0); (try clear hg3_0); (try clear hg3_1); (try clear hk3_0); (try clear hk3_1)
            obtain ⟨wo, hwo⟩ : ∃ wo : World, wo = wr := ⟨_, rfl⟩
            subst hwo
            go_wp2_with fail
            go_loopw [12] (fun i wq => ∃ j : Nat, j ≤ 3 ∧ i = .int .i64 j ∧ Hid (Ints wq 0 w1.heap.size A1 k z) ∧ Hid (Below w.heap.size w wq) ∧ wq.cell? ⟨w1.heap.size, 0, none⟩ = some (.int .i64 M) ∧ w1.heap.size < wo.heap.size ∧ wo.heap.size < wq.heap.size ∧
              wq.cell? ⟨wo.heap.size, 0, none⟩ = some (.int .i64 (stT k z M b d j).1) ∧ wq.cell? ⟨wo.heap.size, 1, none⟩ = some (.int .i64 (stT k z M b d j).2.1) ∧ wq.cell? ⟨wo.heap.size, 2, none⟩ = some (.int .i64 (stT k z M b d j).2.2) ∧
              wq.frozen? ⟨wo.heap.size, 0, none⟩ = false ∧ wq.frozen? ⟨wo.heap.size, 1, none⟩ = false ∧ wq.frozen? ⟨wo.heap.size, 2, none⟩ = false) (fun i _ => 3 - (intOf i).toNat)
            case atStart => exact ⟨0, by omega, rfl, Lib.hid (hZ.out.below (by omega) (Ba _ _)), Lib.hid (hBl.alloc hBl.size _), by go_simp, hs1, by simp, by go_simp; rfl, by go_simp; rfl, by go_simp; rfl, by go_simp, by go_simp, by go_simp⟩
            case round =>
              obtain ⟨j, hj, rfl, hZq, hBq, q0', hs1', hs2', r0, r1, r2, f0, f1, f2⟩ := hrel
              have hws : w1.heap.size < wr.heap.size := by omega
              by_cases hj3 : j < 3
              · have hok := stT_ok HO.out j
                have hi := fun (W : World) lo hi A c => @istp_any (stT k z M b d j).1 (stT k z M b d j).2.1 (stT k z M b d j).2.2 W lo hi A k c z
                obtain ⟨e1, e2, e3, e4⟩ := sp_yes hok
                rw [e1, e2, e3, e4] at hi
                have g1 : stN (stT k z M b d j).1 (stT k z M b d j).2.1 (stT k z M b d j).2.2 k z = (stT k z M b d (j + 1)).1 := rfl
                have g2 : stX (stT k z M b d j).1 (stT k z M b d j).2.1 (stT k z M b d j).2.2 k z = (stT k z M b d (j + 1)).2.1 := rfl
                have g3 : stW (stT k z M b d j).1 (stT k z M b d j).2.1 (stT k z M b d j).2.2 k z = (stT k z M b d (j + 1)).2.2 := rfl
                rw [g1, g2, g3] at hi
                clear e1 e2 e3 e4 g1 g2 g3 hok
                obtain ⟨P', hP'⟩ : ∃ P, P = (stT k z M b d (j + 1)).1 := ⟨_, rfl⟩
                obtain ⟨Q', hQ'⟩ : ∃ P, P = (stT k z M b d (j + 1)).2.1 := ⟨_, rfl⟩
                obtain ⟨R', hR'⟩ : ∃ P, P = (stT k z M b d (j + 1)).2.2 := ⟨_, rfl⟩
                rw [← hP', ← hQ', ← hR'] at hi
                generalize (stT k z M b d j).1 = P at *
                generalize (stT k z M b d j).2.1 = Q at *
                generalize (stT k z M b d j).2.2 = R at *
                have HP := Lib.hid hP'
                have HQ := Lib.hid hQ'
                have HR := Lib.hid hR'
                have HI2 := Lib.hid hi
                clear hP' hQ' hR' hi
                go_wp2_with fail
                refine (HI2.out _ _ _ _ _ (hZq.out.below (Nat.le_refl _) (by repeat (first | (with_reducible exact Below.refl _ _) | (with_reducible refine Bal ?_ _) | (with_reducible refine Below.drew ?_) | (with_reducible refine below_drewN ?_ _) | (with_reducible refine Bset ?_ ?_ _; focus (first | (with_reducible exact Nat.le_refl _) | (simp; done) | (simp; omega) | omega)) | (with_reducible refine Bt ?_ (by assumption)) | (with_reducible refine Bp (g := g) ?_ (by assumption) (by assumption))))) (by first | exact Nat.le_refl _ | (simp; done) | (simp; omega) | omega) hmn).mono ?_
                rintro e w7 ⟨rfl, hb7⟩
                obtain ⟨hc7, hf7⟩ := bcell hb7
                have hy7 := hb7.size
                have a0 := fun o => hc7 wo.heap.size o hs2'
                have a1 := fun o => hf7 wo.heap.size o hs2'
                have a2 := fun o => hc7 w1.heap.size o hws
                have hw7 : wo.heap.size < w7.heap.size := by omega
                have hw71 : w1.heap.size < w7.heap.size := by omega
                have hne : wo.heap.size ≠ w7.heap.size := by omega
                have hne2 : w1.heap.size ≠ wo.heap.size := by omega
                have hZ7 := Lib.hid (hZq.out.below (by omega) hb7)
                have hB7 := Lib.hid (hBq.out.trans (hb7.mono hBq.out.size))
                clear hc7 hf7 hb7
                go_wp2_with fail
                go_roundw
                case rel =>
                  refine ⟨j + 1, by omega, by go_num, Lib.hid ?_, Lib.hid ?_, by go_simp, hs1', by (try simp [World.setCell]); omega, by rw [← HP.out]; go_simp, by rw [← HQ.out]; go_simp, by rw [← HR.out]; go_simp, by go_simp, by go_simp, by go_simp⟩
                  · exact (((hZ7.out.setC (by simp; omega) _).setC (by simp; omega) _).setC (by simp; omega) _).below (by simp [World.setCell]; omega) (Ba _ _)
                  · exact (((hB7.out.setCell (by simp; omega) _).setCell (by simp; omega) _).setCell (by simp; omega) _).alloc (by have := hB7.out.size; simp [World.setCell]; omega) _
                case measure => simp [intOf]; omega
              · obtain rfl : j = 3 := by omega
                have h3 := stT_three HO.out rfl
                rw [HBE.out] at h3
                rw [h3] at r0
                clear r1 r2 f0 f1 f2 h3
                obtain ⟨b1, off, rfl, _, hb1', cB⟩ := hZq.out.at_ hB
                have cM := hZq.out.cell (k := M) hMn
                have hq3 : b1 < wr.heap.size := by omega
                have hzM := HZ.out M hMn
                have wM : IntKind.i64.wrap (z M + 10) = z M + 10 := by have := hzM.1; have := hzM.2; exact IntWalk.i64_in _ (by omega)
                clear hzM
                by_cases c1 : B = M
                · rw [if_pos (Or.inl c1)] at r0
                  subst c1
                  go_wp2_with fail
                  refine wp_region_mixB (by kernel_rfl) (by kernel_rfl) ?_
                  repeat (first
                    | (refine mix_skip rfl ?_; have e0 : True := trivial; clear e0; refine mix_putK ?_; intro K hK; go_simp; refine hK _ ?_; clear hK K)
                    | (refine mix_readE rfl rfl rfl ?_; apply Exists.intro; refine ⟨fun w' hb' => ?_, ?_⟩; (focus (obtain ⟨hc', hf'⟩ := Old.cells hb'; clear hb'; go_simp; try exact rfl)); have e0 : True := trivial; clear e0; refine mix_putK ?_; intro K hK; go_simp; refine hK _ ?_; clear hK K)
                    | (refine mix_pureE rfl rfl ?_; apply Exists.intro; refine ⟨fun w' => ?_, ?_⟩; (focus (go_simp; try exact rfl)); have e0 : True := trivial; clear e0; refine mix_putK ?_; intro K hK; go_simp; refine hK _ ?_; clear hK K)
                    | (refine mix_eff rfl rfl ?_; go_wp2_with (fail); refine then_mix rfl ?_ ?_; (first | (intro h; have h2 : false = true := h; cases h2) | (intro _; refine Old.mk ?_; repeat (first | (with_reducible exact Below.refl _ _) | (with_reducible refine Bal ?_ _) | (with_reducible refine Below.drew ?_) | (with_reducible refine below_drewN ?_ _) | (with_reducible refine Bset ?_ ?_ _; focus (first | (with_reducible exact Nat.le_refl _) | (simp; done) | (simp; omega) | omega)) | (with_reducible refine Bt ?_ (by assumption)) | (with_reducible refine Bp (g := g) ?_ (by assumption) (by assumption)))))))
                  refine mix_nil ?_
                  clear wM
                  go_wp2_with fail
                  go_ret
                  exact ⟨rfl, hBq.out.drew⟩
                · have cb0 : ¬ (B : Int) = (M : Int) := by omega
                  have cb : ((B : Int) == (M : Int)) = false := by simpa using cb0
                  by_cases c2 : z B < z M + 10
                  · rw [if_pos (Or.inr c2)] at r0
                    go_wp2_with fail
                    refine wp_region_mixB (by kernel_rfl) (by kernel_rfl) ?_
                    repeat (first
                      | (refine mix_skip rfl ?_; have e0 : True := trivial; clear e0; refine mix_putK ?_; intro K hK; go_simp; refine hK _ ?_; clear hK K)
                      | (refine mix_readE rfl rfl rfl ?_; apply Exists.intro; refine ⟨fun w' hb' => ?_, ?_⟩; (focus (obtain ⟨hc', hf'⟩ := Old.cells hb'; clear hb'; go_simp; try exact rfl)); have e0 : True := trivial; clear e0; refine mix_putK ?_; intro K hK; go_simp; refine hK _ ?_; clear hK K)
                      | (refine mix_pureE rfl rfl ?_; apply Exists.intro; refine ⟨fun w' => ?_, ?_⟩; (focus (go_simp; try exact rfl)); have e0 : True := trivial; clear e0; refine mix_putK ?_; intro K hK; go_simp; refine hK _ ?_; clear hK K)
                      | (refine mix_eff rfl rfl ?_; go_wp2_with (fail); refine then_mix rfl ?_ ?_; (first | (intro h; have h2 : false = true := h; cases h2) | (intro _; refine Old.mk ?_; repeat (first | (with_reducible exact Below.refl _ _) | (with_reducible refine Bal ?_ _) | (with_reducible refine Below.drew ?_) | (with_reducible refine below_drewN ?_ _) | (with_reducible refine Bset ?_ ?_ _; focus (first | (with_reducible exact Nat.le_refl _) | (simp; done) | (simp; omega) | omega)) | (with_reducible refine Bt ?_ (by assumption)) | (with_reducible refine Bp (g := g) ?_ (by assumption) (by assumption)))))))
                    refine mix_nil ?_
                    clear wM
                    go_wp2_with fail
                    go_ret
                    exact ⟨rfl, hBq.out.drew⟩
                  · rw [if_neg (by omega)] at r0
                    go_wp2_with fail
                    refine wp_region_mixB (by kernel_rfl) (by kernel_rfl) ?_
                    repeat (first
                      | (refine mix_skip rfl ?_; have e0 : True := trivial; clear e0; refine mix_putK ?_; intro K hK; go_simp; refine hK _ ?_; clear hK K)
                      | (refine mix_readE rfl rfl rfl ?_; apply Exists.intro; refine ⟨fun w' hb' => ?_, ?_⟩; (focus (obtain ⟨hc', hf'⟩ := Old.cells hb'; clear hb'; go_simp; try exact rfl)); have e0 : True := trivial; clear e0; refine mix_putK ?_; intro K hK; go_simp; refine hK _ ?_; clear hK K)
                      | (refine mix_pureE rfl rfl ?_; apply Exists.intro; refine ⟨fun w' => ?_, ?_⟩; (focus (go_simp; try exact rfl)); have e0 : True := trivial; clear e0; refine mix_putK ?_; intro K hK; go_simp; refine hK _ ?_; clear hK K)
                      | (refine mix_eff rfl rfl ?_; go_wp2_with (fail); refine then_mix rfl ?_ ?_; (first | (intro h; have h2 : false = true := h; cases h2) | (intro _; refine Old.mk ?_; repeat (first | (with_reducible exact Below.refl _ _) | (with_reducible refine Bal ?_ _) | (with_reducible refine Below.drew ?_) | (with_reducible refine below_drewN ?_ _) | (with_reducible refine Bset ?_ ?_ _; focus (first | (with_reducible exact Nat.le_refl _) | (simp; done) | (simp; omega) | omega)) | (with_reducible refine Bt ?_ (by assumption)) | (with_reducible refine Bp (g := g) ?_ (by assumption) (by assumption)))))))
                    refine mix_nil ?_
                    clear wM
                    go_wp2_with fail
                    go_ret
                    exact ⟨rfl, hBq.out.drew⟩
    · obtain ⟨e1, e2, e3, e4⟩ := sp_no ho
      rw [e1, e2, e3, e4] at hi hs
      have HI := Lib.hid hi
      have HS := Lib.hid hs
      clear hi hs e1 e2 e3 e4 ho
      go_wp2_with fail
      refine (HI.out _ _ _ _ _ (HL.out.below (Nat.le_refl _) (by repeat (first | (with_reducible exact Below.refl _ _) | (with_reducible refine Bal ?_ _) | (with_reducible refine Below.drew ?_) | (with_reducible refine below_drewN ?_ _) | (with_reducible refine Bset ?_ ?_ _; focus (first | (with_reducible exact Nat.le_refl _) | (simp; done) | (simp; omega) | omega)) | (with_reducible refine Bt ?_ (by assumption)) | (with_reducible refine Bp (g := g) ?_ (by assumption) (by assumption))))) (by first | exact Nat.le_refl _ | (simp; done) | (simp; omega) | omega) hmn).mono ?_
      rintro e w2 ⟨rfl, hb2⟩
      obtain ⟨hc2, hf2⟩ := bcell hb2
      have hy2 := hb2.size
      try simp at hy2
      first | (have hz2 : w.heap.size < w2.heap.size := by (have := hb2.size; (try simp at this); omega)) | skip
      have ho2_0 : w1.heap.size < w2.heap.size := by (have := hb2.size; (try simp at this); omega)
      have hg2_0 := fun o => hc2 (w1.heap.size) o (by first | (simp; done) | (simp; omega) | omega)
      have hk2_0 := fun o => hf2 (w1.heap.size) o (by first | (simp; done) | (simp; omega) | omega)
      try simp [go_sem] at hg2_0
      try simp [go_sem] at hk2_0
      go_wp2_with fail
      refine (HS.out _ _ _ _ _ (HL.out.below (Nat.le_refl _) (by repeat (first | (with_reducible exact Below.refl _ _) | (with_reducible refine Bal ?_ _) | (with_reducible refine Below.drew ?_) | (with_reducible refine below_drewN ?_ _) | (with_reducible refine Bset ?_ ?_ _; focus (first | (with_reducible exact Nat.le_refl _) | (simp; done) | (simp; omega) | omega)) | (with_reducible refine Bt ?_ (by assumption)) | (with_reducible refine Bp (g := g) ?_ (by assumption) (by assumption))))) (by first | exact Nat.le_refl _ | (simp; done) | (simp; omega) | omega) hmn).mono ?_
      rintro e w3 ⟨rfl, hb3⟩
      obtain ⟨hc3, hf3⟩ := bcell hb3
      have hy3 := hb3.size
      try simp at hy3
      first | (have hz3 : w.heap.size < w3.heap.size := by (have := hb3.size; (try simp at this); omega)) | skip
      have ho3_0 : w1.heap.size < w3.heap.size := by (have := hb3.size; (try simp at this); omega)
      have hg3_0 := fun o => hc3 (w1.heap.size) o (by first | (simp; done) | (simp; omega) | omega)
      have hk3_0 := fun o => hf3 (w1.heap.size) o (by first | (simp; done) | (simp; omega) | omega)
      try simp [go_sem] at hg3_0
      try simp [go_sem] at hk3_0
      have ho3_1 : w2.heap.size < w3.heap.size := by (have := hb3.size; (try simp at this); omega)
      have hg3_1 := fun o => hc3 (w2.heap.size) o (by first | (simp; done) | (simp; omega) | omega)
      have hk3_1 := fun o => hf3 (w2.heap.size) o (by first | (simp; done) | (simp; omega) | omega)
      try simp [go_sem] at hg3_1
      try simp [go_sem] at hk3_1
      go_wp2_with fail
      go_ret
      go_light
      refine ⟨rfl, ?_⟩
      repeat (first | (with_reducible exact Below.refl _ _) | (with_reducible refine Bal ?_ _) | (with_reducible refine Below.drew ?_) | (with_reducible refine below_drewN ?_ _) | (with_reducible refine Bset ?_ ?_ _; focus (first | (with_reducible exact Nat.le_refl _) | (simp; done) | (simp; omega) | omega)) | (with_reducible refine Bt ?_ (by assumption)) | (with_reducible refine Bp (g := g) ?_ (by assumption) (by assumption)))

end Go.Proofs.Ytmidpodoapggnaa
namespace Go.Proofs.Ytmidpodoapggnaa.fnSpeakLong
open Go.ChangeShapes Go.WideShapes Go.ChangeAt Go.RowKit
set_option linter.unusedVariables false

theorem own : ownKnob Try.prog.godebug = none := by kernel_rfl
theorem laidOut : laidOutB Try.prog = true := by kernel_rfl

set_option maxRecDepth 100000 in
theorem lifted (os : Os) (started : os.Started) (H : Type) (enc : TypeId × Value → H) :
    ReturnsInHanded {} Try.checked os 6 .any (Rows.fnSpeakLongSpec.pre6 enc Try.prog Try.f6 Rows.fnSpeakLongRow.domain false) (Rows.fnSpeakLongSpec.post enc Try.prog Try.f6 false true false false) := by
  refine returnsInHanded_of_change (C := Try.checked) own started (by kernel_rfl) Try.func6
    (ChangeSpec.witness6 (enc := enc) (C := Try.checked) false ⟨#[], #[.slice none 0 0], []⟩ 8 (by kernel_rfl) (by kernel_rfl) (by kernel_rfl) (by kernel_rfl)) ?_
  intro W base args ds gs before hval0 hW hcnd _
  have hval : ∀ (j : Nat) t v, Try.f6.params[j]? = some t → args[j]? = some v → Value.okWide Try.prog W .any base t v := hval0
  have hW' := hW
  obtain ⟨p, q, hA0, hV, rfl, hfz, hnd⟩ := hW
  have hA : DataW.TrodAll enc Try.prog W 0 (fun _ => true) true Try.f6.params.toList args.toList ds p := hA0
  rw [Try.params6] at hA hval
  obtain ⟨v0, vs0, d0, ds0, p0, q0, hargs, rfl, rfl, h0, r0⟩ := trodAll_cons hA
  obtain ⟨rfl, rfl, rfl⟩ := trodAll_nil r0
  obtain rfl : args = #[v0] := by cases args; simp_all
  obtain ⟨rfl, rfl⟩ := trodVars_none hV
  have k0 := h0
  have lt0 : ∀ x ∈ p0, x.block < W.heap.size := by obtain ⟨m, hm⟩ := k0; exact DataW.trod_lt m _ _ _ hm
  obtain ⟨a0, n0, c0, rfl, w0⟩ := open_code (hval 0 22 v0 rfl rfl) h0
  clear hA0 hval0
  refine (walk_FnSpeakLong a0 n0 c0 W w0).mono fun e W' ⟨he, bel⟩ => ?_
  subst he
  exact ⟨_, rfl, _, _, _, [], _, [], hW', trodAll_mk1 (shut_bool Try.underlying4 _), (trodAll_cons_mk (Below.trod laidOut (by kernel_rfl) (of_decide_eq_true (by kernel_rfl)) k0 bel lt0) trodAll_mk0), rfl, bel.frame _, fun h => by cases h⟩

theorem over : Rows.fnSpeakLongRow.holds Try.pinned (OpenSpec.ofChange Rows.fnSpeakLongSpec) :=
  OpenClaim.holds_of_wide 6 Try.f6 rfl rfl rfl rfl rfl rfl rfl ⟨rfl, rfl, rfl, rfl, rfl⟩ rfl rfl rfl rfl rfl (by kernel_rfl) Try.func6 (by kernel_rfl)
    (of_decide_eq_true (by kernel_rfl)) (by unfold Func.isWrapper; first | (rw [if_pos (by decide +kernel)]; kernel_rfl) | (rw [if_neg (by decide +kernel)]; exact ⟨rfl, rfl⟩))
    (fun os started H enc _ => lifted os started H enc)

/-- The statement. -/
theorem proved : Rows.FnSpeakLongSaid := over
#print axioms proved
end Go.Proofs.Ytmidpodoapggnaa.fnSpeakLong
