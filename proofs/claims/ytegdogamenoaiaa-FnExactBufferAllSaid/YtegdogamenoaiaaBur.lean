/- A buffer: what is put, of the rule, where the packet is not late (printed by gen_buq.py). -/
import Derived.Test.YtegdogamenoaiaaBuq
namespace Go.Proofs.Ytegdogamenoaiaa
open Go Go.RowKit
set_option linter.unusedVariables false
set_option linter.unusedSimpArgs false
set_option maxRecDepth 100000 in
set_option maxHeartbeats 16000000 in
theorem sbp_main (w : World) (lo hi : Nat) (A : Option Addr) (n c : Nat) (y d now : Int) (q : Nat → Hd) (x : Pk) (h : RowAt w lo hi A n 7 (HdF q)) (hi' : hi ≤ w.heap.size) (hn : n ≤ 1048576) (hnc : n ≤ c) (hOk : ptOk y d n q x now) (hl : ¬ x.w < y) :
    Calls Try.prog 24 #[.agg #[.int .i64 y, .int .i64 d, .slice A n c], PkV x, .int .i64 now] w (PutRet y d n q x now w) := by
  obtain ⟨i0, q1, q2, q3, q4⟩ := info_parts info_hd
  have hv := fun W (hb : Below w.heap.size w W) => sbv_any W lo hi A n c y d q (h.below hi' hb) (Nat.le_trans hi' hb.size) hn
  have hp := fun W : World => spv_any x.w x.t x.l x.s x.k x.z W
  have ht := fun W : World => l6In_any now 0 99999 W
  have H := Lib.hid h
  have HOk := Lib.hid hOk
  obtain ⟨hO, hX, hT⟩ := hOk
  clear h
  rw [show bfB y d n q = true from decide_eq_true hO] at hv
  have HV := Lib.hid hv
  rw [show pkB ⟨x.w, x.t, x.l, x.s, x.k, x.z⟩ = true from decide_eq_true hX] at hp
  have HP := Lib.hid hp
  rw [inB_t hT.1 hT.2] at ht
  have HT := Lib.hid ht
  have HA := Lib.hid hO.2.2.2.asc
  have hn10 : n ≤ 10 := hO.2.2.1
  clear hO hX hT hn hv hp ht
  go_enter Try.func24, Try.ntmps24
  unfold PkV
  go_wp2_with fail
  refine (HV.out _ ?_).mono ?_
  focus (repeat (first | (with_reducible exact Below.refl _ _) | (with_reducible refine Bal ?_ _) | (with_reducible refine Below.drew ?_) | (with_reducible refine below_drewN ?_ _) | (with_reducible refine Bset ?_ ?_ _; focus (first | (with_reducible exact Nat.le_refl _) | (simp; done) | (simp; omega) | omega)) | (with_reducible refine Bt ?_ (by assumption)) | (with_reducible refine Bp (g := g) ?_ (by assumption) (by assumption))))
  rintro e w1 ⟨rfl, hb1⟩
  obtain ⟨hc1, hf1⟩ := bcell hb1
  have hy1 := hb1.size
  try simp at hy1
  have hg1_0 := fun o => hc1 (w.heap.size) o (by first | (simp; done) | (simp; omega) | omega)
  try simp [go_sem] at hg1_0
  have hg1_1 := fun o => hc1 (w.heap.size + 1) o (by first | (simp; done) | (simp; omega) | omega)
  try simp [go_sem] at hg1_1
  have hg1_2 := fun o => hc1 (w.heap.size + 1 + 1) o (by first | (simp; done) | (simp; omega) | omega)
  try simp [go_sem] at hg1_2
  have hk1_2 := fun o => hf1 (w.heap.size + 1 + 1) o (by first | (simp; done) | (simp; omega) | omega)
  try simp [go_sem] at hk1_2
  go_wp2_with fail
  refine (HP.out _).mono ?_
  rintro e w2 ⟨rfl, hb2⟩
  obtain ⟨hc2, hf2⟩ := bcell hb2
  have hy2 := hb2.size
  try simp at hy2
  have hg2_0 := fun o => hc2 (w.heap.size) o (by first | (simp; done) | (simp; omega) | omega)
  try simp [go_sem] at hg2_0
  have hg2_1 := fun o => hc2 (w.heap.size + 1) o (by first | (simp; done) | (simp; omega) | omega)
  try simp [go_sem] at hg2_1
  have hg2_2 := fun o => hc2 (w.heap.size + 1 + 1) o (by first | (simp; done) | (simp; omega) | omega)
  try simp [go_sem] at hg2_2
  have hk2_2 := fun o => hf2 (w.heap.size + 1 + 1) o (by first | (simp; done) | (simp; omega) | omega)
  try simp [go_sem] at hk2_2
  go_wp2_with fail
  refine (HT.out _).mono ?_
  rintro e w' ⟨rfl, rfl⟩
  have hW2 : Below w.heap.size w w2 := by repeat (first | (with_reducible exact Below.refl _ _) | (with_reducible refine Bal ?_ _) | (with_reducible refine Below.drew ?_) | (with_reducible refine below_drewN ?_ _) | (with_reducible refine Bset ?_ ?_ _; focus (first | (with_reducible exact Nat.le_refl _) | (simp; done) | (simp; omega) | omega)) | (with_reducible refine Bt ?_ (by assumption)) | (with_reducible refine Bp (g := g) ?_ (by assumption) (by assumption)))
  have HW2 := Lib.hid hW2
  have hz2 := hW2.size
  clear hW2
  go_wp2_with fail
  refine (copy_any _ lo hi A n c y d q ?_ ?_ (by omega)).mono ?_
  focus (exact H.out.below hi' HW2.out)
  focus (omega)
  rintro e w3 ⟨A3, c3, rfl, hO3, hb3⟩
  obtain ⟨hc3, hf3⟩ := bcell hb3
  have hy3 := hb3.size
  try simp at hy3
  have hg3_0 := fun o => hc3 (w.heap.size) o (by first | (simp; done) | (simp; omega) | omega)
  try simp [go_sem] at hg3_0
  have hg3_1 := fun o => hc3 (w.heap.size + 1) o (by first | (simp; done) | (simp; omega) | omega)
  try simp [go_sem] at hg3_1
  have hg3_2 := fun o => hc3 (w.heap.size + 1 + 1) o (by first | (simp; done) | (simp; omega) | omega)
  try simp [go_sem] at hg3_2
  have hk3_2 := fun o => hf3 (w.heap.size + 1 + 1) o (by first | (simp; done) | (simp; omega) | omega)
  try simp [go_sem] at hk3_2
  have HO3 := Lib.hid hO3
  have hz3 := hb3.size
  have hz3a : w.heap.size < w3.heap.size := by omega
  have hz3b : w.heap.size + 1 < w3.heap.size := by omega
  have hz3c : w.heap.size + 1 + 1 < w3.heap.size := by omega
  have HW3 := Lib.hid (HW2.out.trans (Below.mono hb3 (by omega)))
  clear hO3
  go_wp2_with fail
  go_loopw [9] (fun i wr => ∃ k, k ≤ n ∧ i = .int .i64 (k : Nat) ∧ Hid (∀ i, i < k → (q i).p.w < x.w) ∧ Hid (Below (w3.heap.size + 1) (w3.alloc (.cells #[.int .i64 y, .int .i64 d, .slice A3 n c3] 28)) wr)) (fun i _ => n - (intOf i).toNat)
  case atStart => exact ⟨0, Nat.zero_le _, rfl, Lib.hid (fun i h => absurd h (by omega)), Lib.hid (Below.refl _ _)⟩
  case round =>
    obtain ⟨k, hk, rfl, hL, hB⟩ := hrel
    have hBs : w3.heap.size + 1 ≤ wr.heap.size := by have := hB.out.size; simpa using this
    have HWr := Lib.hid ((HW3.out.alloc (show w.heap.size ≤ w3.heap.size by omega) (.cells #[.int .i64 y, .int .i64 d, .slice A3 n c3] 28)).trans (Below.mono hB.out (show w.heap.size ≤ w3.heap.size + 1 by omega)))
    have HRr := Lib.hid (H.out.below hi' HWr.out)
    have hlw : hi ≤ wr.heap.size := by have := HWr.out.size; omega
    have HOr := Lib.hid ((HO3.out.alloc (.cells #[.int .i64 y, .int .i64 d, .slice A3 n c3] 28)).below (B := w3.heap.size + 1) (by omega) hB.out)
    obtain ⟨hcr, hfr⟩ := below_cells hB.out
    have hgr_0 := fun o => hcr (w.heap.size) o (by first | (simp; done) | (simp; omega) | omega)
    try simp [go_sem] at hgr_0
    have hgr_1 := fun o => hcr (w.heap.size + 1) o (by first | (simp; done) | (simp; omega) | omega)
    try simp [go_sem] at hgr_1
    have hgr_2 := fun o => hcr (w.heap.size + 1 + 1) o (by first | (simp; done) | (simp; omega) | omega)
    try simp [go_sem] at hgr_2
    have hgr_3 := fun o => hcr (w3.heap.size) o (by first | (simp; done) | (simp; omega) | omega)
    try simp [go_sem] at hgr_3
    have hkr_2 := fun o => hfr (w.heap.size + 1 + 1) o (by first | (simp; done) | (simp; omega) | omega)
    try simp [go_sem] at hkr_2
    have hor_0 : w.heap.size < wr.heap.size := by omega
    have hor_1 : w.heap.size + 1 < wr.heap.size := by omega
    have hor_2 : w.heap.size + 1 + 1 < wr.heap.size := by omega
    have hor_3 : w3.heap.size < wr.heap.size := by omega
    by_cases hkn : k < n
    rotate_left
    · skip
      go_wp2_with fail
      refine wp_region_mixB (by kernel_rfl) (by kernel_rfl) ?_
      repeat (first
        | (refine mix_skip rfl ?_; have e0 : True := trivial; clear e0; refine mix_putK ?_; intro K hK; go_simp; refine hK _ ?_; clear hK K)
        | (refine mix_readE rfl rfl rfl ?_; apply Exists.intro; refine ⟨fun w' hb' => ?_, ?_⟩; (focus (obtain ⟨hc', hf'⟩ := Old.cells hb'; clear hb'; go_simp; try exact rfl)); have e0 : True := trivial; clear e0; refine mix_putK ?_; intro K hK; go_simp; refine hK _ ?_; clear hK K)
        | (refine mix_pureE rfl rfl ?_; apply Exists.intro; refine ⟨fun w' => ?_, ?_⟩; (focus (go_simp; try exact rfl)); have e0 : True := trivial; clear e0; refine mix_putK ?_; intro K hK; go_simp; refine hK _ ?_; clear hK K)
        | (refine mix_eff rfl rfl ?_; go_wp2_with (fail); refine then_mix rfl ?_ ?_; (first | (intro h; have h2 : false = true := h; cases h2) | (intro _; assumption) | (intro _; refine Old.mk ?_; repeat (first | (with_reducible exact Below.refl _ _) | (with_reducible refine Bal ?_ _) | (with_reducible refine Below.drew ?_) | (with_reducible refine below_drewN ?_ _) | (with_reducible refine Bset ?_ ?_ _; focus (first | (with_reducible exact Nat.le_refl _) | (simp; done) | (simp; omega) | omega)) | (with_reducible refine Bt ?_ (by assumption)) | (with_reducible refine Bp (g := g) ?_ (by assumption) (by assumption)))))))
      refine mix_nil ?_
      go_upto_region 9 with fail
      generalize hwwd : wr.drew = wd
      have hbwd : Below wr.heap.size wr wd := by rw [← hwwd]; exact Below.drew (Below.refl _ _)
      clear hwwd
      have hzwd := hbwd.size
      have hgwd_0 : ∀ o : Nat, wd.cell? ⟨w.heap.size, o, none⟩ = ([.int .i64 y, .int .i64 d, .slice A n c] : List Value)[o]? := fun o => ((below_cells hbwd).1 _ o (by omega)).trans (by go_simp; try rfl)
      have hgwd_1 : ∀ o : Nat, wd.cell? ⟨w.heap.size + 1, o, none⟩ = ([.int .i64 x.w, .int .i64 x.t, .int .i64 x.l, .int .i64 x.s, .bool x.k, .bool x.z] : List Value)[o]? := fun o => ((below_cells hbwd).1 _ o (by omega)).trans (by go_simp; try rfl)
      have hgwd_2 : ∀ o : Nat, wd.cell? ⟨w.heap.size + 1 + 1, o, none⟩ = ([.int .i64 0, .int .i64 0, .slice none 0 0] : List Value)[o]? := fun o => ((below_cells hbwd).1 _ o (by omega)).trans (by go_simp; try rfl)
      have hgwd_3 : ∀ o : Nat, wd.cell? ⟨w3.heap.size, o, none⟩ = ([.int .i64 y, .int .i64 d, .slice A3 n c3] : List Value)[o]? := fun o => ((below_cells hbwd).1 _ o (by omega)).trans (by go_simp; try rfl)
      have hkwd_2 : ∀ o : Nat, wd.frozen? ⟨w.heap.size + 1 + 1, o, none⟩ = false := fun o => ((below_cells hbwd).2 _ o (by omega)).trans (by go_simp; try rfl)
      have hkwd_3 : ∀ o : Nat, wd.frozen? ⟨w3.heap.size, o, none⟩ = false := fun o => ((below_cells hbwd).2 _ o (by omega)).trans (by go_simp; try rfl)
      have hqwd_0 : w.heap.size < wd.heap.size := by omega
      have hqwd_1 : w.heap.size + 1 < wd.heap.size := by omega
      have hqwd_2 : w.heap.size + 1 + 1 < wd.heap.size := by omega
      have hqwd_3 : w3.heap.size < wd.heap.size := by omega
      have HWd := Lib.hid (HWr.out.trans (Below.mono hbwd (by omega)))
      have HRd := Lib.hid (HRr.out.below (B := wr.heap.size) (by omega) hbwd)
      have HOd := Lib.hid (HOr.out.below (B := wr.heap.size) (by omega) hbwd)
      clear hgr_0 hgr_1 hgr_2 hgr_3 hkr_2 hcr hfr
      (try clear hg1_0 hg1_1 hg1_2 hg2_0 hg2_1 hg2_2 hg3_0 hg3_1 hg3_2 hk1_2 hc1 hf1 hk2_2 hc2 hf2 hk3_2 hc3 hf3)
      have hno : ¬ holdsB n q x.w = true := by
        intro h
        obtain ⟨i, hi, e⟩ := of_decide_eq_true h
        by_cases h1 : i < k
        · have := hL.out i h1; omega
        · omega
      have hpa : ptAt q x.w n = k := ptAt_eq n hk hL.out fun i h1 h2 => absurd h2 (by omega)
      by_cases hF : 10 ≤ n
      · have HK := Lib.hid (pt_full HOk.out (by omega) hno hF)
        have hnb : ((n : Int) == 10) = true := by simp; omega
        clear hno hpa
        go_wp2_with fail
        refine wp_region_mixB (by kernel_rfl) (by kernel_rfl) ?_
        repeat (first
          | (refine mix_skip rfl ?_; have e0 : True := trivial; clear e0; refine mix_putK ?_; intro K hK; go_simp; refine hK _ ?_; clear hK K)
          | (refine mix_readE rfl rfl rfl ?_; apply Exists.intro; refine ⟨fun w' hb' => ?_, ?_⟩; (focus (obtain ⟨hc', hf'⟩ := Old.cells hb'; clear hb'; go_simp; try exact rfl)); have e0 : True := trivial; clear e0; refine mix_putK ?_; intro K hK; go_simp; refine hK _ ?_; clear hK K)
          | (refine mix_pureE rfl rfl ?_; apply Exists.intro; refine ⟨fun w' => ?_, ?_⟩; (focus (go_simp; try exact rfl)); have e0 : True := trivial; clear e0; refine mix_putK ?_; intro K hK; go_simp; refine hK _ ?_; clear hK K)
          | (refine mix_eff rfl rfl ?_; go_wp2_with (fail); refine then_mix rfl ?_ ?_; (first | (intro h; have h2 : false = true := h; cases h2) | (intro _; assumption) | (intro _; refine Old.mk ?_; repeat (first | (with_reducible exact Below.refl _ _) | (with_reducible refine Bal ?_ _) | (with_reducible refine Below.drew ?_) | (with_reducible refine below_drewN ?_ _) | (with_reducible refine Bset ?_ ?_ _; focus (first | (with_reducible exact Nat.le_refl _) | (simp; done) | (simp; omega) | omega)) | (with_reducible refine Bt ?_ (by assumption)) | (with_reducible refine Bp (g := g) ?_ (by assumption) (by assumption)))))))
        refine mix_nil ?_
        go_wp2_with fail
        refine bodyPost_ret (v := .tuple #[.agg #[.int .i64 y, .int .i64 d, .slice A3 n c3], .int .i64 3]) ?_ rfl ?_
        · simp only [results, Try.results24]
          go_simp
        refine PutRet.same HK.out (by decide) ?_ ?_
        · refine RowOwn.wide (lo := w2.heap.size) (hi := w3.heap.size) ?_ (by omega) (by first | omega | (simp; omega) | (simp; done))
          repeat (first | (with_reducible exact HOd.out) | (with_reducible refine RowOwn.drew ?_) | refine RowOwn.alloc ?_ _ | (refine RowOwn.setC (Or.inl ?_) ?_ _; focus (simp; omega)))
        · repeat (first | (with_reducible exact HWd.out) | (with_reducible refine Below.drew ?_) | refine Bal ?_ _ | (refine Bset ?_ ?_ _; focus (simp; omega)))
      have HK := Lib.hid (pt_fine HOk.out (by omega) hno hF)
      have HPA := Lib.hid hpa
      have hnb : ((n : Int) == 10) = false := by simp; omega
      clear hno hpa
      go_wp2_with fail
      refine wp_region_mixB (by kernel_rfl) (by kernel_rfl) ?_
      repeat (first
        | (refine mix_skip rfl ?_; have e0 : True := trivial; clear e0; refine mix_putK ?_; intro K hK; go_simp; refine hK _ ?_; clear hK K)
        | (refine mix_readE rfl rfl rfl ?_; apply Exists.intro; refine ⟨fun w' hb' => ?_, ?_⟩; (focus (obtain ⟨hc', hf'⟩ := Old.cells hb'; clear hb'; go_simp; try exact rfl)); have e0 : True := trivial; clear e0; refine mix_putK ?_; intro K hK; go_simp; refine hK _ ?_; clear hK K)
        | (refine mix_pureE rfl rfl ?_; apply Exists.intro; refine ⟨fun w' => ?_, ?_⟩; (focus (go_simp; try exact rfl)); have e0 : True := trivial; clear e0; refine mix_putK ?_; intro K hK; go_simp; refine hK _ ?_; clear hK K)
        | (refine mix_eff rfl rfl ?_; go_wp2_with (fail); refine then_mix rfl ?_ ?_; (first | (intro h; have h2 : false = true := h; cases h2) | (intro _; assumption) | (intro _; refine Old.mk ?_; repeat (first | (with_reducible exact Below.refl _ _) | (with_reducible refine Bal ?_ _) | (with_reducible refine Below.drew ?_) | (with_reducible refine below_drewN ?_ _) | (with_reducible refine Bset ?_ ?_ _; focus (first | (with_reducible exact Nat.le_refl _) | (simp; done) | (simp; omega) | omega)) | (with_reducible refine Bt ?_ (by assumption)) | (with_reducible refine Bp (g := g) ?_ (by assumption) (by assumption)))))))
      refine mix_nil ?_
      go_upto_region 13 with fail
      generalize hwwe : wd.drew = we
      have hbwe : Below wd.heap.size wd we := by rw [← hwwe]; exact Below.drew (Below.refl _ _)
      clear hwwe
      have hzwe := hbwe.size
      have hgwe_0 : ∀ o : Nat, we.cell? ⟨w.heap.size, o, none⟩ = ([.int .i64 y, .int .i64 d, .slice A n c] : List Value)[o]? := fun o => ((below_cells hbwe).1 _ o (by omega)).trans (by go_simp; try rfl)
      have hgwe_1 : ∀ o : Nat, we.cell? ⟨w.heap.size + 1, o, none⟩ = ([.int .i64 x.w, .int .i64 x.t, .int .i64 x.l, .int .i64 x.s, .bool x.k, .bool x.z] : List Value)[o]? := fun o => ((below_cells hbwe).1 _ o (by omega)).trans (by go_simp; try rfl)
      have hgwe_2 : ∀ o : Nat, we.cell? ⟨w.heap.size + 1 + 1, o, none⟩ = ([.int .i64 0, .int .i64 0, .slice none 0 0] : List Value)[o]? := fun o => ((below_cells hbwe).1 _ o (by omega)).trans (by go_simp; try rfl)
      have hgwe_3 : ∀ o : Nat, we.cell? ⟨w3.heap.size, o, none⟩ = ([.int .i64 y, .int .i64 d, .slice A3 n c3] : List Value)[o]? := fun o => ((below_cells hbwe).1 _ o (by omega)).trans (by go_simp; try rfl)
      have hkwe_2 : ∀ o : Nat, we.frozen? ⟨w.heap.size + 1 + 1, o, none⟩ = false := fun o => ((below_cells hbwe).2 _ o (by omega)).trans (by go_simp; try rfl)
      have hkwe_3 : ∀ o : Nat, we.frozen? ⟨w3.heap.size, o, none⟩ = false := fun o => ((below_cells hbwe).2 _ o (by omega)).trans (by go_simp; try rfl)
      have hqwe_0 : w.heap.size < we.heap.size := by omega
      have hqwe_1 : w.heap.size + 1 < we.heap.size := by omega
      have hqwe_2 : w.heap.size + 1 + 1 < we.heap.size := by omega
      have hqwe_3 : w3.heap.size < we.heap.size := by omega
      have HWe := Lib.hid (HWd.out.trans (Below.mono hbwe (by omega)))
      have HRe := Lib.hid (HRd.out.below (B := wd.heap.size) (by omega) hbwe)
      have HOe := Lib.hid (HOd.out.below (B := wd.heap.size) (by omega) hbwe)
      clear hgwd_0 hgwd_1 hgwd_2 hgwd_3 hkwd_2 hkwd_3
      refine wp_region_anyR (R := fun a b => Below (we.heap.size) a b) (by kernel_rfl) (fun w => Below.refl _ _) (fun _ _ _ h k => Below.trans h k) (by kernel_rfl) ?_
      simp only [List.size_toArray, List.length_cons, List.length_nil, Nat.zero_add, Nat.reduceAdd]
      refine any_pure 1 (by decide +kernel) rfl rfl ?_; apply Exists.intro; refine ⟨fun w' => ?_, ?_⟩; (focus (first | (exact exec_upto (.tmp 77) (.tmp 78) rfl rfl rfl Try.underlying26 q1 q3 (by omega)) | (go_simp; try exact rfl))); have e0 : True := trivial; clear e0; refine any_putK ?_; intro K hK; go_simp; refine hK _ ?_; clear hK K
      refine any_read 2 (by decide +kernel) rfl rfl rfl ?_; apply Exists.intro; refine ⟨fun w' hb' => ?_, ?_⟩; (focus (obtain ⟨hc', hf'⟩ := below_cells hb'; clear hb'; go_simp; try exact rfl)); have e0 : True := trivial; clear e0; refine any_putK ?_; intro K hK; go_simp; refine hK _ ?_; clear hK K
      refine any_pure 3 (by decide +kernel) rfl rfl ?_; apply Exists.intro; refine ⟨fun w' => ?_, ?_⟩; (focus (first | (exact exec_upto (.tmp 77) (.tmp 78) rfl rfl rfl Try.underlying26 q1 q3 (by omega)) | (go_simp; try exact rfl))); have e0 : True := trivial; clear e0; refine any_putK ?_; intro K hK; go_simp; refine hK _ ?_; clear hK K
      refine any_pure 4 (by decide +kernel) rfl rfl ?_; apply Exists.intro; refine ⟨fun w' => ?_, ?_⟩; (focus (first | (exact exec_upto (.tmp 77) (.tmp 78) rfl rfl rfl Try.underlying26 q1 q3 (by omega)) | (go_simp; try exact rfl))); have e0 : True := trivial; clear e0; refine any_putK ?_; intro K hK; go_simp; refine hK _ ?_; clear hK K
      refine any_read 6 (by decide +kernel) rfl rfl rfl ?_; apply Exists.intro; refine ⟨fun w' hb' => ?_, ?_⟩; (focus (obtain ⟨hc', hf'⟩ := below_cells hb'; clear hb'; go_simp; try exact rfl)); have e0 : True := trivial; clear e0; refine any_putK ?_; intro K hK; go_simp; refine hK _ ?_; clear hK K
      refine any_pure 7 (by decide +kernel) rfl rfl ?_; apply Exists.intro; refine ⟨fun w' => ?_, ?_⟩; (focus (first | (exact exec_upto (.tmp 77) (.tmp 78) rfl rfl rfl Try.underlying26 q1 q3 (by omega)) | (go_simp; try exact rfl))); have e0 : True := trivial; clear e0; refine any_putK ?_; intro K hK; go_simp; refine hK _ ?_; clear hK K
      refine any_pure 8 (by decide +kernel) rfl rfl ?_; apply Exists.intro; refine ⟨fun w' => ?_, ?_⟩; (focus (first | (exact exec_upto (.tmp 77) (.tmp 78) rfl rfl rfl Try.underlying26 q1 q3 (by omega)) | (go_simp; try exact rfl))); have e0 : True := trivial; clear e0; refine any_putK ?_; intro K hK; go_simp; refine hK _ ?_; clear hK K
      refine any_branch (by decide +kernel) ?_
      simp only [List.size_toArray, List.length_cons, List.length_nil, Nat.zero_add, Nat.reduceAdd]
      repeat' (first | exact lt_zero | refine lt_succ ?_ ?_ | exact any_none (by decide +kernel) | fail)
      · refine any_one rfl rfl rfl ?_
        go_wp2_with (fail)
        refine then_any rfl ?_ ?_; focus (first | (intro h; have h2 : false = true := h; cases h2) | (intro _; show Below _ _ _; first | assumption | (repeat (first | assumption | (with_reducible exact Below.refl _ _) | (exact below_undrew _ _) | (with_reducible refine Below.drew ?_) | (with_reducible refine Below.alloc ?_ (by first | exact Nat.le_refl _ | (simp; done) | (simp; omega) | omega) _) | (with_reducible refine Below.setCell ?_ (by first | exact Nat.le_refl _ | (simp; done) | (simp; omega) | omega) _)))))
        refine any_branch (by decide +kernel) ?_
        simp only [List.size_toArray, List.length_cons, List.length_nil, Nat.zero_add, Nat.reduceAdd]
        repeat' (first | exact lt_zero | refine lt_succ ?_ ?_ | exact any_none (by decide +kernel) | fail)
        · refine any_one rfl rfl rfl ?_
          go_wp2_with (fail)
          refine then_any rfl ?_ ?_; focus (first | (intro h; have h2 : false = true := h; cases h2) | (intro _; show Below _ _ _; first | assumption | (repeat (first | assumption | (with_reducible exact Below.refl _ _) | (exact below_undrew _ _) | (with_reducible refine Below.drew ?_) | (with_reducible refine Below.alloc ?_ (by first | exact Nat.le_refl _ | (simp; done) | (simp; omega) | omega) _) | (with_reducible refine Below.setCell ?_ (by first | exact Nat.le_refl _ | (simp; done) | (simp; omega) | omega) _)))))
          refine any_branch (by decide +kernel) ?_
          simp only [List.size_toArray, List.length_cons, List.length_nil, Nat.zero_add, Nat.reduceAdd]
          repeat' (first | exact lt_zero | refine lt_succ ?_ ?_ | exact any_none (by decide +kernel) | fail)
          · refine any_one rfl rfl rfl ?_
            refine wpList_rowAppendN _ rfl (.tmp 75) (.tmp 79) _ rfl 54 i0 _ 7 48 Try.underlying26 q1 q2 q3 q4 rfl (by decide) we.heap.size (we.heap.size + 2) _ 0 0 (HdF q) rfl ?_ lo hi _ k c (HdF q) rfl ?_ k (Nat.zero_add _) ?_ ?_ ?_ ?_ ?_
            · first | exact (empty_at _ _ _ 7 _ (by simp)).wide (by omega) (by omega) | exact ((empty_at _ _ _ 7 _ (by simp)).alloc _).wide (by omega) (by omega) | exact RowOwn.drew ((empty_at _ _ _ 7 _ (by simp)).wide (by omega) (by omega)) | exact RowOwn.drew (((empty_at _ _ _ 7 _ (by simp)).alloc _).wide (by omega) (by omega))
            · exact (HRe.out.below (B := we.heap.size) (by omega) (by repeat (first | assumption | (with_reducible exact Below.refl _ _) | (exact below_undrew _ _) | (with_reducible refine Below.drew ?_) | (with_reducible refine Below.alloc ?_ (by first | exact Nat.le_refl _ | (simp; done) | (simp; omega) | omega) _) | (with_reducible refine Below.setCell ?_ (by first | exact Nat.le_refl _ | (simp; done) | (simp; omega) | omega) _)))).upto hk
            · intro j hj; exact hd_one _ _
            · unfold maxLen; omega
            · omega
            · first | omega | (simp; done) | (simp; omega)
            intro A4 c4 w4 hO4 hG4 hL4
            have hO5 := zero_hd hO4
            have hb4 : Below we.heap.size _ w4 := Below.grown (Below.refl _ _) hG4 (by first | omega | (simp; done) | (simp; omega)) (by intro j hj; simp [Value.ownBlock] at hj; omega)
            have hbe4 : Below we.heap.size we w4 := Below.trans (by repeat (first | assumption | (with_reducible exact Below.refl _ _) | (exact below_undrew _ _) | (with_reducible refine Below.drew ?_) | (with_reducible refine Below.alloc ?_ (by first | exact Nat.le_refl _ | (simp; done) | (simp; omega) | omega) _) | (with_reducible refine Below.setCell ?_ (by first | exact Nat.le_refl _ | (simp; done) | (simp; omega) | omega) _))) hb4
            have hze4 := hbe4.size
            have hzg4 := hG4.size
            (try simp at hzg4)
            first | (have hr84 := RowAt.only (r := some we.heap.size) (by simp) (by intro g e; cases e; left; omega) (hd_row_at _ (we.heap.size + 1) (by simp) ⟨x, now⟩ _) hG4) | (have hr84 := RowAt.only (r := some we.heap.size) (by simp) (by intro g e; cases e; left; omega) (RowAt.drew (hd_row_at _ (we.heap.size + 1) (by simp) ⟨x, now⟩ 54)) hG4) | (have hr84 := RowAt.only (r := some (we.heap.size + 1)) (by simp) (by intro g e; cases e; right; omega) ((hd_row_at _ we.heap.size (by simp) ⟨x, now⟩ _).alloc (by simp) _) hG4) | (have hr84 := RowAt.only (r := some (we.heap.size + 1)) (by simp) (by intro g e; cases e; right; omega) (RowAt.drew ((hd_row_at _ we.heap.size (by simp) ⟨x, now⟩ 54).alloc (by simp) _)) hG4) | skip
            go_wp2_with (fail)
            refine then_any rfl ?_ ?_; focus (first | (intro h; have h2 : false = true := h; cases h2) | (intro _; show Below _ _ _; first | assumption | (repeat (first | assumption | (with_reducible exact Below.refl _ _) | (exact below_undrew _ _) | (with_reducible refine Below.drew ?_) | (with_reducible refine Below.alloc ?_ (by first | exact Nat.le_refl _ | (simp; done) | (simp; omega) | omega) _) | (with_reducible refine Below.setCell ?_ (by first | exact Nat.le_refl _ | (simp; done) | (simp; omega) | omega) _)))))
            refine any_branch (by decide +kernel) ?_
            simp only [List.size_toArray, List.length_cons, List.length_nil, Nat.zero_add, Nat.reduceAdd]
            repeat' (first | exact lt_zero | refine lt_succ ?_ ?_ | exact any_none (by decide +kernel) | fail)
            · refine any_one rfl rfl rfl ?_
              refine wpList_rowAppendN _ rfl (.tmp 80) (.tmp 84) _ rfl 54 i0 _ 7 48 Try.underlying26 q1 q2 q3 q4 rfl (by decide) we.heap.size w4.heap.size A4 k c4 (HdF q) rfl ?_ 0 (w4.heap.size + 1) _ 1 1 (HdF fun _ => ⟨x, now⟩) rfl ?_ (k + 1) rfl ?_ ?_ ?_ ?_ ?_
              · first | exact hO5 | exact hO5.alloc _
              · first | exact hr84.wide (Nat.zero_le _) (by omega) | exact (hd_row_at _ _ (by first | rfl | (simp; done)) ⟨x, now⟩ _).wide (Nat.zero_le _) (by omega)
              · intro j hj; exact hd_one _ _
              · unfold maxLen; omega
              · omega
              · first | exact hze4 | omega | (simp; done) | (simp; omega)
              intro A6 c6 w6 hO6 hG6 hL6
              have hS6 := snoc_hd hO6
              have hb6 : Below we.heap.size _ w6 := Below.grown (Below.refl _ _) hG6 (by first | exact hze4 | omega | (simp; done) | (simp; omega)) (fun j hj => (hO5.1.lt j hj).1)
              have hbe6 : Below we.heap.size we w6 := (by first | exact hbe4.trans hb6 | exact (hbe4.alloc hze4 _).trans hb6)
              go_wp2_with (fail)
              refine then_any rfl ?_ ?_; focus (first | (intro h; have h2 : false = true := h; cases h2) | (intro _; show Below _ _ _; first | assumption | (repeat (first | assumption | (with_reducible exact Below.refl _ _) | (exact below_undrew _ _) | (with_reducible refine Below.drew ?_) | (with_reducible refine Below.alloc ?_ (by first | exact Nat.le_refl _ | (simp; done) | (simp; omega) | omega) _) | (with_reducible refine Below.setCell ?_ (by first | exact Nat.le_refl _ | (simp; done) | (simp; omega) | omega) _)))))
              refine any_pure 11 (by decide +kernel) rfl rfl ?_; apply Exists.intro; refine ⟨fun w' => ?_, ?_⟩; (focus (first | (exact exec_upto (.tmp 77) (.tmp 78) rfl rfl rfl Try.underlying26 q1 q3 (by omega)) | (go_simp; try exact rfl))); have e0 : True := trivial; clear e0; refine any_putK ?_; intro K hK; go_simp; refine hK _ ?_; clear hK K
              refine any_end (by decide +kernel) ?_
              have HS6 := Lib.hid hS6
              have hz6 := hbe6.size
              clear hO4 hG4 hL4 hO5 hb4 hbe4 hze4 hzg4 hO6 hG6 hL6 hS6 hb6
              (try clear hr84)
              obtain ⟨hc6, hf6⟩ := below_cells hbe6
              have hg6_0 := fun o => hc6 (w.heap.size) o (by first | (simp; done) | (simp; omega) | omega)
              try simp [go_sem] at hg6_0
              have hg6_1 := fun o => hc6 (w.heap.size + 1) o (by first | (simp; done) | (simp; omega) | omega)
              try simp [go_sem] at hg6_1
              have hg6_2 := fun o => hc6 (w.heap.size + 1 + 1) o (by first | (simp; done) | (simp; omega) | omega)
              try simp [go_sem] at hg6_2
              have hg6_3 := fun o => hc6 (w3.heap.size) o (by first | (simp; done) | (simp; omega) | omega)
              try simp [go_sem] at hg6_3
              have hk6_2 := fun o => hf6 (w.heap.size + 1 + 1) o (by first | (simp; done) | (simp; omega) | omega)
              try simp [go_sem] at hk6_2
              have h6_0 : w.heap.size < w6.heap.size := by omega
              have h6_1 : w.heap.size + 1 < w6.heap.size := by omega
              have h6_2 : w.heap.size + 1 + 1 < w6.heap.size := by omega
              have h6_3 : w3.heap.size < w6.heap.size := by omega
              have HR6 := Lib.hid (HRe.out.below (B := we.heap.size) (by omega) hbe6)
              have HW6 := Lib.hid (HWe.out.trans (Below.mono hbe6 (by omega)))
              go_wp2_with (first | (refine wpList_from _ rfl (.tmp 88) (.tmp 89) _ _ i0 7 k n c _ rfl rfl rfl Try.underlying26 q1 q3 hk hnc ?_) | (at_builtin; refine wpList_rowAppendN _ rfl (.tmp 86) (.tmp 90) _ rfl 54 i0 _ 7 48 Try.underlying26 q1 q2 q3 q4 rfl (by decide) we.heap.size _ A6 (k + 1) c6 _ rfl HS6.out lo hi _ (n - k) (c - k) _ rfl (HR6.out.from hk hnc) (n + 1) (by omega) ?_ (by unfold maxLen; omega) (by omega) hz6 ?_; (focus (intro j hj; exact hd_one _ _)); intro A7 c7 w7 hO7 hG7 hL7; have hI7 := ins_row hk hO7; have hb7 : Below we.heap.size w6 w7 := Below.grown (Below.refl _ _) hG7 hz6 (fun j hj => (HS6.out.1.lt j hj).1); obtain ⟨hc7, hf7⟩ := below_cells hb7; have hz7 := hb7.size; have hg7_0 := fun o => hc7 (w.heap.size) o (by omega); have hg7_1 := fun o => hc7 (w.heap.size + 1) o (by omega); have hg7_2 := fun o => hc7 (w.heap.size + 1 + 1) o (by omega); have hg7_3 := fun o => hc7 (w3.heap.size) o (by omega); (try simp [go_sem] at hg7_0); (try simp [go_sem] at hg7_1); (try simp [go_sem] at hg7_2); (try simp [go_sem] at hg7_3); have hk7_2 := fun o => hf7 (w.heap.size + 1 + 1) o (by omega); (try simp [go_sem] at hk7_2); have hk7_3 := fun o => hf7 (w3.heap.size) o (by omega); (try simp [go_sem] at hk7_3)))
              refine bodyPost_ret (v := .tuple #[.agg #[.int .i64 y, .int .i64 d, .slice A7 (n + 1) c7], .int .i64 0]) ?_ rfl ?_
              · simp only [results, Try.results24]
                go_simp
              have hW7 := HW6.out.trans (Below.mono hb7 (by omega))
              refine PutRet.fine HK.out ?_ ?_
              · rw [HPA.out]
                refine RowOwn.wide (lo := we.heap.size) (hi := w7.heap.size) ?_ (by omega) (by first | omega | (simp; omega) | (simp; done))
                repeat (first | (with_reducible exact hI7) | (with_reducible refine RowOwn.drew ?_) | (refine RowOwn.setC (Or.inl ?_) ?_ _; focus (first | (simp; done) | (simp; omega) | omega)))
              · repeat (first | (with_reducible exact hW7) | (with_reducible refine Below.drew ?_) | (refine Bset ?_ ?_ _; focus (first | (simp; done) | (simp; omega) | omega)))
      · refine any_one rfl rfl rfl ?_
        go_wp2_with (fail)
        refine then_any rfl ?_ ?_; focus (first | (intro h; have h2 : false = true := h; cases h2) | (intro _; show Below _ _ _; first | assumption | (repeat (first | assumption | (with_reducible exact Below.refl _ _) | (exact below_undrew _ _) | (with_reducible refine Below.drew ?_) | (with_reducible refine Below.alloc ?_ (by first | exact Nat.le_refl _ | (simp; done) | (simp; omega) | omega) _) | (with_reducible refine Below.setCell ?_ (by first | exact Nat.le_refl _ | (simp; done) | (simp; omega) | omega) _)))))
        refine any_branch (by decide +kernel) ?_
        simp only [List.size_toArray, List.length_cons, List.length_nil, Nat.zero_add, Nat.reduceAdd]
        repeat' (first | exact lt_zero | refine lt_succ ?_ ?_ | exact any_none (by decide +kernel) | fail)
        · refine any_one rfl rfl rfl ?_
          go_wp2_with (fail)
          refine then_any rfl ?_ ?_; focus (first | (intro h; have h2 : false = true := h; cases h2) | (intro _; show Below _ _ _; first | assumption | (repeat (first | assumption | (with_reducible exact Below.refl _ _) | (exact below_undrew _ _) | (with_reducible refine Below.drew ?_) | (with_reducible refine Below.alloc ?_ (by first | exact Nat.le_refl _ | (simp; done) | (simp; omega) | omega) _) | (with_reducible refine Below.setCell ?_ (by first | exact Nat.le_refl _ | (simp; done) | (simp; omega) | omega) _)))))
          refine any_branch (by decide +kernel) ?_
          simp only [List.size_toArray, List.length_cons, List.length_nil, Nat.zero_add, Nat.reduceAdd]
          repeat' (first | exact lt_zero | refine lt_succ ?_ ?_ | exact any_none (by decide +kernel) | fail)
          · refine any_one rfl rfl rfl ?_
            refine wpList_rowAppendN _ rfl (.tmp 75) (.tmp 79) _ rfl 54 i0 _ 7 48 Try.underlying26 q1 q2 q3 q4 rfl (by decide) we.heap.size (we.heap.size + 2) _ 0 0 (HdF q) rfl ?_ lo hi _ k c (HdF q) rfl ?_ k (Nat.zero_add _) ?_ ?_ ?_ ?_ ?_
            · first | exact (empty_at _ _ _ 7 _ (by simp)).wide (by omega) (by omega) | exact ((empty_at _ _ _ 7 _ (by simp)).alloc _).wide (by omega) (by omega) | exact RowOwn.drew ((empty_at _ _ _ 7 _ (by simp)).wide (by omega) (by omega)) | exact RowOwn.drew (((empty_at _ _ _ 7 _ (by simp)).alloc _).wide (by omega) (by omega))
            · exact (HRe.out.below (B := we.heap.size) (by omega) (by repeat (first | assumption | (with_reducible exact Below.refl _ _) | (exact below_undrew _ _) | (with_reducible refine Below.drew ?_) | (with_reducible refine Below.alloc ?_ (by first | exact Nat.le_refl _ | (simp; done) | (simp; omega) | omega) _) | (with_reducible refine Below.setCell ?_ (by first | exact Nat.le_refl _ | (simp; done) | (simp; omega) | omega) _)))).upto hk
            · intro j hj; exact hd_one _ _
            · unfold maxLen; omega
            · omega
            · first | omega | (simp; done) | (simp; omega)
            intro A4 c4 w4 hO4 hG4 hL4
            have hO5 := zero_hd hO4
            have hb4 : Below we.heap.size _ w4 := Below.grown (Below.refl _ _) hG4 (by first | omega | (simp; done) | (simp; omega)) (by intro j hj; simp [Value.ownBlock] at hj; omega)
            have hbe4 : Below we.heap.size we w4 := Below.trans (by repeat (first | assumption | (with_reducible exact Below.refl _ _) | (exact below_undrew _ _) | (with_reducible refine Below.drew ?_) | (with_reducible refine Below.alloc ?_ (by first | exact Nat.le_refl _ | (simp; done) | (simp; omega) | omega) _) | (with_reducible refine Below.setCell ?_ (by first | exact Nat.le_refl _ | (simp; done) | (simp; omega) | omega) _))) hb4
            have hze4 := hbe4.size
            have hzg4 := hG4.size
            (try simp at hzg4)
            first | (have hr84 := RowAt.only (r := some we.heap.size) (by simp) (by intro g e; cases e; left; omega) (hd_row_at _ (we.heap.size + 1) (by simp) ⟨x, now⟩ _) hG4) | (have hr84 := RowAt.only (r := some we.heap.size) (by simp) (by intro g e; cases e; left; omega) (RowAt.drew (hd_row_at _ (we.heap.size + 1) (by simp) ⟨x, now⟩ 54)) hG4) | (have hr84 := RowAt.only (r := some (we.heap.size + 1)) (by simp) (by intro g e; cases e; right; omega) ((hd_row_at _ we.heap.size (by simp) ⟨x, now⟩ _).alloc (by simp) _) hG4) | (have hr84 := RowAt.only (r := some (we.heap.size + 1)) (by simp) (by intro g e; cases e; right; omega) (RowAt.drew ((hd_row_at _ we.heap.size (by simp) ⟨x, now⟩ 54).alloc (by simp) _)) hG4) | skip
            go_wp2_with (fail)
            refine then_any rfl ?_ ?_; focus (first | (intro h; have h2 : false = true := h; cases h2) | (intro _; show Below _ _ _; first | assumption | (repeat (first | assumption | (with_reducible exact Below.refl _ _) | (exact below_undrew _ _) | (with_reducible refine Below.drew ?_) | (with_reducible refine Below.alloc ?_ (by first | exact Nat.le_refl _ | (simp; done) | (simp; omega) | omega) _) | (with_reducible refine Below.setCell ?_ (by first | exact Nat.le_refl _ | (simp; done) | (simp; omega) | omega) _)))))
            refine any_branch (by decide +kernel) ?_
            simp only [List.size_toArray, List.length_cons, List.length_nil, Nat.zero_add, Nat.reduceAdd]
            repeat' (first | exact lt_zero | refine lt_succ ?_ ?_ | exact any_none (by decide +kernel) | fail)
            · refine any_one rfl rfl rfl ?_
              refine wpList_rowAppendN _ rfl (.tmp 80) (.tmp 84) _ rfl 54 i0 _ 7 48 Try.underlying26 q1 q2 q3 q4 rfl (by decide) we.heap.size w4.heap.size A4 k c4 (HdF q) rfl ?_ 0 (w4.heap.size + 1) _ 1 1 (HdF fun _ => ⟨x, now⟩) rfl ?_ (k + 1) rfl ?_ ?_ ?_ ?_ ?_
              · first | exact hO5 | exact hO5.alloc _
              · first | exact hr84.wide (Nat.zero_le _) (by omega) | exact (hd_row_at _ _ (by first | rfl | (simp; done)) ⟨x, now⟩ _).wide (Nat.zero_le _) (by omega)
              · intro j hj; exact hd_one _ _
              · unfold maxLen; omega
              · omega
              · first | exact hze4 | omega | (simp; done) | (simp; omega)
              intro A6 c6 w6 hO6 hG6 hL6
              have hS6 := snoc_hd hO6
              have hb6 : Below we.heap.size _ w6 := Below.grown (Below.refl _ _) hG6 (by first | exact hze4 | omega | (simp; done) | (simp; omega)) (fun j hj => (hO5.1.lt j hj).1)
              have hbe6 : Below we.heap.size we w6 := (by first | exact hbe4.trans hb6 | exact (hbe4.alloc hze4 _).trans hb6)
              go_wp2_with (fail)
              refine then_any rfl ?_ ?_; focus (first | (intro h; have h2 : false = true := h; cases h2) | (intro _; show Below _ _ _; first | assumption | (repeat (first | assumption | (with_reducible exact Below.refl _ _) | (exact below_undrew _ _) | (with_reducible refine Below.drew ?_) | (with_reducible refine Below.alloc ?_ (by first | exact Nat.le_refl _ | (simp; done) | (simp; omega) | omega) _) | (with_reducible refine Below.setCell ?_ (by first | exact Nat.le_refl _ | (simp; done) | (simp; omega) | omega) _)))))
              refine any_pure 11 (by decide +kernel) rfl rfl ?_; apply Exists.intro; refine ⟨fun w' => ?_, ?_⟩; (focus (first | (exact exec_upto (.tmp 77) (.tmp 78) rfl rfl rfl Try.underlying26 q1 q3 (by omega)) | (go_simp; try exact rfl))); have e0 : True := trivial; clear e0; refine any_putK ?_; intro K hK; go_simp; refine hK _ ?_; clear hK K
              refine any_end (by decide +kernel) ?_
              have HS6 := Lib.hid hS6
              have hz6 := hbe6.size
              clear hO4 hG4 hL4 hO5 hb4 hbe4 hze4 hzg4 hO6 hG6 hL6 hS6 hb6
              (try clear hr84)
              obtain ⟨hc6, hf6⟩ := below_cells hbe6
              have hg6_0 := fun o => hc6 (w.heap.size) o (by first | (simp; done) | (simp; omega) | omega)
              try simp [go_sem] at hg6_0
              have hg6_1 := fun o => hc6 (w.heap.size + 1) o (by first | (simp; done) | (simp; omega) | omega)
              try simp [go_sem] at hg6_1
              have hg6_2 := fun o => hc6 (w.heap.size + 1 + 1) o (by first | (simp; done) | (simp; omega) | omega)
              try simp [go_sem] at hg6_2
              have hg6_3 := fun o => hc6 (w3.heap.size) o (by first | (simp; done) | (simp; omega) | omega)
              try simp [go_sem] at hg6_3
              have hk6_2 := fun o => hf6 (w.heap.size + 1 + 1) o (by first | (simp; done) | (simp; omega) | omega)
              try simp [go_sem] at hk6_2
              have h6_0 : w.heap.size < w6.heap.size := by omega
              have h6_1 : w.heap.size + 1 < w6.heap.size := by omega
              have h6_2 : w.heap.size + 1 + 1 < w6.heap.size := by omega
              have h6_3 : w3.heap.size < w6.heap.size := by omega
              have HR6 := Lib.hid (HRe.out.below (B := we.heap.size) (by omega) hbe6)
              have HW6 := Lib.hid (HWe.out.trans (Below.mono hbe6 (by omega)))
              go_wp2_with (first | (refine wpList_from _ rfl (.tmp 88) (.tmp 89) _ _ i0 7 k n c _ rfl rfl rfl Try.underlying26 q1 q3 hk hnc ?_) | (at_builtin; refine wpList_rowAppendN _ rfl (.tmp 86) (.tmp 90) _ rfl 54 i0 _ 7 48 Try.underlying26 q1 q2 q3 q4 rfl (by decide) we.heap.size _ A6 (k + 1) c6 _ rfl HS6.out lo hi _ (n - k) (c - k) _ rfl (HR6.out.from hk hnc) (n + 1) (by omega) ?_ (by unfold maxLen; omega) (by omega) hz6 ?_; (focus (intro j hj; exact hd_one _ _)); intro A7 c7 w7 hO7 hG7 hL7; have hI7 := ins_row hk hO7; have hb7 : Below we.heap.size w6 w7 := Below.grown (Below.refl _ _) hG7 hz6 (fun j hj => (HS6.out.1.lt j hj).1); obtain ⟨hc7, hf7⟩ := below_cells hb7; have hz7 := hb7.size; have hg7_0 := fun o => hc7 (w.heap.size) o (by omega); have hg7_1 := fun o => hc7 (w.heap.size + 1) o (by omega); have hg7_2 := fun o => hc7 (w.heap.size + 1 + 1) o (by omega); have hg7_3 := fun o => hc7 (w3.heap.size) o (by omega); (try simp [go_sem] at hg7_0); (try simp [go_sem] at hg7_1); (try simp [go_sem] at hg7_2); (try simp [go_sem] at hg7_3); have hk7_2 := fun o => hf7 (w.heap.size + 1 + 1) o (by omega); (try simp [go_sem] at hk7_2); have hk7_3 := fun o => hf7 (w3.heap.size) o (by omega); (try simp [go_sem] at hk7_3)))
              refine bodyPost_ret (v := .tuple #[.agg #[.int .i64 y, .int .i64 d, .slice A7 (n + 1) c7], .int .i64 0]) ?_ rfl ?_
              · simp only [results, Try.results24]
                go_simp
              have hW7 := HW6.out.trans (Below.mono hb7 (by omega))
              refine PutRet.fine HK.out ?_ ?_
              · rw [HPA.out]
                refine RowOwn.wide (lo := we.heap.size) (hi := w7.heap.size) ?_ (by omega) (by first | omega | (simp; omega) | (simp; done))
                repeat (first | (with_reducible exact hI7) | (with_reducible refine RowOwn.drew ?_) | (refine RowOwn.setC (Or.inl ?_) ?_ _; focus (first | (simp; done) | (simp; omega) | omega)))
              · repeat (first | (with_reducible exact hW7) | (with_reducible refine Below.drew ?_) | (refine Bset ?_ ?_ _; focus (first | (simp; done) | (simp; omega) | omega)))
        · refine any_one rfl rfl rfl ?_
          refine wpList_rowAppendN _ rfl (.tmp 75) (.tmp 79) _ rfl 54 i0 _ 7 48 Try.underlying26 q1 q2 q3 q4 rfl (by decide) we.heap.size (we.heap.size + 2) _ 0 0 (HdF q) rfl ?_ lo hi _ k c (HdF q) rfl ?_ k (Nat.zero_add _) ?_ ?_ ?_ ?_ ?_
          · first | exact (empty_at _ _ _ 7 _ (by simp)).wide (by omega) (by omega) | exact ((empty_at _ _ _ 7 _ (by simp)).alloc _).wide (by omega) (by omega) | exact RowOwn.drew ((empty_at _ _ _ 7 _ (by simp)).wide (by omega) (by omega)) | exact RowOwn.drew (((empty_at _ _ _ 7 _ (by simp)).alloc _).wide (by omega) (by omega))
          · exact (HRe.out.below (B := we.heap.size) (by omega) (by repeat (first | assumption | (with_reducible exact Below.refl _ _) | (exact below_undrew _ _) | (with_reducible refine Below.drew ?_) | (with_reducible refine Below.alloc ?_ (by first | exact Nat.le_refl _ | (simp; done) | (simp; omega) | omega) _) | (with_reducible refine Below.setCell ?_ (by first | exact Nat.le_refl _ | (simp; done) | (simp; omega) | omega) _)))).upto hk
          · intro j hj; exact hd_one _ _
          · unfold maxLen; omega
          · omega
          · first | omega | (simp; done) | (simp; omega)
          intro A4 c4 w4 hO4 hG4 hL4
          have hO5 := zero_hd hO4
          have hb4 : Below we.heap.size _ w4 := Below.grown (Below.refl _ _) hG4 (by first | omega | (simp; done) | (simp; omega)) (by intro j hj; simp [Value.ownBlock] at hj; omega)
          have hbe4 : Below we.heap.size we w4 := Below.trans (by repeat (first | assumption | (with_reducible exact Below.refl _ _) | (exact below_undrew _ _) | (with_reducible refine Below.drew ?_) | (with_reducible refine Below.alloc ?_ (by first | exact Nat.le_refl _ | (simp; done) | (simp; omega) | omega) _) | (with_reducible refine Below.setCell ?_ (by first | exact Nat.le_refl _ | (simp; done) | (simp; omega) | omega) _))) hb4
          have hze4 := hbe4.size
          have hzg4 := hG4.size
          (try simp at hzg4)
          first | (have hr84 := RowAt.only (r := some we.heap.size) (by simp) (by intro g e; cases e; left; omega) (hd_row_at _ (we.heap.size + 1) (by simp) ⟨x, now⟩ _) hG4) | (have hr84 := RowAt.only (r := some we.heap.size) (by simp) (by intro g e; cases e; left; omega) (RowAt.drew (hd_row_at _ (we.heap.size + 1) (by simp) ⟨x, now⟩ 54)) hG4) | (have hr84 := RowAt.only (r := some (we.heap.size + 1)) (by simp) (by intro g e; cases e; right; omega) ((hd_row_at _ we.heap.size (by simp) ⟨x, now⟩ _).alloc (by simp) _) hG4) | (have hr84 := RowAt.only (r := some (we.heap.size + 1)) (by simp) (by intro g e; cases e; right; omega) (RowAt.drew ((hd_row_at _ we.heap.size (by simp) ⟨x, now⟩ 54).alloc (by simp) _)) hG4) | skip
          go_wp2_with (fail)
          refine then_any rfl ?_ ?_; focus (first | (intro h; have h2 : false = true := h; cases h2) | (intro _; show Below _ _ _; first | assumption | (repeat (first | assumption | (with_reducible exact Below.refl _ _) | (exact below_undrew _ _) | (with_reducible refine Below.drew ?_) | (with_reducible refine Below.alloc ?_ (by first | exact Nat.le_refl _ | (simp; done) | (simp; omega) | omega) _) | (with_reducible refine Below.setCell ?_ (by first | exact Nat.le_refl _ | (simp; done) | (simp; omega) | omega) _)))))
          refine any_branch (by decide +kernel) ?_
          simp only [List.size_toArray, List.length_cons, List.length_nil, Nat.zero_add, Nat.reduceAdd]
          repeat' (first | exact lt_zero | refine lt_succ ?_ ?_ | exact any_none (by decide +kernel) | fail)
          · refine any_one rfl rfl rfl ?_
            go_wp2_with (fail)
            refine then_any rfl ?_ ?_; focus (first | (intro h; have h2 : false = true := h; cases h2) | (intro _; show Below _ _ _; first | assumption | (repeat (first | assumption | (with_reducible exact Below.refl _ _) | (exact below_undrew _ _) | (with_reducible refine Below.drew ?_) | (with_reducible refine Below.alloc ?_ (by first | exact Nat.le_refl _ | (simp; done) | (simp; omega) | omega) _) | (with_reducible refine Below.setCell ?_ (by first | exact Nat.le_refl _ | (simp; done) | (simp; omega) | omega) _)))))
            refine any_branch (by decide +kernel) ?_
            simp only [List.size_toArray, List.length_cons, List.length_nil, Nat.zero_add, Nat.reduceAdd]
            repeat' (first | exact lt_zero | refine lt_succ ?_ ?_ | exact any_none (by decide +kernel) | fail)
            · refine any_one rfl rfl rfl ?_
              refine wpList_rowAppendN _ rfl (.tmp 80) (.tmp 84) _ rfl 54 i0 _ 7 48 Try.underlying26 q1 q2 q3 q4 rfl (by decide) we.heap.size w4.heap.size A4 k c4 (HdF q) rfl ?_ 0 (w4.heap.size + 1) _ 1 1 (HdF fun _ => ⟨x, now⟩) rfl ?_ (k + 1) rfl ?_ ?_ ?_ ?_ ?_
              · first | exact hO5 | exact hO5.alloc _
              · first | exact hr84.wide (Nat.zero_le _) (by omega) | exact (hd_row_at _ _ (by first | rfl | (simp; done)) ⟨x, now⟩ _).wide (Nat.zero_le _) (by omega)
              · intro j hj; exact hd_one _ _
              · unfold maxLen; omega
              · omega
              · first | exact hze4 | omega | (simp; done) | (simp; omega)
              intro A6 c6 w6 hO6 hG6 hL6
              have hS6 := snoc_hd hO6
              have hb6 : Below we.heap.size _ w6 := Below.grown (Below.refl _ _) hG6 (by first | exact hze4 | omega | (simp; done) | (simp; omega)) (fun j hj => (hO5.1.lt j hj).1)
              have hbe6 : Below we.heap.size we w6 := (by first | exact hbe4.trans hb6 | exact (hbe4.alloc hze4 _).trans hb6)
              go_wp2_with (fail)
              refine then_any rfl ?_ ?_; focus (first | (intro h; have h2 : false = true := h; cases h2) | (intro _; show Below _ _ _; first | assumption | (repeat (first | assumption | (with_reducible exact Below.refl _ _) | (exact below_undrew _ _) | (with_reducible refine Below.drew ?_) | (with_reducible refine Below.alloc ?_ (by first | exact Nat.le_refl _ | (simp; done) | (simp; omega) | omega) _) | (with_reducible refine Below.setCell ?_ (by first | exact Nat.le_refl _ | (simp; done) | (simp; omega) | omega) _)))))
              refine any_pure 11 (by decide +kernel) rfl rfl ?_; apply Exists.intro; refine ⟨fun w' => ?_, ?_⟩; (focus (first | (exact exec_upto (.tmp 77) (.tmp 78) rfl rfl rfl Try.underlying26 q1 q3 (by omega)) | (go_simp; try exact rfl))); have e0 : True := trivial; clear e0; refine any_putK ?_; intro K hK; go_simp; refine hK _ ?_; clear hK K
              refine any_end (by decide +kernel) ?_
              have HS6 := Lib.hid hS6
              have hz6 := hbe6.size
              clear hO4 hG4 hL4 hO5 hb4 hbe4 hze4 hzg4 hO6 hG6 hL6 hS6 hb6
              (try clear hr84)
              obtain ⟨hc6, hf6⟩ := below_cells hbe6
              have hg6_0 := fun o => hc6 (w.heap.size) o (by first | (simp; done) | (simp; omega) | omega)
              try simp [go_sem] at hg6_0
              have hg6_1 := fun o => hc6 (w.heap.size + 1) o (by first | (simp; done) | (simp; omega) | omega)
              try simp [go_sem] at hg6_1
              have hg6_2 := fun o => hc6 (w.heap.size + 1 + 1) o (by first | (simp; done) | (simp; omega) | omega)
              try simp [go_sem] at hg6_2
              have hg6_3 := fun o => hc6 (w3.heap.size) o (by first | (simp; done) | (simp; omega) | omega)
              try simp [go_sem] at hg6_3
              have hk6_2 := fun o => hf6 (w.heap.size + 1 + 1) o (by first | (simp; done) | (simp; omega) | omega)
              try simp [go_sem] at hk6_2
              have h6_0 : w.heap.size < w6.heap.size := by omega
              have h6_1 : w.heap.size + 1 < w6.heap.size := by omega
              have h6_2 : w.heap.size + 1 + 1 < w6.heap.size := by omega
              have h6_3 : w3.heap.size < w6.heap.size := by omega
              have HR6 := Lib.hid (HRe.out.below (B := we.heap.size) (by omega) hbe6)
              have HW6 := Lib.hid (HWe.out.trans (Below.mono hbe6 (by omega)))
              go_wp2_with (first | (refine wpList_from _ rfl (.tmp 88) (.tmp 89) _ _ i0 7 k n c _ rfl rfl rfl Try.underlying26 q1 q3 hk hnc ?_) | (at_builtin; refine wpList_rowAppendN _ rfl (.tmp 86) (.tmp 90) _ rfl 54 i0 _ 7 48 Try.underlying26 q1 q2 q3 q4 rfl (by decide) we.heap.size _ A6 (k + 1) c6 _ rfl HS6.out lo hi _ (n - k) (c - k) _ rfl (HR6.out.from hk hnc) (n + 1) (by omega) ?_ (by unfold maxLen; omega) (by omega) hz6 ?_; (focus (intro j hj; exact hd_one _ _)); intro A7 c7 w7 hO7 hG7 hL7; have hI7 := ins_row hk hO7; have hb7 : Below we.heap.size w6 w7 := Below.grown (Below.refl _ _) hG7 hz6 (fun j hj => (HS6.out.1.lt j hj).1); obtain ⟨hc7, hf7⟩ := below_cells hb7; have hz7 := hb7.size; have hg7_0 := fun o => hc7 (w.heap.size) o (by omega); have hg7_1 := fun o => hc7 (w.heap.size + 1) o (by omega); have hg7_2 := fun o => hc7 (w.heap.size + 1 + 1) o (by omega); have hg7_3 := fun o => hc7 (w3.heap.size) o (by omega); (try simp [go_sem] at hg7_0); (try simp [go_sem] at hg7_1); (try simp [go_sem] at hg7_2); (try simp [go_sem] at hg7_3); have hk7_2 := fun o => hf7 (w.heap.size + 1 + 1) o (by omega); (try simp [go_sem] at hk7_2); have hk7_3 := fun o => hf7 (w3.heap.size) o (by omega); (try simp [go_sem] at hk7_3)))
              refine bodyPost_ret (v := .tuple #[.agg #[.int .i64 y, .int .i64 d, .slice A7 (n + 1) c7], .int .i64 0]) ?_ rfl ?_
              · simp only [results, Try.results24]
                go_simp
              have hW7 := HW6.out.trans (Below.mono hb7 (by omega))
              refine PutRet.fine HK.out ?_ ?_
              · rw [HPA.out]
                refine RowOwn.wide (lo := we.heap.size) (hi := w7.heap.size) ?_ (by omega) (by first | omega | (simp; omega) | (simp; done))
                repeat (first | (with_reducible exact hI7) | (with_reducible refine RowOwn.drew ?_) | (refine RowOwn.setC (Or.inl ?_) ?_ _; focus (first | (simp; done) | (simp; omega) | omega)))
              · repeat (first | (with_reducible exact hW7) | (with_reducible refine Below.drew ?_) | (refine Bset ?_ ?_ _; focus (first | (simp; done) | (simp; omega) | omega)))
    obtain ⟨b, off, rfl, _, hb2, c0, _⟩ := Hd_at HRr.out hkn
    have hbw : b < wr.heap.size := by omega
    by_cases hlt : (q k).p.w < x.w
    · have HL2 := Lib.hid (show ∀ i, i < k + 1 → (q i).p.w < x.w from fun i hi => by
        by_cases e : i = k
        · subst e; exact hlt
        · exact hL.out i (by omega))
      have hltb : decide ((q k).p.w < x.w) = true := decide_eq_true hlt
      go_wp2_with fail
      refine wp_region_mixB (by kernel_rfl) (by kernel_rfl) ?_
      repeat (first
        | (refine mix_skip rfl ?_; have e0 : True := trivial; clear e0; refine mix_putK ?_; intro K hK; go_simp; refine hK _ ?_; clear hK K)
        | (refine mix_readE rfl rfl rfl ?_; apply Exists.intro; refine ⟨fun w' hb' => ?_, ?_⟩; (focus (obtain ⟨hc', hf'⟩ := Old.cells hb'; clear hb'; go_simp; try exact rfl)); have e0 : True := trivial; clear e0; refine mix_putK ?_; intro K hK; go_simp; refine hK _ ?_; clear hK K)
        | (refine mix_pureE rfl rfl ?_; apply Exists.intro; refine ⟨fun w' => ?_, ?_⟩; (focus (go_simp; try exact rfl)); have e0 : True := trivial; clear e0; refine mix_putK ?_; intro K hK; go_simp; refine hK _ ?_; clear hK K)
        | (refine mix_eff rfl rfl ?_; go_wp2_with (fail); refine then_mix rfl ?_ ?_; (first | (intro h; have h2 : false = true := h; cases h2) | (intro _; assumption) | (intro _; refine Old.mk ?_; repeat (first | (with_reducible exact Below.refl _ _) | (with_reducible refine Bal ?_ _) | (with_reducible refine Below.drew ?_) | (with_reducible refine below_drewN ?_ _) | (with_reducible refine Bset ?_ ?_ _; focus (first | (with_reducible exact Nat.le_refl _) | (simp; done) | (simp; omega) | omega)) | (with_reducible refine Bt ?_ (by assumption)) | (with_reducible refine Bp (g := g) ?_ (by assumption) (by assumption)))))))
      refine mix_nil ?_
      go_wp2_with fail
      go_roundw
      case rel =>
        refine ⟨k + 1, by omega, by go_num, HL2, Lib.hid (hB.out.trans (Below.mono (B := wr.heap.size) ?_ hBs))⟩
        repeat (first | (with_reducible exact Below.refl _ _) | (with_reducible refine Bal ?_ _) | (with_reducible refine Below.drew ?_) | (with_reducible refine below_drewN ?_ _) | (with_reducible refine Bset ?_ ?_ _; focus (first | (with_reducible exact Nat.le_refl _) | (simp; done) | (simp; omega) | omega)) | (with_reducible refine Bt ?_ (by assumption)) | (with_reducible refine Bp (g := g) ?_ (by assumption) (by assumption)))
      case measure => simp [intOf]; omega
    · have hltb : decide ((q k).p.w < x.w) = false := decide_eq_false hlt
      go_wp2_with fail
      refine wp_region_mixB (by kernel_rfl) (by kernel_rfl) ?_
      repeat (first
        | (refine mix_skip rfl ?_; have e0 : True := trivial; clear e0; refine mix_putK ?_; intro K hK; go_simp; refine hK _ ?_; clear hK K)
        | (refine mix_readE rfl rfl rfl ?_; apply Exists.intro; refine ⟨fun w' hb' => ?_, ?_⟩; (focus (obtain ⟨hc', hf'⟩ := Old.cells hb'; clear hb'; go_simp; try exact rfl)); have e0 : True := trivial; clear e0; refine mix_putK ?_; intro K hK; go_simp; refine hK _ ?_; clear hK K)
        | (refine mix_pureE rfl rfl ?_; apply Exists.intro; refine ⟨fun w' => ?_, ?_⟩; (focus (go_simp; try exact rfl)); have e0 : True := trivial; clear e0; refine mix_putK ?_; intro K hK; go_simp; refine hK _ ?_; clear hK K)
        | (refine mix_eff rfl rfl ?_; go_wp2_with (fail); refine then_mix rfl ?_ ?_; (first | (intro h; have h2 : false = true := h; cases h2) | (intro _; assumption) | (intro _; refine Old.mk ?_; repeat (first | (with_reducible exact Below.refl _ _) | (with_reducible refine Bal ?_ _) | (with_reducible refine Below.drew ?_) | (with_reducible refine below_drewN ?_ _) | (with_reducible refine Bset ?_ ?_ _; focus (first | (with_reducible exact Nat.le_refl _) | (simp; done) | (simp; omega) | omega)) | (with_reducible refine Bt ?_ (by assumption)) | (with_reducible refine Bp (g := g) ?_ (by assumption) (by assumption)))))))
      refine mix_nil ?_
      go_upto_region 9 with fail
      generalize hwwd : wr.drew = wd
      have hbwd : Below wr.heap.size wr wd := by rw [← hwwd]; exact Below.drew (Below.refl _ _)
      clear hwwd
      have hzwd := hbwd.size
      have hgwd_0 : ∀ o : Nat, wd.cell? ⟨w.heap.size, o, none⟩ = ([.int .i64 y, .int .i64 d, .slice (some ⟨b, off, none⟩) n c] : List Value)[o]? := fun o => ((below_cells hbwd).1 _ o (by omega)).trans (by go_simp; try rfl)
      have hgwd_1 : ∀ o : Nat, wd.cell? ⟨w.heap.size + 1, o, none⟩ = ([.int .i64 x.w, .int .i64 x.t, .int .i64 x.l, .int .i64 x.s, .bool x.k, .bool x.z] : List Value)[o]? := fun o => ((below_cells hbwd).1 _ o (by omega)).trans (by go_simp; try rfl)
      have hgwd_2 : ∀ o : Nat, wd.cell? ⟨w.heap.size + 1 + 1, o, none⟩ = ([.int .i64 0, .int .i64 0, .slice none 0 0] : List Value)[o]? := fun o => ((below_cells hbwd).1 _ o (by omega)).trans (by go_simp; try rfl)
      have hgwd_3 : ∀ o : Nat, wd.cell? ⟨w3.heap.size, o, none⟩ = ([.int .i64 y, .int .i64 d, .slice A3 n c3] : List Value)[o]? := fun o => ((below_cells hbwd).1 _ o (by omega)).trans (by go_simp; try rfl)
      have hkwd_2 : ∀ o : Nat, wd.frozen? ⟨w.heap.size + 1 + 1, o, none⟩ = false := fun o => ((below_cells hbwd).2 _ o (by omega)).trans (by go_simp; try rfl)
      have hkwd_3 : ∀ o : Nat, wd.frozen? ⟨w3.heap.size, o, none⟩ = false := fun o => ((below_cells hbwd).2 _ o (by omega)).trans (by go_simp; try rfl)
      have hqwd_0 : w.heap.size < wd.heap.size := by omega
      have hqwd_1 : w.heap.size + 1 < wd.heap.size := by omega
      have hqwd_2 : w.heap.size + 1 + 1 < wd.heap.size := by omega
      have hqwd_3 : w3.heap.size < wd.heap.size := by omega
      have HWd := Lib.hid (HWr.out.trans (Below.mono hbwd (by omega)))
      have HRd := Lib.hid (HRr.out.below (B := wr.heap.size) (by omega) hbwd)
      have HOd := Lib.hid (HOr.out.below (B := wr.heap.size) (by omega) hbwd)
      clear hgr_0 hgr_1 hgr_2 hgr_3 hkr_2 hcr hfr
      (try clear hg1_0 hg1_1 hg1_2 hg2_0 hg2_1 hg2_2 hg3_0 hg3_1 hg3_2 hk1_2 hc1 hf1 hk2_2 hc2 hf2 hk3_2 hc3 hf3)
      have hbd := Nat.lt_of_lt_of_le hbw hzwd
      have d0 := (Hd_cells HRd.out hkn).1
      by_cases he : (q k).p.w = x.w
      · have HK := Lib.hid (pt_twice HOk.out (by omega) (decide_eq_true ⟨k, hkn, he⟩))
        have heb : ((q k).p.w == x.w) = true := by simp [he]
        clear he
        go_wp2_with fail
        refine wp_region_mixB (by kernel_rfl) (by kernel_rfl) ?_
        repeat (first
          | (refine mix_skip rfl ?_; have e0 : True := trivial; clear e0; refine mix_putK ?_; intro K hK; go_simp; refine hK _ ?_; clear hK K)
          | (refine mix_readE rfl rfl rfl ?_; apply Exists.intro; refine ⟨fun w' hb' => ?_, ?_⟩; (focus (obtain ⟨hc', hf'⟩ := Old.cells hb'; clear hb'; go_simp; try exact rfl)); have e0 : True := trivial; clear e0; refine mix_putK ?_; intro K hK; go_simp; refine hK _ ?_; clear hK K)
          | (refine mix_pureE rfl rfl ?_; apply Exists.intro; refine ⟨fun w' => ?_, ?_⟩; (focus (go_simp; try exact rfl)); have e0 : True := trivial; clear e0; refine mix_putK ?_; intro K hK; go_simp; refine hK _ ?_; clear hK K)
          | (refine mix_eff rfl rfl ?_; go_wp2_with (fail); refine then_mix rfl ?_ ?_; (first | (intro h; have h2 : false = true := h; cases h2) | (intro _; assumption) | (intro _; refine Old.mk ?_; repeat (first | (with_reducible exact Below.refl _ _) | (with_reducible refine Bal ?_ _) | (with_reducible refine Below.drew ?_) | (with_reducible refine below_drewN ?_ _) | (with_reducible refine Bset ?_ ?_ _; focus (first | (with_reducible exact Nat.le_refl _) | (simp; done) | (simp; omega) | omega)) | (with_reducible refine Bt ?_ (by assumption)) | (with_reducible refine Bp (g := g) ?_ (by assumption) (by assumption)))))))
        refine mix_nil ?_
        go_wp2_with fail
        refine bodyPost_ret (v := .tuple #[.agg #[.int .i64 y, .int .i64 d, .slice A3 n c3], .int .i64 2]) ?_ rfl ?_
        · simp only [results, Try.results24]
          go_simp
        refine PutRet.same HK.out (by decide) ?_ ?_
        · refine RowOwn.wide (lo := w2.heap.size) (hi := w3.heap.size) ?_ (by omega) (by first | omega | (simp; omega) | (simp; done))
          repeat (first | (with_reducible exact HOd.out) | (with_reducible refine RowOwn.drew ?_) | refine RowOwn.alloc ?_ _ | (refine RowOwn.setC (Or.inl ?_) ?_ _; focus (simp; omega)))
        · repeat (first | (with_reducible exact HWd.out) | (with_reducible refine Below.drew ?_) | refine Bal ?_ _ | (refine Bset ?_ ?_ _; focus (simp; omega)))
      have heb : ((q k).p.w == x.w) = false := by simpa using he
      have hge : x.w < (q k).p.w := by omega
      have hno : ¬ holdsB n q x.w = true := by
        intro h
        obtain ⟨i, hi, e⟩ := of_decide_eq_true h
        by_cases h1 : i < k
        · have := hL.out i h1; omega
        · by_cases h2 : i = k
          · subst h2; exact he e
          · have := HA.out k i (by omega) hi; omega
      have hpa : ptAt q x.w n = k := ptAt_eq n hk hL.out fun i h1 h2 => by
        by_cases e : i = k
        · subst e; omega
        · have := HA.out k i (by omega) h2; omega
      clear he
      by_cases hF : 10 ≤ n
      · have HK := Lib.hid (pt_full HOk.out (by omega) hno hF)
        have hnb : ((n : Int) == 10) = true := by simp; omega
        clear hno hpa
        go_wp2_with fail
        refine wp_region_mixB (by kernel_rfl) (by kernel_rfl) ?_
        repeat (first
          | (refine mix_skip rfl ?_; have e0 : True := trivial; clear e0; refine mix_putK ?_; intro K hK; go_simp; refine hK _ ?_; clear hK K)
          | (refine mix_readE rfl rfl rfl ?_; apply Exists.intro; refine ⟨fun w' hb' => ?_, ?_⟩; (focus (obtain ⟨hc', hf'⟩ := Old.cells hb'; clear hb'; go_simp; try exact rfl)); have e0 : True := trivial; clear e0; refine mix_putK ?_; intro K hK; go_simp; refine hK _ ?_; clear hK K)
          | (refine mix_pureE rfl rfl ?_; apply Exists.intro; refine ⟨fun w' => ?_, ?_⟩; (focus (go_simp; try exact rfl)); have e0 : True := trivial; clear e0; refine mix_putK ?_; intro K hK; go_simp; refine hK _ ?_; clear hK K)
          | (refine mix_eff rfl rfl ?_; go_wp2_with (fail); refine then_mix rfl ?_ ?_; (first | (intro h; have h2 : false = true := h; cases h2) | (intro _; assumption) | (intro _; refine Old.mk ?_; repeat (first | (with_reducible exact Below.refl _ _) | (with_reducible refine Bal ?_ _) | (with_reducible refine Below.drew ?_) | (with_reducible refine below_drewN ?_ _) | (with_reducible refine Bset ?_ ?_ _; focus (first | (with_reducible exact Nat.le_refl _) | (simp; done) | (simp; omega) | omega)) | (with_reducible refine Bt ?_ (by assumption)) | (with_reducible refine Bp (g := g) ?_ (by assumption) (by assumption)))))))
        refine mix_nil ?_
        go_wp2_with fail
        refine bodyPost_ret (v := .tuple #[.agg #[.int .i64 y, .int .i64 d, .slice A3 n c3], .int .i64 3]) ?_ rfl ?_
        · simp only [results, Try.results24]
          go_simp
        refine PutRet.same HK.out (by decide) ?_ ?_
        · refine RowOwn.wide (lo := w2.heap.size) (hi := w3.heap.size) ?_ (by omega) (by first | omega | (simp; omega) | (simp; done))
          repeat (first | (with_reducible exact HOd.out) | (with_reducible refine RowOwn.drew ?_) | refine RowOwn.alloc ?_ _ | (refine RowOwn.setC (Or.inl ?_) ?_ _; focus (simp; omega)))
        · repeat (first | (with_reducible exact HWd.out) | (with_reducible refine Below.drew ?_) | refine Bal ?_ _ | (refine Bset ?_ ?_ _; focus (simp; omega)))
      have HK := Lib.hid (pt_fine HOk.out (by omega) hno hF)
      have HPA := Lib.hid hpa
      have hnb : ((n : Int) == 10) = false := by simp; omega
      clear hno hpa
      go_wp2_with fail
      refine wp_region_mixB (by kernel_rfl) (by kernel_rfl) ?_
      repeat (first
        | (refine mix_skip rfl ?_; have e0 : True := trivial; clear e0; refine mix_putK ?_; intro K hK; go_simp; refine hK _ ?_; clear hK K)
        | (refine mix_readE rfl rfl rfl ?_; apply Exists.intro; refine ⟨fun w' hb' => ?_, ?_⟩; (focus (obtain ⟨hc', hf'⟩ := Old.cells hb'; clear hb'; go_simp; try exact rfl)); have e0 : True := trivial; clear e0; refine mix_putK ?_; intro K hK; go_simp; refine hK _ ?_; clear hK K)
        | (refine mix_pureE rfl rfl ?_; apply Exists.intro; refine ⟨fun w' => ?_, ?_⟩; (focus (go_simp; try exact rfl)); have e0 : True := trivial; clear e0; refine mix_putK ?_; intro K hK; go_simp; refine hK _ ?_; clear hK K)
        | (refine mix_eff rfl rfl ?_; go_wp2_with (fail); refine then_mix rfl ?_ ?_; (first | (intro h; have h2 : false = true := h; cases h2) | (intro _; assumption) | (intro _; refine Old.mk ?_; repeat (first | (with_reducible exact Below.refl _ _) | (with_reducible refine Bal ?_ _) | (with_reducible refine Below.drew ?_) | (with_reducible refine below_drewN ?_ _) | (with_reducible refine Bset ?_ ?_ _; focus (first | (with_reducible exact Nat.le_refl _) | (simp; done) | (simp; omega) | omega)) | (with_reducible refine Bt ?_ (by assumption)) | (with_reducible refine Bp (g := g) ?_ (by assumption) (by assumption)))))))
      refine mix_nil ?_
      go_upto_region 13 with fail
      generalize hwwe : wd.drew = we
      have hbwe : Below wd.heap.size wd we := by rw [← hwwe]; exact Below.drew (Below.refl _ _)
      clear hwwe
      have hzwe := hbwe.size
      have hgwe_0 : ∀ o : Nat, we.cell? ⟨w.heap.size, o, none⟩ = ([.int .i64 y, .int .i64 d, .slice (some ⟨b, off, none⟩) n c] : List Value)[o]? := fun o => ((below_cells hbwe).1 _ o (by omega)).trans (by go_simp; try rfl)
      have hgwe_1 : ∀ o : Nat, we.cell? ⟨w.heap.size + 1, o, none⟩ = ([.int .i64 x.w, .int .i64 x.t, .int .i64 x.l, .int .i64 x.s, .bool x.k, .bool x.z] : List Value)[o]? := fun o => ((below_cells hbwe).1 _ o (by omega)).trans (by go_simp; try rfl)
      have hgwe_2 : ∀ o : Nat, we.cell? ⟨w.heap.size + 1 + 1, o, none⟩ = ([.int .i64 0, .int .i64 0, .slice none 0 0] : List Value)[o]? := fun o => ((below_cells hbwe).1 _ o (by omega)).trans (by go_simp; try rfl)
      have hgwe_3 : ∀ o : Nat, we.cell? ⟨w3.heap.size, o, none⟩ = ([.int .i64 y, .int .i64 d, .slice A3 n c3] : List Value)[o]? := fun o => ((below_cells hbwe).1 _ o (by omega)).trans (by go_simp; try rfl)
      have hkwe_2 : ∀ o : Nat, we.frozen? ⟨w.heap.size + 1 + 1, o, none⟩ = false := fun o => ((below_cells hbwe).2 _ o (by omega)).trans (by go_simp; try rfl)
      have hkwe_3 : ∀ o : Nat, we.frozen? ⟨w3.heap.size, o, none⟩ = false := fun o => ((below_cells hbwe).2 _ o (by omega)).trans (by go_simp; try rfl)
      have hqwe_0 : w.heap.size < we.heap.size := by omega
      have hqwe_1 : w.heap.size + 1 < we.heap.size := by omega
      have hqwe_2 : w.heap.size + 1 + 1 < we.heap.size := by omega
      have hqwe_3 : w3.heap.size < we.heap.size := by omega
      have HWe := Lib.hid (HWd.out.trans (Below.mono hbwe (by omega)))
      have HRe := Lib.hid (HRd.out.below (B := wd.heap.size) (by omega) hbwe)
      have HOe := Lib.hid (HOd.out.below (B := wd.heap.size) (by omega) hbwe)
      clear hgwd_0 hgwd_1 hgwd_2 hgwd_3 hkwd_2 hkwd_3
      refine wp_region_anyR (R := fun a b => Below (we.heap.size) a b) (by kernel_rfl) (fun w => Below.refl _ _) (fun _ _ _ h k => Below.trans h k) (by kernel_rfl) ?_
      simp only [List.size_toArray, List.length_cons, List.length_nil, Nat.zero_add, Nat.reduceAdd]
      refine any_pure 1 (by decide +kernel) rfl rfl ?_; apply Exists.intro; refine ⟨fun w' => ?_, ?_⟩; (focus (first | (exact exec_upto (.tmp 77) (.tmp 78) rfl rfl rfl Try.underlying26 q1 q3 (by omega)) | (go_simp; try exact rfl))); have e0 : True := trivial; clear e0; refine any_putK ?_; intro K hK; go_simp; refine hK _ ?_; clear hK K
      refine any_read 2 (by decide +kernel) rfl rfl rfl ?_; apply Exists.intro; refine ⟨fun w' hb' => ?_, ?_⟩; (focus (obtain ⟨hc', hf'⟩ := below_cells hb'; clear hb'; go_simp; try exact rfl)); have e0 : True := trivial; clear e0; refine any_putK ?_; intro K hK; go_simp; refine hK _ ?_; clear hK K
      refine any_pure 3 (by decide +kernel) rfl rfl ?_; apply Exists.intro; refine ⟨fun w' => ?_, ?_⟩; (focus (first | (exact exec_upto (.tmp 77) (.tmp 78) rfl rfl rfl Try.underlying26 q1 q3 (by omega)) | (go_simp; try exact rfl))); have e0 : True := trivial; clear e0; refine any_putK ?_; intro K hK; go_simp; refine hK _ ?_; clear hK K
      refine any_pure 4 (by decide +kernel) rfl rfl ?_; apply Exists.intro; refine ⟨fun w' => ?_, ?_⟩; (focus (first | (exact exec_upto (.tmp 77) (.tmp 78) rfl rfl rfl Try.underlying26 q1 q3 (by omega)) | (go_simp; try exact rfl))); have e0 : True := trivial; clear e0; refine any_putK ?_; intro K hK; go_simp; refine hK _ ?_; clear hK K
      refine any_read 6 (by decide +kernel) rfl rfl rfl ?_; apply Exists.intro; refine ⟨fun w' hb' => ?_, ?_⟩; (focus (obtain ⟨hc', hf'⟩ := below_cells hb'; clear hb'; go_simp; try exact rfl)); have e0 : True := trivial; clear e0; refine any_putK ?_; intro K hK; go_simp; refine hK _ ?_; clear hK K
      refine any_pure 7 (by decide +kernel) rfl rfl ?_; apply Exists.intro; refine ⟨fun w' => ?_, ?_⟩; (focus (first | (exact exec_upto (.tmp 77) (.tmp 78) rfl rfl rfl Try.underlying26 q1 q3 (by omega)) | (go_simp; try exact rfl))); have e0 : True := trivial; clear e0; refine any_putK ?_; intro K hK; go_simp; refine hK _ ?_; clear hK K
      refine any_pure 8 (by decide +kernel) rfl rfl ?_; apply Exists.intro; refine ⟨fun w' => ?_, ?_⟩; (focus (first | (exact exec_upto (.tmp 77) (.tmp 78) rfl rfl rfl Try.underlying26 q1 q3 (by omega)) | (go_simp; try exact rfl))); have e0 : True := trivial; clear e0; refine any_putK ?_; intro K hK; go_simp; refine hK _ ?_; clear hK K
      refine any_branch (by decide +kernel) ?_
      simp only [List.size_toArray, List.length_cons, List.length_nil, Nat.zero_add, Nat.reduceAdd]
      repeat' (first | exact lt_zero | refine lt_succ ?_ ?_ | exact any_none (by decide +kernel) | fail)
      · refine any_one rfl rfl rfl ?_
        go_wp2_with (fail)
        refine then_any rfl ?_ ?_; focus (first | (intro h; have h2 : false = true := h; cases h2) | (intro _; show Below _ _ _; first | assumption | (repeat (first | assumption | (with_reducible exact Below.refl _ _) | (exact below_undrew _ _) | (with_reducible refine Below.drew ?_) | (with_reducible refine Below.alloc ?_ (by first | exact Nat.le_refl _ | (simp; done) | (simp; omega) | omega) _) | (with_reducible refine Below.setCell ?_ (by first | exact Nat.le_refl _ | (simp; done) | (simp; omega) | omega) _)))))
        refine any_branch (by decide +kernel) ?_
        simp only [List.size_toArray, List.length_cons, List.length_nil, Nat.zero_add, Nat.reduceAdd]
        repeat' (first | exact lt_zero | refine lt_succ ?_ ?_ | exact any_none (by decide +kernel) | fail)
        · refine any_one rfl rfl rfl ?_
          go_wp2_with (fail)
          refine then_any rfl ?_ ?_; focus (first | (intro h; have h2 : false = true := h; cases h2) | (intro _; show Below _ _ _; first | assumption | (repeat (first | assumption | (with_reducible exact Below.refl _ _) | (exact below_undrew _ _) | (with_reducible refine Below.drew ?_) | (with_reducible refine Below.alloc ?_ (by first | exact Nat.le_refl _ | (simp; done) | (simp; omega) | omega) _) | (with_reducible refine Below.setCell ?_ (by first | exact Nat.le_refl _ | (simp; done) | (simp; omega) | omega) _)))))
          refine any_branch (by decide +kernel) ?_
          simp only [List.size_toArray, List.length_cons, List.length_nil, Nat.zero_add, Nat.reduceAdd]
          repeat' (first | exact lt_zero | refine lt_succ ?_ ?_ | exact any_none (by decide +kernel) | fail)
          · refine any_one rfl rfl rfl ?_
            refine wpList_rowAppendN _ rfl (.tmp 75) (.tmp 79) _ rfl 54 i0 _ 7 48 Try.underlying26 q1 q2 q3 q4 rfl (by decide) we.heap.size (we.heap.size + 2) _ 0 0 (HdF q) rfl ?_ lo hi _ k c (HdF q) rfl ?_ k (Nat.zero_add _) ?_ ?_ ?_ ?_ ?_
            · first | exact (empty_at _ _ _ 7 _ (by simp)).wide (by omega) (by omega) | exact ((empty_at _ _ _ 7 _ (by simp)).alloc _).wide (by omega) (by omega) | exact RowOwn.drew ((empty_at _ _ _ 7 _ (by simp)).wide (by omega) (by omega)) | exact RowOwn.drew (((empty_at _ _ _ 7 _ (by simp)).alloc _).wide (by omega) (by omega))
            · exact (HRe.out.below (B := we.heap.size) (by omega) (by repeat (first | assumption | (with_reducible exact Below.refl _ _) | (exact below_undrew _ _) | (with_reducible refine Below.drew ?_) | (with_reducible refine Below.alloc ?_ (by first | exact Nat.le_refl _ | (simp; done) | (simp; omega) | omega) _) | (with_reducible refine Below.setCell ?_ (by first | exact Nat.le_refl _ | (simp; done) | (simp; omega) | omega) _)))).upto hk
            · intro j hj; exact hd_one _ _
            · unfold maxLen; omega
            · omega
            · first | omega | (simp; done) | (simp; omega)
            intro A4 c4 w4 hO4 hG4 hL4
            have hO5 := zero_hd hO4
            have hb4 : Below we.heap.size _ w4 := Below.grown (Below.refl _ _) hG4 (by first | omega | (simp; done) | (simp; omega)) (by intro j hj; simp [Value.ownBlock] at hj; omega)
            have hbe4 : Below we.heap.size we w4 := Below.trans (by repeat (first | assumption | (with_reducible exact Below.refl _ _) | (exact below_undrew _ _) | (with_reducible refine Below.drew ?_) | (with_reducible refine Below.alloc ?_ (by first | exact Nat.le_refl _ | (simp; done) | (simp; omega) | omega) _) | (with_reducible refine Below.setCell ?_ (by first | exact Nat.le_refl _ | (simp; done) | (simp; omega) | omega) _))) hb4
            have hze4 := hbe4.size
            have hzg4 := hG4.size
            (try simp at hzg4)
            first | (have hr84 := RowAt.only (r := some we.heap.size) (by simp) (by intro g e; cases e; left; omega) (hd_row_at _ (we.heap.size + 1) (by simp) ⟨x, now⟩ _) hG4) | (have hr84 := RowAt.only (r := some we.heap.size) (by simp) (by intro g e; cases e; left; omega) (RowAt.drew (hd_row_at _ (we.heap.size + 1) (by simp) ⟨x, now⟩ 54)) hG4) | (have hr84 := RowAt.only (r := some (we.heap.size + 1)) (by simp) (by intro g e; cases e; right; omega) ((hd_row_at _ we.heap.size (by simp) ⟨x, now⟩ _).alloc (by simp) _) hG4) | (have hr84 := RowAt.only (r := some (we.heap.size + 1)) (by simp) (by intro g e; cases e; right; omega) (RowAt.drew ((hd_row_at _ we.heap.size (by simp) ⟨x, now⟩ 54).alloc (by simp) _)) hG4) | skip
            go_wp2_with (fail)
            refine then_any rfl ?_ ?_; focus (first | (intro h; have h2 : false = true := h; cases h2) | (intro _; show Below _ _ _; first | assumption | (repeat (first | assumption | (with_reducible exact Below.refl _ _) | (exact below_undrew _ _) | (with_reducible refine Below.drew ?_) | (with_reducible refine Below.alloc ?_ (by first | exact Nat.le_refl _ | (simp; done) | (simp; omega) | omega) _) | (with_reducible refine Below.setCell ?_ (by first | exact Nat.le_refl _ | (simp; done) | (simp; omega) | omega) _)))))
            refine any_branch (by decide +kernel) ?_
            simp only [List.size_toArray, List.length_cons, List.length_nil, Nat.zero_add, Nat.reduceAdd]
            repeat' (first | exact lt_zero | refine lt_succ ?_ ?_ | exact any_none (by decide +kernel) | fail)
            · refine any_one rfl rfl rfl ?_
              refine wpList_rowAppendN _ rfl (.tmp 80) (.tmp 84) _ rfl 54 i0 _ 7 48 Try.underlying26 q1 q2 q3 q4 rfl (by decide) we.heap.size w4.heap.size A4 k c4 (HdF q) rfl ?_ 0 (w4.heap.size + 1) _ 1 1 (HdF fun _ => ⟨x, now⟩) rfl ?_ (k + 1) rfl ?_ ?_ ?_ ?_ ?_
              · first | exact hO5 | exact hO5.alloc _
              · first | exact hr84.wide (Nat.zero_le _) (by omega) | exact (hd_row_at _ _ (by first | rfl | (simp; done)) ⟨x, now⟩ _).wide (Nat.zero_le _) (by omega)
              · intro j hj; exact hd_one _ _
              · unfold maxLen; omega
              · omega
              · first | exact hze4 | omega | (simp; done) | (simp; omega)
              intro A6 c6 w6 hO6 hG6 hL6
              have hS6 := snoc_hd hO6
              have hb6 : Below we.heap.size _ w6 := Below.grown (Below.refl _ _) hG6 (by first | exact hze4 | omega | (simp; done) | (simp; omega)) (fun j hj => (hO5.1.lt j hj).1)
              have hbe6 : Below we.heap.size we w6 := (by first | exact hbe4.trans hb6 | exact (hbe4.alloc hze4 _).trans hb6)
              go_wp2_with (fail)
              refine then_any rfl ?_ ?_; focus (first | (intro h; have h2 : false = true := h; cases h2) | (intro _; show Below _ _ _; first | assumption | (repeat (first | assumption | (with_reducible exact Below.refl _ _) | (exact below_undrew _ _) | (with_reducible refine Below.drew ?_) | (with_reducible refine Below.alloc ?_ (by first | exact Nat.le_refl _ | (simp; done) | (simp; omega) | omega) _) | (with_reducible refine Below.setCell ?_ (by first | exact Nat.le_refl _ | (simp; done) | (simp; omega) | omega) _)))))
              refine any_pure 11 (by decide +kernel) rfl rfl ?_; apply Exists.intro; refine ⟨fun w' => ?_, ?_⟩; (focus (first | (exact exec_upto (.tmp 77) (.tmp 78) rfl rfl rfl Try.underlying26 q1 q3 (by omega)) | (go_simp; try exact rfl))); have e0 : True := trivial; clear e0; refine any_putK ?_; intro K hK; go_simp; refine hK _ ?_; clear hK K
              refine any_end (by decide +kernel) ?_
              have HS6 := Lib.hid hS6
              have hz6 := hbe6.size
              clear hO4 hG4 hL4 hO5 hb4 hbe4 hze4 hzg4 hO6 hG6 hL6 hS6 hb6
              (try clear hr84)
              obtain ⟨hc6, hf6⟩ := below_cells hbe6
              have hg6_0 := fun o => hc6 (w.heap.size) o (by first | (simp; done) | (simp; omega) | omega)
              try simp [go_sem] at hg6_0
              have hg6_1 := fun o => hc6 (w.heap.size + 1) o (by first | (simp; done) | (simp; omega) | omega)
              try simp [go_sem] at hg6_1
              have hg6_2 := fun o => hc6 (w.heap.size + 1 + 1) o (by first | (simp; done) | (simp; omega) | omega)
              try simp [go_sem] at hg6_2
              have hg6_3 := fun o => hc6 (w3.heap.size) o (by first | (simp; done) | (simp; omega) | omega)
              try simp [go_sem] at hg6_3
              have hk6_2 := fun o => hf6 (w.heap.size + 1 + 1) o (by first | (simp; done) | (simp; omega) | omega)
              try simp [go_sem] at hk6_2
              have h6_0 : w.heap.size < w6.heap.size := by omega
              have h6_1 : w.heap.size + 1 < w6.heap.size := by omega
              have h6_2 : w.heap.size + 1 + 1 < w6.heap.size := by omega
              have h6_3 : w3.heap.size < w6.heap.size := by omega
              have HR6 := Lib.hid (HRe.out.below (B := we.heap.size) (by omega) hbe6)
              have HW6 := Lib.hid (HWe.out.trans (Below.mono hbe6 (by omega)))
              go_wp2_with (first | (refine wpList_from _ rfl (.tmp 88) (.tmp 89) _ _ i0 7 k n c _ rfl rfl rfl Try.underlying26 q1 q3 hk hnc ?_) | (at_builtin; refine wpList_rowAppendN _ rfl (.tmp 86) (.tmp 90) _ rfl 54 i0 _ 7 48 Try.underlying26 q1 q2 q3 q4 rfl (by decide) we.heap.size _ A6 (k + 1) c6 _ rfl HS6.out lo hi _ (n - k) (c - k) _ rfl (HR6.out.from hk hnc) (n + 1) (by omega) ?_ (by unfold maxLen; omega) (by omega) hz6 ?_; (focus (intro j hj; exact hd_one _ _)); intro A7 c7 w7 hO7 hG7 hL7; have hI7 := ins_row hk hO7; have hb7 : Below we.heap.size w6 w7 := Below.grown (Below.refl _ _) hG7 hz6 (fun j hj => (HS6.out.1.lt j hj).1); obtain ⟨hc7, hf7⟩ := below_cells hb7; have hz7 := hb7.size; have hg7_0 := fun o => hc7 (w.heap.size) o (by omega); have hg7_1 := fun o => hc7 (w.heap.size + 1) o (by omega); have hg7_2 := fun o => hc7 (w.heap.size + 1 + 1) o (by omega); have hg7_3 := fun o => hc7 (w3.heap.size) o (by omega); (try simp [go_sem] at hg7_0); (try simp [go_sem] at hg7_1); (try simp [go_sem] at hg7_2); (try simp [go_sem] at hg7_3); have hk7_2 := fun o => hf7 (w.heap.size + 1 + 1) o (by omega); (try simp [go_sem] at hk7_2); have hk7_3 := fun o => hf7 (w3.heap.size) o (by omega); (try simp [go_sem] at hk7_3)))
              refine bodyPost_ret (v := .tuple #[.agg #[.int .i64 y, .int .i64 d, .slice A7 (n + 1) c7], .int .i64 0]) ?_ rfl ?_
              · simp only [results, Try.results24]
                go_simp
              have hW7 := HW6.out.trans (Below.mono hb7 (by omega))
              refine PutRet.fine HK.out ?_ ?_
              · rw [HPA.out]
                refine RowOwn.wide (lo := we.heap.size) (hi := w7.heap.size) ?_ (by omega) (by first | omega | (simp; omega) | (simp; done))
                repeat (first | (with_reducible exact hI7) | (with_reducible refine RowOwn.drew ?_) | (refine RowOwn.setC (Or.inl ?_) ?_ _; focus (first | (simp; done) | (simp; omega) | omega)))
              · repeat (first | (with_reducible exact hW7) | (with_reducible refine Below.drew ?_) | (refine Bset ?_ ?_ _; focus (first | (simp; done) | (simp; omega) | omega)))
      · refine any_one rfl rfl rfl ?_
        go_wp2_with (fail)
        refine then_any rfl ?_ ?_; focus (first | (intro h; have h2 : false = true := h; cases h2) | (intro _; show Below _ _ _; first | assumption | (repeat (first | assumption | (with_reducible exact Below.refl _ _) | (exact below_undrew _ _) | (with_reducible refine Below.drew ?_) | (with_reducible refine Below.alloc ?_ (by first | exact Nat.le_refl _ | (simp; done) | (simp; omega) | omega) _) | (with_reducible refine Below.setCell ?_ (by first | exact Nat.le_refl _ | (simp; done) | (simp; omega) | omega) _)))))
        refine any_branch (by decide +kernel) ?_
        simp only [List.size_toArray, List.length_cons, List.length_nil, Nat.zero_add, Nat.reduceAdd]
        repeat' (first | exact lt_zero | refine lt_succ ?_ ?_ | exact any_none (by decide +kernel) | fail)
        · refine any_one rfl rfl rfl ?_
          go_wp2_with (fail)
          refine then_any rfl ?_ ?_; focus (first | (intro h; have h2 : false = true := h; cases h2) | (intro _; show Below _ _ _; first | assumption | (repeat (first | assumption | (with_reducible exact Below.refl _ _) | (exact below_undrew _ _) | (with_reducible refine Below.drew ?_) | (with_reducible refine Below.alloc ?_ (by first | exact Nat.le_refl _ | (simp; done) | (simp; omega) | omega) _) | (with_reducible refine Below.setCell ?_ (by first | exact Nat.le_refl _ | (simp; done) | (simp; omega) | omega) _)))))
          refine any_branch (by decide +kernel) ?_
          simp only [List.size_toArray, List.length_cons, List.length_nil, Nat.zero_add, Nat.reduceAdd]
          repeat' (first | exact lt_zero | refine lt_succ ?_ ?_ | exact any_none (by decide +kernel) | fail)
          · refine any_one rfl rfl rfl ?_
            refine wpList_rowAppendN _ rfl (.tmp 75) (.tmp 79) _ rfl 54 i0 _ 7 48 Try.underlying26 q1 q2 q3 q4 rfl (by decide) we.heap.size (we.heap.size + 2) _ 0 0 (HdF q) rfl ?_ lo hi _ k c (HdF q) rfl ?_ k (Nat.zero_add _) ?_ ?_ ?_ ?_ ?_
            · first | exact (empty_at _ _ _ 7 _ (by simp)).wide (by omega) (by omega) | exact ((empty_at _ _ _ 7 _ (by simp)).alloc _).wide (by omega) (by omega) | exact RowOwn.drew ((empty_at _ _ _ 7 _ (by simp)).wide (by omega) (by omega)) | exact RowOwn.drew (((empty_at _ _ _ 7 _ (by simp)).alloc _).wide (by omega) (by omega))
            · exact (HRe.out.below (B := we.heap.size) (by omega) (by repeat (first | assumption | (with_reducible exact Below.refl _ _) | (exact below_undrew _ _) | (with_reducible refine Below.drew ?_) | (with_reducible refine Below.alloc ?_ (by first | exact Nat.le_refl _ | (simp; done) | (simp; omega) | omega) _) | (with_reducible refine Below.setCell ?_ (by first | exact Nat.le_refl _ | (simp; done) | (simp; omega) | omega) _)))).upto hk
            · intro j hj; exact hd_one _ _
            · unfold maxLen; omega
            · omega
            · first | omega | (simp; done) | (simp; omega)
            intro A4 c4 w4 hO4 hG4 hL4
            have hO5 := zero_hd hO4
            have hb4 : Below we.heap.size _ w4 := Below.grown (Below.refl _ _) hG4 (by first | omega | (simp; done) | (simp; omega)) (by intro j hj; simp [Value.ownBlock] at hj; omega)
            have hbe4 : Below we.heap.size we w4 := Below.trans (by repeat (first | assumption | (with_reducible exact Below.refl _ _) | (exact below_undrew _ _) | (with_reducible refine Below.drew ?_) | (with_reducible refine Below.alloc ?_ (by first | exact Nat.le_refl _ | (simp; done) | (simp; omega) | omega) _) | (with_reducible refine Below.setCell ?_ (by first | exact Nat.le_refl _ | (simp; done) | (simp; omega) | omega) _))) hb4
            have hze4 := hbe4.size
            have hzg4 := hG4.size
            (try simp at hzg4)
            first | (have hr84 := RowAt.only (r := some we.heap.size) (by simp) (by intro g e; cases e; left; omega) (hd_row_at _ (we.heap.size + 1) (by simp) ⟨x, now⟩ _) hG4) | (have hr84 := RowAt.only (r := some we.heap.size) (by simp) (by intro g e; cases e; left; omega) (RowAt.drew (hd_row_at _ (we.heap.size + 1) (by simp) ⟨x, now⟩ 54)) hG4) | (have hr84 := RowAt.only (r := some (we.heap.size + 1)) (by simp) (by intro g e; cases e; right; omega) ((hd_row_at _ we.heap.size (by simp) ⟨x, now⟩ _).alloc (by simp) _) hG4) | (have hr84 := RowAt.only (r := some (we.heap.size + 1)) (by simp) (by intro g e; cases e; right; omega) (RowAt.drew ((hd_row_at _ we.heap.size (by simp) ⟨x, now⟩ 54).alloc (by simp) _)) hG4) | skip
            go_wp2_with (fail)
            refine then_any rfl ?_ ?_; focus (first | (intro h; have h2 : false = true := h; cases h2) | (intro _; show Below _ _ _; first | assumption | (repeat (first | assumption | (with_reducible exact Below.refl _ _) | (exact below_undrew _ _) | (with_reducible refine Below.drew ?_) | (with_reducible refine Below.alloc ?_ (by first | exact Nat.le_refl _ | (simp; done) | (simp; omega) | omega) _) | (with_reducible refine Below.setCell ?_ (by first | exact Nat.le_refl _ | (simp; done) | (simp; omega) | omega) _)))))
            refine any_branch (by decide +kernel) ?_
            simp only [List.size_toArray, List.length_cons, List.length_nil, Nat.zero_add, Nat.reduceAdd]
            repeat' (first | exact lt_zero | refine lt_succ ?_ ?_ | exact any_none (by decide +kernel) | fail)
            · refine any_one rfl rfl rfl ?_
              refine wpList_rowAppendN _ rfl (.tmp 80) (.tmp 84) _ rfl 54 i0 _ 7 48 Try.underlying26 q1 q2 q3 q4 rfl (by decide) we.heap.size w4.heap.size A4 k c4 (HdF q) rfl ?_ 0 (w4.heap.size + 1) _ 1 1 (HdF fun _ => ⟨x, now⟩) rfl ?_ (k + 1) rfl ?_ ?_ ?_ ?_ ?_
              · first | exact hO5 | exact hO5.alloc _
              · first | exact hr84.wide (Nat.zero_le _) (by omega) | exact (hd_row_at _ _ (by first | rfl | (simp; done)) ⟨x, now⟩ _).wide (Nat.zero_le _) (by omega)
              · intro j hj; exact hd_one _ _
              · unfold maxLen; omega
              · omega
              · first | exact hze4 | omega | (simp; done) | (simp; omega)
              intro A6 c6 w6 hO6 hG6 hL6
              have hS6 := snoc_hd hO6
              have hb6 : Below we.heap.size _ w6 := Below.grown (Below.refl _ _) hG6 (by first | exact hze4 | omega | (simp; done) | (simp; omega)) (fun j hj => (hO5.1.lt j hj).1)
              have hbe6 : Below we.heap.size we w6 := (by first | exact hbe4.trans hb6 | exact (hbe4.alloc hze4 _).trans hb6)
              go_wp2_with (fail)
              refine then_any rfl ?_ ?_; focus (first | (intro h; have h2 : false = true := h; cases h2) | (intro _; show Below _ _ _; first | assumption | (repeat (first | assumption | (with_reducible exact Below.refl _ _) | (exact below_undrew _ _) | (with_reducible refine Below.drew ?_) | (with_reducible refine Below.alloc ?_ (by first | exact Nat.le_refl _ | (simp; done) | (simp; omega) | omega) _) | (with_reducible refine Below.setCell ?_ (by first | exact Nat.le_refl _ | (simp; done) | (simp; omega) | omega) _)))))
              refine any_pure 11 (by decide +kernel) rfl rfl ?_; apply Exists.intro; refine ⟨fun w' => ?_, ?_⟩; (focus (first | (exact exec_upto (.tmp 77) (.tmp 78) rfl rfl rfl Try.underlying26 q1 q3 (by omega)) | (go_simp; try exact rfl))); have e0 : True := trivial; clear e0; refine any_putK ?_; intro K hK; go_simp; refine hK _ ?_; clear hK K
              refine any_end (by decide +kernel) ?_
              have HS6 := Lib.hid hS6
              have hz6 := hbe6.size
              clear hO4 hG4 hL4 hO5 hb4 hbe4 hze4 hzg4 hO6 hG6 hL6 hS6 hb6
              (try clear hr84)
              obtain ⟨hc6, hf6⟩ := below_cells hbe6
              have hg6_0 := fun o => hc6 (w.heap.size) o (by first | (simp; done) | (simp; omega) | omega)
              try simp [go_sem] at hg6_0
              have hg6_1 := fun o => hc6 (w.heap.size + 1) o (by first | (simp; done) | (simp; omega) | omega)
              try simp [go_sem] at hg6_1
              have hg6_2 := fun o => hc6 (w.heap.size + 1 + 1) o (by first | (simp; done) | (simp; omega) | omega)
              try simp [go_sem] at hg6_2
              have hg6_3 := fun o => hc6 (w3.heap.size) o (by first | (simp; done) | (simp; omega) | omega)
              try simp [go_sem] at hg6_3
              have hk6_2 := fun o => hf6 (w.heap.size + 1 + 1) o (by first | (simp; done) | (simp; omega) | omega)
              try simp [go_sem] at hk6_2
              have h6_0 : w.heap.size < w6.heap.size := by omega
              have h6_1 : w.heap.size + 1 < w6.heap.size := by omega
              have h6_2 : w.heap.size + 1 + 1 < w6.heap.size := by omega
              have h6_3 : w3.heap.size < w6.heap.size := by omega
              have HR6 := Lib.hid (HRe.out.below (B := we.heap.size) (by omega) hbe6)
              have HW6 := Lib.hid (HWe.out.trans (Below.mono hbe6 (by omega)))
              go_wp2_with (first | (refine wpList_from _ rfl (.tmp 88) (.tmp 89) _ _ i0 7 k n c _ rfl rfl rfl Try.underlying26 q1 q3 hk hnc ?_) | (at_builtin; refine wpList_rowAppendN _ rfl (.tmp 86) (.tmp 90) _ rfl 54 i0 _ 7 48 Try.underlying26 q1 q2 q3 q4 rfl (by decide) we.heap.size _ A6 (k + 1) c6 _ rfl HS6.out lo hi _ (n - k) (c - k) _ rfl (HR6.out.from hk hnc) (n + 1) (by omega) ?_ (by unfold maxLen; omega) (by omega) hz6 ?_; (focus (intro j hj; exact hd_one _ _)); intro A7 c7 w7 hO7 hG7 hL7; have hI7 := ins_row hk hO7; have hb7 : Below we.heap.size w6 w7 := Below.grown (Below.refl _ _) hG7 hz6 (fun j hj => (HS6.out.1.lt j hj).1); obtain ⟨hc7, hf7⟩ := below_cells hb7; have hz7 := hb7.size; have hg7_0 := fun o => hc7 (w.heap.size) o (by omega); have hg7_1 := fun o => hc7 (w.heap.size + 1) o (by omega); have hg7_2 := fun o => hc7 (w.heap.size + 1 + 1) o (by omega); have hg7_3 := fun o => hc7 (w3.heap.size) o (by omega); (try simp [go_sem] at hg7_0); (try simp [go_sem] at hg7_1); (try simp [go_sem] at hg7_2); (try simp [go_sem] at hg7_3); have hk7_2 := fun o => hf7 (w.heap.size + 1 + 1) o (by omega); (try simp [go_sem] at hk7_2); have hk7_3 := fun o => hf7 (w3.heap.size) o (by omega); (try simp [go_sem] at hk7_3)))
              refine bodyPost_ret (v := .tuple #[.agg #[.int .i64 y, .int .i64 d, .slice A7 (n + 1) c7], .int .i64 0]) ?_ rfl ?_
              · simp only [results, Try.results24]
                go_simp
              have hW7 := HW6.out.trans (Below.mono hb7 (by omega))
              refine PutRet.fine HK.out ?_ ?_
              · rw [HPA.out]
                refine RowOwn.wide (lo := we.heap.size) (hi := w7.heap.size) ?_ (by omega) (by first | omega | (simp; omega) | (simp; done))
                repeat (first | (with_reducible exact hI7) | (with_reducible refine RowOwn.drew ?_) | (refine RowOwn.setC (Or.inl ?_) ?_ _; focus (first | (simp; done) | (simp; omega) | omega)))
              · repeat (first | (with_reducible exact hW7) | (with_reducible refine Below.drew ?_) | (refine Bset ?_ ?_ _; focus (first | (simp; done) | (simp; omega) | omega)))
        · refine any_one rfl rfl rfl ?_
          refine wpList_rowAppendN _ rfl (.tmp 75) (.tmp 79) _ rfl 54 i0 _ 7 48 Try.underlying26 q1 q2 q3 q4 rfl (by decide) we.heap.size (we.heap.size + 2) _ 0 0 (HdF q) rfl ?_ lo hi _ k c (HdF q) rfl ?_ k (Nat.zero_add _) ?_ ?_ ?_ ?_ ?_
          · first | exact (empty_at _ _ _ 7 _ (by simp)).wide (by omega) (by omega) | exact ((empty_at _ _ _ 7 _ (by simp)).alloc _).wide (by omega) (by omega) | exact RowOwn.drew ((empty_at _ _ _ 7 _ (by simp)).wide (by omega) (by omega)) | exact RowOwn.drew (((empty_at _ _ _ 7 _ (by simp)).alloc _).wide (by omega) (by omega))
          · exact (HRe.out.below (B := we.heap.size) (by omega) (by repeat (first | assumption | (with_reducible exact Below.refl _ _) | (exact below_undrew _ _) | (with_reducible refine Below.drew ?_) | (with_reducible refine Below.alloc ?_ (by first | exact Nat.le_refl _ | (simp; done) | (simp; omega) | omega) _) | (with_reducible refine Below.setCell ?_ (by first | exact Nat.le_refl _ | (simp; done) | (simp; omega) | omega) _)))).upto hk
          · intro j hj; exact hd_one _ _
          · unfold maxLen; omega
          · omega
          · first | omega | (simp; done) | (simp; omega)
          intro A4 c4 w4 hO4 hG4 hL4
          have hO5 := zero_hd hO4
          have hb4 : Below we.heap.size _ w4 := Below.grown (Below.refl _ _) hG4 (by first | omega | (simp; done) | (simp; omega)) (by intro j hj; simp [Value.ownBlock] at hj; omega)
          have hbe4 : Below we.heap.size we w4 := Below.trans (by repeat (first | assumption | (with_reducible exact Below.refl _ _) | (exact below_undrew _ _) | (with_reducible refine Below.drew ?_) | (with_reducible refine Below.alloc ?_ (by first | exact Nat.le_refl _ | (simp; done) | (simp; omega) | omega) _) | (with_reducible refine Below.setCell ?_ (by first | exact Nat.le_refl _ | (simp; done) | (simp; omega) | omega) _))) hb4
          have hze4 := hbe4.size
          have hzg4 := hG4.size
          (try simp at hzg4)
          first | (have hr84 := RowAt.only (r := some we.heap.size) (by simp) (by intro g e; cases e; left; omega) (hd_row_at _ (we.heap.size + 1) (by simp) ⟨x, now⟩ _) hG4) | (have hr84 := RowAt.only (r := some we.heap.size) (by simp) (by intro g e; cases e; left; omega) (RowAt.drew (hd_row_at _ (we.heap.size + 1) (by simp) ⟨x, now⟩ 54)) hG4) | (have hr84 := RowAt.only (r := some (we.heap.size + 1)) (by simp) (by intro g e; cases e; right; omega) ((hd_row_at _ we.heap.size (by simp) ⟨x, now⟩ _).alloc (by simp) _) hG4) | (have hr84 := RowAt.only (r := some (we.heap.size + 1)) (by simp) (by intro g e; cases e; right; omega) (RowAt.drew ((hd_row_at _ we.heap.size (by simp) ⟨x, now⟩ 54).alloc (by simp) _)) hG4) | skip
          go_wp2_with (fail)
          refine then_any rfl ?_ ?_; focus (first | (intro h; have h2 : false = true := h; cases h2) | (intro _; show Below _ _ _; first | assumption | (repeat (first | assumption | (with_reducible exact Below.refl _ _) | (exact below_undrew _ _) | (with_reducible refine Below.drew ?_) | (with_reducible refine Below.alloc ?_ (by first | exact Nat.le_refl _ | (simp; done) | (simp; omega) | omega) _) | (with_reducible refine Below.setCell ?_ (by first | exact Nat.le_refl _ | (simp; done) | (simp; omega) | omega) _)))))
          refine any_branch (by decide +kernel) ?_
          simp only [List.size_toArray, List.length_cons, List.length_nil, Nat.zero_add, Nat.reduceAdd]
          repeat' (first | exact lt_zero | refine lt_succ ?_ ?_ | exact any_none (by decide +kernel) | fail)
          · refine any_one rfl rfl rfl ?_
            go_wp2_with (fail)
            refine then_any rfl ?_ ?_; focus (first | (intro h; have h2 : false = true := h; cases h2) | (intro _; show Below _ _ _; first | assumption | (repeat (first | assumption | (with_reducible exact Below.refl _ _) | (exact below_undrew _ _) | (with_reducible refine Below.drew ?_) | (with_reducible refine Below.alloc ?_ (by first | exact Nat.le_refl _ | (simp; done) | (simp; omega) | omega) _) | (with_reducible refine Below.setCell ?_ (by first | exact Nat.le_refl _ | (simp; done) | (simp; omega) | omega) _)))))
            refine any_branch (by decide +kernel) ?_
            simp only [List.size_toArray, List.length_cons, List.length_nil, Nat.zero_add, Nat.reduceAdd]
            repeat' (first | exact lt_zero | refine lt_succ ?_ ?_ | exact any_none (by decide +kernel) | fail)
            · refine any_one rfl rfl rfl ?_
              refine wpList_rowAppendN _ rfl (.tmp 80) (.tmp 84) _ rfl 54 i0 _ 7 48 Try.underlying26 q1 q2 q3 q4 rfl (by decide) we.heap.size w4.heap.size A4 k c4 (HdF q) rfl ?_ 0 (w4.heap.size + 1) _ 1 1 (HdF fun _ => ⟨x, now⟩) rfl ?_ (k + 1) rfl ?_ ?_ ?_ ?_ ?_
              · first | exact hO5 | exact hO5.alloc _
              · first | exact hr84.wide (Nat.zero_le _) (by omega) | exact (hd_row_at _ _ (by first | rfl | (simp; done)) ⟨x, now⟩ _).wide (Nat.zero_le _) (by omega)
              · intro j hj; exact hd_one _ _
              · unfold maxLen; omega
              · omega
              · first | exact hze4 | omega | (simp; done) | (simp; omega)
              intro A6 c6 w6 hO6 hG6 hL6
              have hS6 := snoc_hd hO6
              have hb6 : Below we.heap.size _ w6 := Below.grown (Below.refl _ _) hG6 (by first | exact hze4 | omega | (simp; done) | (simp; omega)) (fun j hj => (hO5.1.lt j hj).1)
              have hbe6 : Below we.heap.size we w6 := (by first | exact hbe4.trans hb6 | exact (hbe4.alloc hze4 _).trans hb6)
              go_wp2_with (fail)
              refine then_any rfl ?_ ?_; focus (first | (intro h; have h2 : false = true := h; cases h2) | (intro _; show Below _ _ _; first | assumption | (repeat (first | assumption | (with_reducible exact Below.refl _ _) | (exact below_undrew _ _) | (with_reducible refine Below.drew ?_) | (with_reducible refine Below.alloc ?_ (by first | exact Nat.le_refl _ | (simp; done) | (simp; omega) | omega) _) | (with_reducible refine Below.setCell ?_ (by first | exact Nat.le_refl _ | (simp; done) | (simp; omega) | omega) _)))))
              refine any_pure 11 (by decide +kernel) rfl rfl ?_; apply Exists.intro; refine ⟨fun w' => ?_, ?_⟩; (focus (first | (exact exec_upto (.tmp 77) (.tmp 78) rfl rfl rfl Try.underlying26 q1 q3 (by omega)) | (go_simp; try exact rfl))); have e0 : True := trivial; clear e0; refine any_putK ?_; intro K hK; go_simp; refine hK _ ?_; clear hK K
              refine any_end (by decide +kernel) ?_
              have HS6 := Lib.hid hS6
              have hz6 := hbe6.size
              clear hO4 hG4 hL4 hO5 hb4 hbe4 hze4 hzg4 hO6 hG6 hL6 hS6 hb6
              (try clear hr84)
              obtain ⟨hc6, hf6⟩ := below_cells hbe6
              have hg6_0 := fun o => hc6 (w.heap.size) o (by first | (simp; done) | (simp; omega) | omega)
              try simp [go_sem] at hg6_0
              have hg6_1 := fun o => hc6 (w.heap.size + 1) o (by first | (simp; done) | (simp; omega) | omega)
              try simp [go_sem] at hg6_1
              have hg6_2 := fun o => hc6 (w.heap.size + 1 + 1) o (by first | (simp; done) | (simp; omega) | omega)
              try simp [go_sem] at hg6_2
              have hg6_3 := fun o => hc6 (w3.heap.size) o (by first | (simp; done) | (simp; omega) | omega)
              try simp [go_sem] at hg6_3
              have hk6_2 := fun o => hf6 (w.heap.size + 1 + 1) o (by first | (simp; done) | (simp; omega) | omega)
              try simp [go_sem] at hk6_2
              have h6_0 : w.heap.size < w6.heap.size := by omega
              have h6_1 : w.heap.size + 1 < w6.heap.size := by omega
              have h6_2 : w.heap.size + 1 + 1 < w6.heap.size := by omega
              have h6_3 : w3.heap.size < w6.heap.size := by omega
              have HR6 := Lib.hid (HRe.out.below (B := we.heap.size) (by omega) hbe6)
              have HW6 := Lib.hid (HWe.out.trans (Below.mono hbe6 (by omega)))
              go_wp2_with (first | (refine wpList_from _ rfl (.tmp 88) (.tmp 89) _ _ i0 7 k n c _ rfl rfl rfl Try.underlying26 q1 q3 hk hnc ?_) | (at_builtin; refine wpList_rowAppendN _ rfl (.tmp 86) (.tmp 90) _ rfl 54 i0 _ 7 48 Try.underlying26 q1 q2 q3 q4 rfl (by decide) we.heap.size _ A6 (k + 1) c6 _ rfl HS6.out lo hi _ (n - k) (c - k) _ rfl (HR6.out.from hk hnc) (n + 1) (by omega) ?_ (by unfold maxLen; omega) (by omega) hz6 ?_; (focus (intro j hj; exact hd_one _ _)); intro A7 c7 w7 hO7 hG7 hL7; have hI7 := ins_row hk hO7; have hb7 : Below we.heap.size w6 w7 := Below.grown (Below.refl _ _) hG7 hz6 (fun j hj => (HS6.out.1.lt j hj).1); obtain ⟨hc7, hf7⟩ := below_cells hb7; have hz7 := hb7.size; have hg7_0 := fun o => hc7 (w.heap.size) o (by omega); have hg7_1 := fun o => hc7 (w.heap.size + 1) o (by omega); have hg7_2 := fun o => hc7 (w.heap.size + 1 + 1) o (by omega); have hg7_3 := fun o => hc7 (w3.heap.size) o (by omega); (try simp [go_sem] at hg7_0); (try simp [go_sem] at hg7_1); (try simp [go_sem] at hg7_2); (try simp [go_sem] at hg7_3); have hk7_2 := fun o => hf7 (w.heap.size + 1 + 1) o (by omega); (try simp [go_sem] at hk7_2); have hk7_3 := fun o => hf7 (w3.heap.size) o (by omega); (try simp [go_sem] at hk7_3)))
              refine bodyPost_ret (v := .tuple #[.agg #[.int .i64 y, .int .i64 d, .slice A7 (n + 1) c7], .int .i64 0]) ?_ rfl ?_
              · simp only [results, Try.results24]
                go_simp
              have hW7 := HW6.out.trans (Below.mono hb7 (by omega))
              refine PutRet.fine HK.out ?_ ?_
              · rw [HPA.out]
                refine RowOwn.wide (lo := we.heap.size) (hi := w7.heap.size) ?_ (by omega) (by first | omega | (simp; omega) | (simp; done))
                repeat (first | (with_reducible exact hI7) | (with_reducible refine RowOwn.drew ?_) | (refine RowOwn.setC (Or.inl ?_) ?_ _; focus (first | (simp; done) | (simp; omega) | omega)))
              · repeat (first | (with_reducible exact hW7) | (with_reducible refine Below.drew ?_) | (refine Bset ?_ ?_ _; focus (first | (simp; done) | (simp; omega) | omega)))
theorem sbp_any (w : World) (lo hi : Nat) (A : Option Addr) (n c : Nat) (y d now : Int) (q : Nat → Hd) (x : Pk) (h : RowAt w lo hi A n 7 (HdF q)) (hi' : hi ≤ w.heap.size) (hn : n ≤ 1048576) (hnc : n ≤ c) :
    Calls Try.prog 24 #[.agg #[.int .i64 y, .int .i64 d, .slice A n c], PkV x, .int .i64 now] w (PutRet y d n q x now w) := by
  by_cases h1 : ptOk y d n q x now
  · by_cases h2 : x.w < y
    · exact sbp_early w lo hi A n c y d now q x h hi' hn hnc (.inr h2)
    · exact sbp_main w lo hi A n c y d now q x h hi' hn hnc h1 h2
  · exact sbp_early w lo hi A n c y d now q x h hi' hn hnc (.inl h1)
end Go.Proofs.Ytegdogamenoaiaa
