/- A run of the speakers, by the reference. -/
import Derived.Test.YtcdpalpoanlbmaaSj
import Derived.Deep.DeepCutAuto
namespace Go.Proofs.Ytcdpalpoanlbmaa
open Go Go.RowKit
set_option linter.unusedVariables false
set_option linter.unusedSimpArgs false
theorem RowOwn.apartR7 {e : TypeId} {w w' : World} {lo hi n c sz : Nat} {A : Option Addr} {f : Nat → Value} {r : Option Nat} (hne : ∀ g, r = some g → (Value.slice A n c).ownBlock ≠ some g) (h : RowOwn e w lo hi A n c sz f) (hg : w.grownBy w' r) : RowOwn e w' lo hi A n c sz f := by
  refine ⟨h.1.kept hg ?_, h.2⟩
  cases hb : (Value.slice A n c).ownBlock with
  | none => exact Or.inl rfl
  | some g => exact Or.inr fun e => hne g e.symm hb
set_option maxRecDepth 100000 in
set_option maxHeartbeats 16000000 in
theorem srun_any (w : World) (lo hi : Nat) (A : Option Addr) (n c : Nat) (S : Nat → Sr) (h : Mtx w lo hi A n S) (hi' : hi ≤ w.heap.size) (hn : n ≤ 1048576) (hb : ∀ i, i < n → (S i).n ≤ 1048576) :
    Calls Try.prog 7 #[.slice A n c] w (GivesL (runR n S).length (runR n S) w) := by
  obtain ⟨i1, r1, r2, r3, r4⟩ := info_parts info_int
  have H := Lib.hid h
  have HN := Lib.hid hb
  clear h hb
  go_enter Try.func7, Try.ntmps7
  go_wp2_with fail
  obtain ⟨w0, hw0⟩ : ∃ v, v = ((w.alloc (.cells #[] 3)).alloc (.cells #[.int .i64 (-1), .int .i64 (-1), .int .i64 0] 29)) := ⟨_, rfl⟩
  rw [← hw0]
  have HS0 := Lib.hid (show SpAt w0 (w.heap.size + 1) (runT S 0) by
    rw [hw0]
    refine ⟨?_, ?_, ?_, fun j => ?_, by simp⟩
    · go_simp; try rfl
    · go_simp; try rfl
    · go_simp; try rfl
    · go_simp; try rfl)
  have HO0 := Lib.hid (show OwnI w0 w.heap.size w0.heap.size (some ⟨w.heap.size, 0, none⟩) 0 0 (atLS (runL S 0)) by
    rw [hw0]
    exact OwnI.wide (OwnI.alloc (empty_row w 3 1 (intV (atLS []))) _) (Nat.le_refl _) (by simp))
  have HB0 := Lib.hid (show Below w.heap.size w w0 by rw [hw0]; exact (Ba w _).alloc (by simp) _)
  have hs0 : w.heap.size + 1 < w0.heap.size := by rw [hw0]; simp
  have hs0b : w.heap.size < w0.heap.size := by omega
  clear hw0
  go_loopw [3, 5] (fun s i wr => ∃ (k : Nat) (B : Option Addr) (cb : Nat), k ≤ n ∧ i = .int .i64 (k : Nat) ∧ s = .slice B k cb ∧ Hid (OwnI wr w.heap.size wr.heap.size B k cb (atLS (runL S k))) ∧ Hid (SpAt wr (w.heap.size + 1) (runT S k)) ∧ Hid ((Value.slice B k cb).ownBlock ≠ some (w.heap.size + 1)) ∧ Hid ((0 < k → n ≤ 20) ∧ ∀ i, i < k → LoudOk (S i).n (S i).z ∧ (S i).n = (S 0).n) ∧ Hid (Below w.heap.size w wr)) (fun _ i _ => n - (intOf i).toNat)
  case atStart => exact ⟨0, _, 0, Nat.zero_le _, rfl, rfl, HO0, HS0, Lib.hid (by intro e; injection e with e; have e : w.heap.size = w.heap.size + 1 := e; omega), Lib.hid ⟨fun h => absurd h (by omega), fun i hi => absurd hi (by omega)⟩, HB0⟩
  clear HO0 HS0 HB0 hs0 hs0b
  case round =>
    obtain ⟨k, B, cb, hk, rfl, rfl, HO, HSP, HD, HK, HB⟩ := hrel
    have hws := HB.out.size
    by_cases hkn : k < n
    rotate_left
    · obtain rfl : k = n := by omega
      have hR : runR k S = runL S k := by
        by_cases h0 : 0 < k
        · exact if_pos ⟨HK.out.1 h0, HK.out.2⟩
        · obtain rfl : k = 0 := by omega
          unfold runR; split <;> rfl
      have hl := runL_len S k
      have HG := Lib.hid (show GivesL (runR k S).length (runR k S) w (.returned (.slice B k cb)) wr by
        rw [hR, hl]
        exact ⟨B, cb, HO.out, rfl, HB.out⟩)
      clear hR hl
      go_wp2_with fail
      go_ret
      exact HG.out
    have HR := Lib.hid (H.out.below hi' HB.out)
    obtain ⟨b, off, rfl, -, hb2, hcl⟩ := Sr_all HR.out.1 (show 0 < n by omega)
    have c0 := hcl 0 (by omega)
    have ck := hcl k hkn
    rw [Nat.add_zero] at c0
    have hn0 : 0 < n := by omega
    clear hcl
    have hbw : b < wr.heap.size := by omega
    have hnk := HN.out k hkn
    have hlv := fun W (hW : Below wr.heap.size wr W) => sloud_any (c := (S k).c) W ((HR.out.2 k hkn).below (by omega) hW) hnk
    have HBd := Lib.hid HB.out.drew
    have ret0 : ∀ W : World, Below w.heap.size w W → ¬ RunOk n S → GivesL (runR n S).length (runR n S) w (.returned (.slice (some ⟨W.heap.size, 0, none⟩) 0 0)) (W.alloc (.cells #[] 3)) := fun W hW hno => by
      rw [show runR n S = [] from if_neg hno]
      exact ⟨_, 0, (empty_row W 3 1 (intV (atLS []))).wide hW.size (by simp), rfl, hW.alloc hW.size _⟩
    have HRET := Lib.hid ret0
    clear ret0
    by_cases hl : LoudOk (S k).n (S k).z
    rotate_left
    · rw [loudB_f hl] at hlv
      have HL := Lib.hid hlv
      have HNO := Lib.hid (show ¬ RunOk n S from fun h => hl (h.2 k hkn).1)
      clear hlv hl
      go_upto_region 6 with fail
      refine wp_region_mix (Exc (fun _ => False) wr) (by kernel_rfl) (by kernel_rfl) (Exc.drew (Exc.refl _ _)) ?_
      repeat (first
        | (refine mix_skip rfl ?_; have e0 : True := trivial; clear e0; refine mix_putK ?_; intro K hK; go_simp; refine hK _ ?_; clear hK K)
        | (refine mix_readE rfl rfl rfl ?_; apply Exists.intro; refine ⟨fun w' hb' => ?_, ?_⟩; (focus (obtain ⟨hc', hf'⟩ := exc_cells hb'; clear hb'; go_simp; try exact rfl)); have e0 : True := trivial; clear e0; refine mix_putK ?_; intro K hK; go_simp; refine hK _ ?_; clear hK K)
        | (refine mix_pureE rfl rfl ?_; apply Exists.intro; refine ⟨fun w' => ?_, ?_⟩; (focus (first | (fail) | (go_simp; try exact rfl))); have e0 : True := trivial; clear e0; refine mix_putK ?_; intro K hK; go_simp; refine hK _ ?_; clear hK K)
        | (refine mix_eff rfl rfl ?_; go_wp2_with ((go_at_call 22; refine (HL.out _ (Below.refl _ wr).drew).mono ?_; rintro e w6 ⟨rfl, rfl⟩)); refine then_mix rfl ?_ ?_; (focus (first | (intro h; have h2 : false = true := h; cases h2) | (intro _; assumption) | (intro _; repeat (first | assumption | (with_reducible exact Exc.refl _ _) | (with_reducible refine Exc.drew ?_) | (with_reducible refine Exc.alloc ?_ _) | (with_reducible refine Exc.setC ?_ ?_ _; focus (simp))))))))
      refine mix_nil ?_
      go_wp2_with fail
      refine bodyPost_retE rfl ?_
      apply Exists.intro
      refine ⟨?_, ?_⟩
      · simp only [results, Try.results7]
        go_simp
        first | done | rfl
      go_light
      exact HRET.out _ HB.out.drew HNO.out
    rw [loudB_t hl] at hlv
    have HL := Lib.hid hlv
    have HLK := Lib.hid hl
    clear hlv hl
    by_cases he : (S k).n = (S 0).n
    rotate_left
    · have HNO := Lib.hid (show ¬ RunOk n S from fun h => he (h.2 k hkn).2)
      have heb : (((S k).n : Int) != ((S 0).n : Int)) = true := by simp [bne]; omega
      have heb2 : ((S k).n : Int) ≠ ((S 0).n : Int) := by omega
      go_upto_region 6 with fail
      refine wp_region_mix (Exc (fun _ => False) wr) (by kernel_rfl) (by kernel_rfl) (Exc.drew (Exc.refl _ _)) ?_
      repeat (first
        | (refine mix_skip rfl ?_; have e0 : True := trivial; clear e0; refine mix_putK ?_; intro K hK; go_simp; refine hK _ ?_; clear hK K)
        | (refine mix_readE rfl rfl rfl ?_; apply Exists.intro; refine ⟨fun w' hb' => ?_, ?_⟩; (focus (obtain ⟨hc', hf'⟩ := exc_cells hb'; clear hb'; go_simp; try exact rfl)); have e0 : True := trivial; clear e0; refine mix_putK ?_; intro K hK; go_simp; refine hK _ ?_; clear hK K)
        | (refine mix_pureE rfl rfl ?_; apply Exists.intro; refine ⟨fun w' => ?_, ?_⟩; (focus (first | (fail) | (go_simp; try exact rfl))); have e0 : True := trivial; clear e0; refine mix_putK ?_; intro K hK; go_simp; refine hK _ ?_; clear hK K)
        | (refine mix_eff rfl rfl ?_; go_wp2_with ((go_at_call 22; refine (HL.out _ (Below.refl _ wr).drew).mono ?_; rintro e w6 ⟨rfl, rfl⟩)); refine then_mix rfl ?_ ?_; (focus (first | (intro h; have h2 : false = true := h; cases h2) | (intro _; assumption) | (intro _; repeat (first | assumption | (with_reducible exact Exc.refl _ _) | (with_reducible refine Exc.drew ?_) | (with_reducible refine Exc.alloc ?_ _) | (with_reducible refine Exc.setC ?_ ?_ _; focus (simp))))))))
      refine mix_nil ?_
      go_wp2_with fail
      refine bodyPost_retE rfl ?_
      apply Exists.intro
      refine ⟨?_, ?_⟩
      · simp only [results, Try.results7]
        go_simp
        first | done | rfl
      go_light
      exact HRET.out _ HB.out.drew HNO.out
    have HE := Lib.hid he
    rw [← he] at c0
    have hxx : (((S k).n : Int) != ((S k).n : Int)) = false := by simp
    clear he
    by_cases h20 : 20 < n
    · have HNO := Lib.hid (show ¬ RunOk n S from fun h => by have := h.1; omega)
      go_upto_region 6 with fail
      refine wp_region_mix (Exc (fun _ => False) wr) (by kernel_rfl) (by kernel_rfl) (Exc.drew (Exc.refl _ _)) ?_
      repeat (first
        | (refine mix_skip rfl ?_; have e0 : True := trivial; clear e0; refine mix_putK ?_; intro K hK; go_simp; refine hK _ ?_; clear hK K)
        | (refine mix_readE rfl rfl rfl ?_; apply Exists.intro; refine ⟨fun w' hb' => ?_, ?_⟩; (focus (obtain ⟨hc', hf'⟩ := exc_cells hb'; clear hb'; go_simp; try exact rfl)); have e0 : True := trivial; clear e0; refine mix_putK ?_; intro K hK; go_simp; refine hK _ ?_; clear hK K)
        | (refine mix_pureE rfl rfl ?_; apply Exists.intro; refine ⟨fun w' => ?_, ?_⟩; (focus (first | (fail) | (go_simp; try exact rfl))); have e0 : True := trivial; clear e0; refine mix_putK ?_; intro K hK; go_simp; refine hK _ ?_; clear hK K)
        | (refine mix_eff rfl rfl ?_; go_wp2_with ((go_at_call 22; refine (HL.out _ (Below.refl _ wr).drew).mono ?_; rintro e w6 ⟨rfl, rfl⟩)); refine then_mix rfl ?_ ?_; (focus (first | (intro h; have h2 : false = true := h; cases h2) | (intro _; assumption) | (intro _; repeat (first | assumption | (with_reducible exact Exc.refl _ _) | (with_reducible refine Exc.drew ?_) | (with_reducible refine Exc.alloc ?_ _) | (with_reducible refine Exc.setC ?_ ?_ _; focus (simp))))))))
      refine mix_nil ?_
      go_wp2_with fail
      refine bodyPost_retE rfl ?_
      apply Exists.intro
      refine ⟨?_, ?_⟩
      · simp only [results, Try.results7]
        go_simp
        first | done | rfl
      go_light
      exact HRET.out _ HB.out.drew HNO.out
    have h20' : n ≤ 20 := by omega
    have h20b : decide ((20 : Int) < (n : Int)) = false := decide_eq_false (by omega)
    go_upto_region 6 with fail
    refine wp_region_mix (Exc (fun _ => False) wr) (by kernel_rfl) (by kernel_rfl) (Exc.drew (Exc.refl _ _)) ?_
    repeat (first
      | (refine mix_skip rfl ?_; have e0 : True := trivial; clear e0; refine mix_putK ?_; intro K hK; go_simp; refine hK _ ?_; clear hK K)
      | (refine mix_readE rfl rfl rfl ?_; apply Exists.intro; refine ⟨fun w' hb' => ?_, ?_⟩; (focus (obtain ⟨hc', hf'⟩ := exc_cells hb'; clear hb'; go_simp; try exact rfl)); have e0 : True := trivial; clear e0; refine mix_putK ?_; intro K hK; go_simp; refine hK _ ?_; clear hK K)
      | (refine mix_pureE rfl rfl ?_; apply Exists.intro; refine ⟨fun w' => ?_, ?_⟩; (focus (first | (fail) | (go_simp; try exact rfl))); have e0 : True := trivial; clear e0; refine mix_putK ?_; intro K hK; go_simp; refine hK _ ?_; clear hK K)
      | (refine mix_eff rfl rfl ?_; go_wp2_with ((go_at_call 22; refine (HL.out _ (Below.refl _ wr).drew).mono ?_; rintro e w6 ⟨rfl, rfl⟩)); refine then_mix rfl ?_ ?_; (focus (first | (intro h; have h2 : false = true := h; cases h2) | (intro _; assumption) | (intro _; repeat (first | assumption | (with_reducible exact Exc.refl _ _) | (with_reducible refine Exc.drew ?_) | (with_reducible refine Exc.alloc ?_ _) | (with_reducible refine Exc.setC ?_ ?_ _; focus (simp))))))))
    refine mix_nil ?_
    obtain ⟨w6, hw6⟩ : ∃ v, v = wr.drew := ⟨_, rfl⟩
    rw [← hw6]
    have hb6 : Below wr.heap.size wr w6 := by rw [hw6]; exact (Below.refl _ wr).drew
    clear hw6
    have HOK := Lib.hid (show RunOk (k + 1) S from ⟨by omega, fun i hi => by
      by_cases e : i = k
      · subst e; exact ⟨HLK.out, HE.out⟩
      · exact HK.out.2 i (by omega)⟩)
    have HB6 := Lib.hid (HB.out.trans (hb6.mono hws))
    have HO6 := Lib.hid ((HO.out.below (Nat.le_refl _) hb6).wide (Nat.le_refl _) hb6.size)
    have hsp6 := HSP.out.exc (X := fun _ => False) (Exc.of_belowS hb6) (fun h => h)
    have hz6 := hb6.size
    have HR6 := Lib.hid (HR.out.below (by omega) hb6)
    clear hb6 HO HSP HB HR HL HRET c0 ck
    have hstep := runT_ok HOK.out k (by omega)
    obtain ⟨ta, tb, td, ht⟩ : ∃ a b d, runT S k = (a, b, d) := ⟨_, _, _, rfl⟩
    rw [ht] at hsp6 hstep
    have hT1 : runT S (k + 1) = (stN ta tb td (S k).n (S k).z, stX ta tb td (S k).n (S k).z, stW ta tb td (S k).n (S k).z) := by
      show (let t := runT S k; (stN t.1 t.2.1 t.2.2 (S k).n (S k).z, stX t.1 t.2.1 t.2.2 (S k).n (S k).z, stW t.1 t.2.1 t.2.2 (S k).n (S k).z)) = _
      rw [ht]
    obtain ⟨d0, d1, d2, df, dl⟩ := hsp6
    have f0 := df 0
    have f1 := df 1
    have f2 := df 2
    have HSP6 := Lib.hid (show SpAt w6 (w.heap.size + 1) (ta, tb, td) from ⟨d0, d1, d2, df, dl⟩)
    have d0 : w6.cell? ⟨w.heap.size + 1, 0, none⟩ = some (.int .i64 ta) := d0
    have d1 : w6.cell? ⟨w.heap.size + 1, 1, none⟩ = some (.int .i64 tb) := d1
    have d2 : w6.cell? ⟨w.heap.size + 1, 2, none⟩ = some (.int .i64 td) := d2
    have HST := Lib.hid hstep
    have HT1 := Lib.hid hT1
    have ck := Sr_at HR6.out.1 hkn
    obtain ⟨b4, off4, hAe, -, hb4, ck⟩ := ck
    injection hAe with hAe
    injection hAe with y1 y2
    subst y1 y2
    have hbw6 : b < w6.heap.size := by omega
    have hbs : ¬ b = w.heap.size + 1 := by omega
    have hst := fun W (hW : Exc (fun g => g = w.heap.size + 1) w6 W) => sstep_any ta tb td W (c := (S k).c) ((RowAt.keep (HR6.out.2 k hkn) fun b o h1 h2 => hW.cell (by omega) (fun e => by omega))) (by have := hW.size; omega) HST.out.1 HST.out.2.1 HST.out.2.2.1 HST.out.2.2.2
    have HSS := Lib.hid hst
    clear hst hstep hT1 ht df
    rename_i q0 q1 q2
    clear q0 q1 q2
    go_upto_region 8 with fail
    refine wp_region_mix (Exc (fun _ => False) w6) (by kernel_rfl) (by kernel_rfl) (Exc.drew (Exc.refl _ _)) ?_
    repeat (first
      | (refine mix_skip rfl ?_; have e0 : True := trivial; clear e0; refine mix_putK ?_; intro K hK; go_simp; refine hK _ ?_; clear hK K)
      | (refine mix_readE rfl rfl rfl ?_; apply Exists.intro; refine ⟨fun w' hb' => ?_, ?_⟩; (focus (obtain ⟨hc', hf'⟩ := exc_cells hb'; clear hb'; go_simp; try exact rfl)); have e0 : True := trivial; clear e0; refine mix_putK ?_; intro K hK; go_simp; refine hK _ ?_; clear hK K)
      | (refine mix_pureE rfl rfl ?_; apply Exists.intro; refine ⟨fun w' => ?_, ?_⟩; (focus (first | (fail) | (go_simp; try exact rfl))); have e0 : True := trivial; clear e0; refine mix_putK ?_; intro K hK; go_simp; refine hK _ ?_; clear hK K)
      | (refine mix_eff rfl rfl ?_; go_wp2_with ((go_at_call 23; refine (HSS.out _ (Exc.drew (Exc.refl _ _))).mono ?_; rintro e w7 ⟨rfl, hb7⟩; have hb7 : Below w6.heap.size w6 w7 := Below.trans (Below.refl _ w6).drew hb7; have hE7 : Exc (fun _ => False) w6 w7 := Exc.of_belowS hb7; have hz7 := hb7.size; have e0 : w7.cell? ⟨w.heap.size + 1, 0, none⟩ = some (.int .i64 ta) := (hb7.cell (p := ⟨w.heap.size + 1, 0, none⟩) dl).trans d0; have e1 : w7.cell? ⟨w.heap.size + 1, 1, none⟩ = some (.int .i64 tb) := (hb7.cell (p := ⟨w.heap.size + 1, 1, none⟩) dl).trans d1; have e2 : w7.cell? ⟨w.heap.size + 1, 2, none⟩ = some (.int .i64 td) := (hb7.cell (p := ⟨w.heap.size + 1, 2, none⟩) dl).trans d2; have k0 : w7.frozen? ⟨w.heap.size + 1, 0, none⟩ = false := (hb7.frozen (p := ⟨w.heap.size + 1, 0, none⟩) dl).trans f0; have k1 : w7.frozen? ⟨w.heap.size + 1, 1, none⟩ = false := (hb7.frozen (p := ⟨w.heap.size + 1, 1, none⟩) dl).trans f1; have k2 : w7.frozen? ⟨w.heap.size + 1, 2, none⟩ = false := (hb7.frozen (p := ⟨w.heap.size + 1, 2, none⟩) dl).trans f2)); refine then_mix rfl ?_ ?_; (focus (first | (intro h; have h2 : false = true := h; cases h2) | (intro _; assumption) | (intro _; repeat (first | assumption | (with_reducible exact Exc.refl _ _) | (with_reducible refine Exc.drew ?_) | (with_reducible refine Exc.alloc ?_ _) | (with_reducible refine Exc.setC ?_ ?_ _; focus (simp))))))))
    refine mix_nil ?_
    obtain ⟨w8, hw8⟩ : ∃ v, v = ((w7.setCell ⟨w.heap.size + 1, 0, none⟩ (.int .i64 (stN ta tb td (S k).n (S k).z))).setCell ⟨w.heap.size + 1, 1, none⟩ (.int .i64 (stX ta tb td (S k).n (S k).z))).setCell ⟨w.heap.size + 1, 2, none⟩ (.int .i64 (stW ta tb td (S k).n (S k).z)) := ⟨_, rfl⟩
    rw [← hw8]
    have hsp8 : SpAt w8 (w.heap.size + 1) (runT S (k + 1)) := by
      rw [HT1.out, hw8]
      exact SpAt.put (HSP6.out.exc (X := fun _ => False) hE7 (fun h => h))
    have n8 : w8.cell? ⟨w.heap.size + 1, 0, none⟩ = some (.int .i64 (runT S (k + 1)).1) := hsp8.1
    have hG8 : w7.grownBy w8 (some (w.heap.size + 1)) := by
      rw [hw8]
      exact ((grown_setCell w7 ⟨w.heap.size + 1, 0, none⟩ _).trans (grown_setCell _ ⟨w.heap.size + 1, 1, none⟩ _)).trans (grown_setCell _ ⟨w.heap.size + 1, 2, none⟩ _)
    have hs8 : w8.heap.size = w7.heap.size := by rw [hw8]; simp [World.setCell]
    have hl8 : w.heap.size + 1 < w8.heap.size := hsp8.2.2.2.2
    have hl8b : w.heap.size < w8.heap.size := by omega
    have HO8 := Lib.hid (show OwnI w8 w.heap.size w8.heap.size B k cb (atLS (runL S k)) from OwnI.wide (OwnI.congr (RowOwn.apartR7 (r := some (w.heap.size + 1)) (fun g hg e => by cases hg; exact HD.out e) ((HO6.out.below (Nat.le_refl _) hb7).wide (Nat.le_refl _) hz7) hG8) (fun _ _ => rfl)) (Nat.le_refl _) (Nat.le_of_eq hs8.symm))
    have HB8 := Lib.hid ((HB6.out.trans (hb7.mono (by omega))).grown hG8 (by omega) (fun g hg => by cases hg; omega))
    have HS8 := Lib.hid hsp8
    clear hw8 hsp8 hG8 hs8 hb7 hE7 e0 e1 e2 k0 k1 k2 d0 d1 d2 f0 f1 f2 dl ck HO6 HSP6 HB6
    go_upto_region 5 with (at_builtin; go_loud (refine wpList_rowAppendN _ rfl (.tmp 44) (.tmp 47) _ rfl 3 i1 _ 1 8 Try.underlying25 r1 r2 r3 r4 rfl (by decide) w.heap.size _ B k cb (intV (atLS (runL S k))) rfl (RowOwn.alloc HO8.out _) _ _ _ 1 1 _ rfl (one_row _ _ _) (k + 1) rfl ?_ (by unfold maxLen; omega) (by omega) (by simp; omega) ?_); (focus (intro i hi; rfl)); intro B9 cb9 w9 hO9 hG9 hL9)
    have hz9 := hG9.size
    simp at hz9
    have HO9 := Lib.hid (show OwnI w9 w.heap.size w9.heap.size B9 (k + 1) cb9 (atLS (runL S (k + 1))) from snoc_LS (runL_len S k) hO9)
    have HS9 := Lib.hid ((HS8.out.exc (X := fun _ => False) ((Exc.refl _ w8).alloc (.cells #[.int .i64 (runT S (k + 1)).1] 3)) (fun h => h)).only hG9 HD.out)
    have HD9 := Lib.hid (show (Value.slice B9 (k + 1) cb9).ownBlock ≠ some (w.heap.size + 1) by
      rcases hL9 with h | h
      · rw [h]; exact HD.out
      · rw [h]; intro e; injection e with e; simp at e; omega)
    have HB9 := Lib.hid ((HB8.out.alloc (by omega) _).grown hG9 (by simp; omega) (fun g hg => (HO8.out.1.lt g hg).1))
    clear hO9 hG9 hL9 HO8 HS8 HB8 n8
    go_wp2_with fail
    go_roundw
    case rel => exact ⟨k + 1, B9, cb9, by omega, by go_num, rfl, HO9, HS9, HD9, Lib.hid ⟨fun _ => h20', HOK.out.2⟩, HB9⟩
    case measure => simp [intOf]; omega
end Go.Proofs.Ytcdpalpoanlbmaa
