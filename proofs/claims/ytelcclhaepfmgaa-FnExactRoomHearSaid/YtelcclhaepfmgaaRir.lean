/- Rooms: who gets what a member sends, by the program. -/
import Derived.Test.YtelcclhaepfmgaaRih
import Derived.Test.YtelcclhaepfmgaaRil
namespace Go.Proofs.Ytelcclhaepfmgaa
open Go Go.RowKit Go.Maps
set_option linter.unusedVariables false
set_option linter.unusedSimpArgs false
theorem Hgd.of_lt {w : World} {b m : Nat} {T : Int → List Int} {V : Value} (h : Hg w b m T) (hV : ∀ g, V.ownBlock = some g → g ≤ b) : Hgd w b m T V :=
  let ⟨A, c, h1⟩ := h; ⟨A, c, h1, fun v g hg e => by have h2 := ((h1.2 v).1.lt g hg).1; have h3 := hV g e; omega⟩
set_option maxRecDepth 100000 in
set_option maxHeartbeats 8000000 in
theorem irt_any (w : World) (lo hi : Nat) (A : Option Addr) (n c : Nat) (M : Nat → Mb) (id : Int) (h : Room w lo hi A n M) (hi' : hi ≤ w.heap.size) (hn : n ≤ 1048576) (hb : ∀ i, i < n → (M i).p.n ≤ 1048576) :
    Calls Try.prog 25 #[.slice A n c, .int .i64 id] w (IntsRet (routeL n (plain M) id) w) := by
  obtain ⟨i1, r1, r2, r3, r4⟩ := info_parts info_int
  have hv := fun W (hw : Below w.heap.size w W) => irv_any W lo hi A n c M (h.below hi' hw) (Nat.le_trans hi' hw.size) hn hb
  have HP := Lib.hid (fun W (hw : Below w.heap.size w W) => placeOf_any W lo hi A n c id M (h.1.below hi' hw) (Nat.le_trans hi' hw.size) hn)
  have H := Lib.hid h
  have HBD := Lib.hid hb
  clear h hb
  by_cases h1 : RmOk n (plain M)
  rotate_left
  · rw [show routeL n (plain M) id = [] from if_neg (fun h => h1 h.1)]
    rw [show rmB n (plain M) = false from decide_eq_false h1] at hv
    have HV := Lib.hid hv
    clear hv h1
    go_enter Try.func25, Try.ntmps25
    go_wp2_with fail
    refine (HV.out _ ?_).mono ?_
    focus (repeat (first | (with_reducible exact Below.refl _ _) | (with_reducible refine Bal ?_ _) | (with_reducible refine Below.drew ?_) | (with_reducible refine below_drewN ?_ _) | (with_reducible refine Bset ?_ ?_ _; focus (first | (with_reducible exact Nat.le_refl _) | (simp; done) | (simp; omega) | omega)) | (with_reducible refine Bt ?_ (by assumption)) | (with_reducible refine Bp (g := g) ?_ (by assumption) (by assumption))))
    rintro e w1 ⟨rfl, hb1⟩
    have HB1 := Lib.hid (show Below w.heap.size w w1 by repeat (first | (with_reducible exact Below.refl _ _) | (with_reducible refine Bal ?_ _) | (with_reducible refine Below.drew ?_) | (with_reducible refine below_drewN ?_ _) | (with_reducible refine Bset ?_ ?_ _; focus (first | (with_reducible exact Nat.le_refl _) | (simp; done) | (simp; omega) | omega)) | (with_reducible refine Bt ?_ (by assumption)) | (with_reducible refine Bp (g := g) ?_ (by assumption) (by assumption))))
    have hz1 := hb1.size
    try simp at hz1
    have HO1 := Lib.hid (show OwnI w1 w.heap.size w1.heap.size (some ⟨w.heap.size, 0, none⟩) 0 0 (atL []) from ((empty_row w 3 1 (intV (atL []))).below (B := w.heap.size + 1) (Nat.le_refl _) (by simpa using hb1)).wide (Nat.le_refl _) (by omega))
    clear hb1
    go_wp2_with fail
    go_ret
    exact ⟨_, 0, HO1.out, rfl, HB1.out⟩
  rw [show rmB n (plain M) = true from decide_eq_true h1] at hv
  have HV := Lib.hid hv
  have hr := okM_iff.1 h1
  have HR := Lib.hid hr
  have HWF := Lib.hid (fun i (hi : i < n) => wf_id (hr.rng i hi))
  have hn6 := hr.six
  clear hv hr
  by_cases h2 : atR (plain M) id n < n
  rotate_left
  · rw [show routeL n (plain M) id = [] from if_neg (fun h => h2 h.2.1)]
    have hpv : placeI n (plain M) id = -1 := if_neg h2
    clear h1 h2
    go_enter Try.func25, Try.ntmps25
    go_wp2_with fail
    refine (HV.out _ ?_).mono ?_
    focus (repeat (first | (with_reducible exact Below.refl _ _) | (with_reducible refine Bal ?_ _) | (with_reducible refine Below.drew ?_) | (with_reducible refine below_drewN ?_ _) | (with_reducible refine Bset ?_ ?_ _; focus (first | (with_reducible exact Nat.le_refl _) | (simp; done) | (simp; omega) | omega)) | (with_reducible refine Bt ?_ (by assumption)) | (with_reducible refine Bp (g := g) ?_ (by assumption) (by assumption))))
    rintro e w1 ⟨rfl, hb1⟩
    have HB1 := Lib.hid (show Below w.heap.size w w1 by repeat (first | (with_reducible exact Below.refl _ _) | (with_reducible refine Bal ?_ _) | (with_reducible refine Below.drew ?_) | (with_reducible refine below_drewN ?_ _) | (with_reducible refine Bset ?_ ?_ _; focus (first | (with_reducible exact Nat.le_refl _) | (simp; done) | (simp; omega) | omega)) | (with_reducible refine Bt ?_ (by assumption)) | (with_reducible refine Bp (g := g) ?_ (by assumption) (by assumption))))
    have hz1 := hb1.size
    try simp at hz1
    have HO1 := Lib.hid (show OwnI w1 w.heap.size w1.heap.size (some ⟨w.heap.size, 0, none⟩) 0 0 (atL []) from ((empty_row w 3 1 (intV (atL []))).below (B := w.heap.size + 1) (Nat.le_refl _) (by simpa using hb1)).wide (Nat.le_refl _) (by omega))
    clear hb1
    go_wp2_with fail
    refine (HP.out _ HB1.out).mono ?_
    rintro e w2 ⟨rfl, hb2⟩
    rw [hpv]
    have HB2 := Lib.hid (show Below w.heap.size w w2 from HB1.out.trans (hb2.mono HB1.out.size))
    have hz2 := HB2.out.size
    have HO2 := Lib.hid ((HO1.out.below (Nat.le_refl _) hb2).wide (Nat.le_refl _) hb2.size)
    have HR2 := Lib.hid (H.out.1.below hi' HB2.out)
    have hzs : w.heap.size < w2.heap.size := by have := hb2.size; omega
    clear hb2 HB1 hz1 HO1
    go_wp2_with fail
    go_ret
    exact ⟨_, 0, HO2.out, rfl, HB2.out⟩
  obtain ⟨a, hae⟩ : ∃ a, atR (plain M) id n = a := ⟨_, rfl⟩
  have hpv : placeI n (plain M) id = ((a : Nat) : Int) := by rw [← hae]; exact if_pos h2
  by_cases h3 : (M a).p.s = true
  rotate_left
  · rw [show routeL n (plain M) id = [] from if_neg (fun h => h3 (by have := h.2.2; rw [hae] at this; exact this))]
    rw [hae] at h2
    have h3 : (M a).p.s = false := by simpa using h3
    clear h1 hae
    go_enter Try.func25, Try.ntmps25
    go_wp2_with fail
    refine (HV.out _ ?_).mono ?_
    focus (repeat (first | (with_reducible exact Below.refl _ _) | (with_reducible refine Bal ?_ _) | (with_reducible refine Below.drew ?_) | (with_reducible refine below_drewN ?_ _) | (with_reducible refine Bset ?_ ?_ _; focus (first | (with_reducible exact Nat.le_refl _) | (simp; done) | (simp; omega) | omega)) | (with_reducible refine Bt ?_ (by assumption)) | (with_reducible refine Bp (g := g) ?_ (by assumption) (by assumption))))
    rintro e w1 ⟨rfl, hb1⟩
    have HB1 := Lib.hid (show Below w.heap.size w w1 by repeat (first | (with_reducible exact Below.refl _ _) | (with_reducible refine Bal ?_ _) | (with_reducible refine Below.drew ?_) | (with_reducible refine below_drewN ?_ _) | (with_reducible refine Bset ?_ ?_ _; focus (first | (with_reducible exact Nat.le_refl _) | (simp; done) | (simp; omega) | omega)) | (with_reducible refine Bt ?_ (by assumption)) | (with_reducible refine Bp (g := g) ?_ (by assumption) (by assumption))))
    have hz1 := hb1.size
    try simp at hz1
    have HO1 := Lib.hid (show OwnI w1 w.heap.size w1.heap.size (some ⟨w.heap.size, 0, none⟩) 0 0 (atL []) from ((empty_row w 3 1 (intV (atL []))).below (B := w.heap.size + 1) (Nat.le_refl _) (by simpa using hb1)).wide (Nat.le_refl _) (by omega))
    clear hb1
    go_wp2_with fail
    refine (HP.out _ HB1.out).mono ?_
    rintro e w2 ⟨rfl, hb2⟩
    rw [hpv]
    have HB2 := Lib.hid (show Below w.heap.size w w2 from HB1.out.trans (hb2.mono HB1.out.size))
    have hz2 := HB2.out.size
    have HO2 := Lib.hid ((HO1.out.below (Nat.le_refl _) hb2).wide (Nat.le_refl _) hb2.size)
    have HR2 := Lib.hid (H.out.1.below hi' HB2.out)
    have hzs : w.heap.size < w2.heap.size := by have := hb2.size; omega
    clear hb2 HB1 hz1 HO1
    obtain ⟨b, off, rfl, _, hb2, c0, c1, c2⟩ := Mb_at HR2.out h2
    rw [h3] at c1
    have hbw : b < w2.heap.size := by omega
    have hao : (0 : Int) ≤ (a : Int) := by omega
    go_wp2_with fail
    go_ret
    exact ⟨_, 0, HO2.out, rfl, HB2.out⟩
  rw [show routeL n (plain M) id = rtL (plain M) id n from if_pos ⟨h1, h2, by rw [hae]; exact h3⟩]
  rw [hae] at h2
  clear h1 hae
  go_enter Try.func25, Try.ntmps25
  go_wp2_with fail
  refine (HV.out _ ?_).mono ?_
  focus (repeat (first | (with_reducible exact Below.refl _ _) | (with_reducible refine Bal ?_ _) | (with_reducible refine Below.drew ?_) | (with_reducible refine below_drewN ?_ _) | (with_reducible refine Bset ?_ ?_ _; focus (first | (with_reducible exact Nat.le_refl _) | (simp; done) | (simp; omega) | omega)) | (with_reducible refine Bt ?_ (by assumption)) | (with_reducible refine Bp (g := g) ?_ (by assumption) (by assumption))))
  rintro e w1 ⟨rfl, hb1⟩
  have HB1 := Lib.hid (show Below w.heap.size w w1 by repeat (first | (with_reducible exact Below.refl _ _) | (with_reducible refine Bal ?_ _) | (with_reducible refine Below.drew ?_) | (with_reducible refine below_drewN ?_ _) | (with_reducible refine Bset ?_ ?_ _; focus (first | (with_reducible exact Nat.le_refl _) | (simp; done) | (simp; omega) | omega)) | (with_reducible refine Bt ?_ (by assumption)) | (with_reducible refine Bp (g := g) ?_ (by assumption) (by assumption))))
  have hz1 := hb1.size
  try simp at hz1
  have HO1 := Lib.hid (show OwnI w1 w.heap.size w1.heap.size (some ⟨w.heap.size, 0, none⟩) 0 0 (atL []) from ((empty_row w 3 1 (intV (atL []))).below (B := w.heap.size + 1) (Nat.le_refl _) (by simpa using hb1)).wide (Nat.le_refl _) (by omega))
  clear hb1
  go_wp2_with fail
  refine (HP.out _ HB1.out).mono ?_
  rintro e w2 ⟨rfl, hb2⟩
  rw [hpv]
  have HB2 := Lib.hid (show Below w.heap.size w w2 from HB1.out.trans (hb2.mono HB1.out.size))
  have hz2 := HB2.out.size
  have HO2 := Lib.hid ((HO1.out.below (Nat.le_refl _) hb2).wide (Nat.le_refl _) hb2.size)
  have HR2 := Lib.hid (H.out.1.below hi' HB2.out)
  have hzs : w.heap.size < w2.heap.size := by have := hb2.size; omega
  clear hb2 HB1 hz1 HO1
  obtain ⟨b, off, rfl, _, hb2, c0, c1, c2⟩ := Mb_at HR2.out h2
  rw [h3] at c1
  have hbw : b < w2.heap.size := by omega
  have hao : (0 : Int) ≤ (a : Int) := by omega
  go_wp2_with fail
  refine (inew_any w2 lo hi _ n c M (H.out.below hi' HB2.out) (by omega) hn HBD.out HWF.out).mono ?_
  rintro e w3 ⟨rfl, hT3, hb3⟩
  have HT3 := Lib.hid hT3
  have hz3 := hT3.lt
  have HB3 := Lib.hid (HB2.out.trans (hb3.mono hz2))
  have HO3 := Lib.hid ((HO2.out.below (Nat.le_refl _) hb3).wide (Nat.le_refl _) hb3.size)
  have hV2 : w2.heap.size ≤ w2.heap.size := Nat.le_refl _
  clear hT3 hb3 c0 c1 c2 HO2 HR2 hao
  go_wp2_with fail
  go_loopw [5, 33] (fun s i wr => ∃ (k L : Nat) (B : Option Addr) (cb : Nat), k ≤ n ∧ i = .int .i64 (k : Nat) ∧ s = .slice B L cb ∧ Hid (L = (rtL (plain M) id k).length) ∧ Hid (OwnI wr w.heap.size wr.heap.size B L cb (atL (rtL (plain M) id k))) ∧ Hid (Hgd wr w2.heap.size n (hL (plain M) n) (.slice B L cb)) ∧ Hid (∀ g, (Value.slice B L cb).ownBlock = some g → g ≠ w2.heap.size) ∧ Hid (Below w.heap.size w wr)) (fun _ i _ => n - (intOf i).toNat)
  case atStart => exact ⟨0, 0, _, 0, Nat.zero_le _, rfl, rfl, Lib.hid rfl, HO3, Lib.hid (Hgd.of_lt HT3.out (fun g hg => by cases hg; show w.heap.size ≤ w2.heap.size; omega)), Lib.hid (fun g hg => by cases hg; show w.heap.size ≠ w2.heap.size; omega), HB3⟩
  case round =>
    obtain ⟨k, L, B, cb, hk, rfl, rfl, HL, HO, HT, HNE, HB⟩ := hrel
    clear HO3 HT3 HB3
    have hws := HB.out.size
    have hbT := HT.out.hg.lt
    by_cases hkn : k < n
    rotate_left
    · obtain rfl : k = n := by omega
      have eL := HL.out
      subst eL
      go_wp2_with fail
      go_ret
      exact ⟨B, cb, HO.out, rfl, HB.out⟩
    have hLn : L ≤ 6 := by have := rtL_len (plain M) id k; have e := HL.out; omega
    have HRW := Lib.hid (H.out.1.below hi' HB.out)
    obtain ⟨b2, off2, hAe, _, hb22, c0, c1, c2⟩ := Mb_at HRW.out hkn
    injection hAe with hAe
    injection hAe with e1 e2 e3
    subst e1 e2
    have hbw2 : b < wr.heap.size := by omega
    go_upto_region 11 with fail
    obtain ⟨wm, hwm⟩ : ∃ v, v = wr.alloc (.cells #[.int .i64 (M k).p.id, .bool (M k).p.s, .slice (M k).A (M k).p.n (M k).c] 28) := ⟨_, rfl⟩
    rw [← hwm]
    have hbm : Below wr.heap.size wr wm := by rw [hwm]; exact Ba _ _
    have hzm : wr.heap.size < wm.heap.size := by rw [hwm]; simp
    have g0 : wm.cell? ⟨wr.heap.size, 0, none⟩ = some (.int .i64 (M k).p.id) := by rw [hwm]; go_simp; try rfl
    clear hwm
    have HBm := Lib.hid (HB.out.trans (hbm.mono hws))
    have HOm := Lib.hid ((HO.out.below (Nat.le_refl _) hbm).wide (Nat.le_refl _) (by omega : wr.heap.size ≤ wm.heap.size))
    have HTm := Lib.hid (HT.out.below hbm)
    clear hbm HO HT HB HRW c0 c1 c2
    go_wp2_with fail
    have hh : Calls Try.prog 55 #[.map (some w2.heap.size), .int .i64 (M k).p.id, .int .i64 id] wm fun e w' => e = .returned (.bool (hasB (M k).p.n (M k).p.z id)) ∧ Below wm.heap.size wm w' := by
      obtain ⟨TA, Tc, hT, _⟩ := HTm.out
      have e1 : hL (plain M) n (M k).p.id = lz (M k).p := HR.out.hL hkn
      have hx := ihears_any wm (w2.heap.size + 1) wm.heap.size w2.heap.size n _ (TA (M k).p.id) (hL (plain M) n (M k).p.id).length (Tc (M k).p.id) (M k).p.id id (atL (hL (plain M) n (M k).p.id)) hT.1 (HWF.out k hkn) rfl (hT.2 (M k).p.id).ints (Nat.le_refl _) (by rw [e1, lz_len]; exact HBD.out k hkn)
      rw [hasB_at, e1, ← hasB_lz] at hx
      exact hx
    obtain ⟨hs, hse⟩ : ∃ v, v = hasB (M k).p.n (M k).p.z id := ⟨_, rfl⟩
    rw [← hse] at hh
    refine hh.mono ?_
    clear hh
    rintro e w5 ⟨rfl, hb5⟩
    have g0 : w5.cell? ⟨wr.heap.size, 0, none⟩ = some (.int .i64 (M k).p.id) := (hb5.cell (p := ⟨wr.heap.size, 0, none⟩) hzm).trans g0
    have hz5 := hb5.size
    have HT5 := Lib.hid (HTm.out.below hb5)
    have HO5 := Lib.hid ((HOm.out.below (Nat.le_refl _) hb5).wide (Nat.le_refl _) hz5)
    have HB5 := Lib.hid (HBm.out.trans (hb5.mono (by omega)))
    clear hb5 HTm HOm HBm
    cases hs
    · have HE := Lib.hid (show rtL (plain M) id (k + 1) = rtL (plain M) id k from if_neg (fun e => by have := hse.trans e; cases this))
      clear hse
      go_wp2_with fail
      go_roundw
      case rel =>
        have e := HE.out
        refine ⟨k + 1, L, B, cb, by omega, by go_num, rfl, ?_, ?_, HT5, HNE, HB5⟩
        · rw [e]; exact HL
        · rw [e]; exact HO5
      case measure => simp [intOf]; omega
    · have HE := Lib.hid (show rtL (plain M) id (k + 1) = rtL (plain M) id k ++ [(M k).p.id] from if_pos hse.symm)
      clear hse
      have hlo : w.heap.size ≤ w5.heap.size := by omega
      go_upto_region 13 with (at_builtin; go_loud (refine wpList_rowAppendN _ rfl (.tmp 42) (.tmp 45) _ rfl 3 i1 _ 1 8 Try.underlying26 r1 r2 r3 r4 rfl (by decide) w.heap.size _ B L cb (intV (atL (rtL (plain M) id k))) rfl (RowOwn.alloc HO5.out _) _ _ _ 1 1 _ rfl (one_row _ _ _) (L + 1) rfl ?_ (by unfold maxLen; omega) (by omega) (by simp; omega) ?_); (focus (intro i hi; rfl)); intro B6 cb6 w6 hO6 hG6 hL6)
      have hz6 := hG6.size
      simp at hz6
      have HO6 := Lib.hid (show OwnI w6 w.heap.size w6.heap.size B6 (L + 1) cb6 (atL (rtL (plain M) id (k + 1))) by
        have e := HE.out
        have e2 := HL.out
        have h9 := snoc_L (l := rtL (plain M) id k) (x := (M k).p.id) (N := L + 1) (by omega) (by rw [← e2]; exact hO6)
        rw [e]
        rw [show (rtL (plain M) id k ++ [(M k).p.id]).length = L + 1 by simp; omega] at h9
        exact h9)
      have HB6 := Lib.hid (show Below w.heap.size w w6 from (HB5.out.alloc hlo _).grown hG6 (by simp; omega) (fun g hg => (HO5.out.1.lt g hg).1))
      have HT6 := Lib.hid (HT5.out.grown (V' := .slice B6 (L + 1) cb6) HNE.out hG6 hL6)
      have HN6 := Lib.hid (show ∀ g, (Value.slice B6 (L + 1) cb6).ownBlock = some g → g ≠ w2.heap.size from fun g hg => by
        rcases hL6 with h | h
        · rw [h] at hg; exact HNE.out g hg
        · rw [h] at hg; cases hg; simp; omega)
      clear hO6 hG6 hL6 HO5 HT5 HB5
      go_wp2_with fail
      go_roundw
      case rel =>
        refine ⟨k + 1, L + 1, B6, cb6, by omega, by go_num, rfl, Lib.hid ?_, HO6, HT6, HN6, HB6⟩
        have e := HE.out
        have e2 := HL.out
        rw [e, e2]; simp
      case measure => simp [intOf]; omega
end Go.Proofs.Ytelcclhaepfmgaa
