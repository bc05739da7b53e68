/- Rooms: who gets what a member sends, by the reference. -/
import Derived.Test.YtelcclhaepfmgaaRsm
namespace Go.Proofs.Ytelcclhaepfmgaa
open Go Go.RowKit
set_option linter.unusedVariables false
set_option linter.unusedSimpArgs false
/-- Who hears v. -/
def rtL (r : Nat → Mm) (v : Int) : Nat → List Int
  | 0 => []
  | n + 1 => if hasB (r n).n (r n).z v = true then rtL r v n ++ [(r n).id] else rtL r v n
theorem rtL_len (r : Nat → Mm) (v : Int) : ∀ n, (rtL r v n).length ≤ n
  | 0 => Nat.le_refl _
  | n + 1 => by
    have := rtL_len r v n
    unfold rtL
    split
    · simp; omega
    · omega
def routeOk (n : Nat) (r : Nat → Mm) (id : Int) : Prop := RmOk n r ∧ atR r id n < n ∧ (r (atR r id n)).s = true
instance (n : Nat) (r : Nat → Mm) (id : Int) : Decidable (routeOk n r id) := inferInstanceAs (Decidable (_ ∧ _ ∧ _))
def routeL (n : Nat) (r : Nat → Mm) (id : Int) : List Int := if routeOk n r id then rtL r id n else []
def IntsRet (L : List Int) (w : World) (e : Ending) (w' : World) : Prop := ∃ B cb, OwnI w' w.heap.size w'.heap.size B L.length cb (atL L) ∧ e = .returned (.slice B L.length cb) ∧ Below w.heap.size w w'
set_option maxRecDepth 100000 in
set_option maxHeartbeats 8000000 in
theorem srt_any (w : World) (lo hi : Nat) (A : Option Addr) (n c : Nat) (M : Nat → Mb) (id : Int) (h : Room w lo hi A n M) (hi' : hi ≤ w.heap.size) (hn : n ≤ 1048576) (hb : ∀ i, i < n → (M i).p.n ≤ 1048576) :
    Calls Try.prog 26 #[.slice A n c, .int .i64 id] w (IntsRet (routeL n (plain M) id) w) := by
  obtain ⟨i1, r1, r2, r3, r4⟩ := info_parts info_int
  have hv := fun W (hw : Below w.heap.size w W) => srv_any W lo hi A n c M (h.below hi' hw) (Nat.le_trans hi' hw.size) hn hb
  have HP := Lib.hid (fun W (hw : Below w.heap.size w W) => l31At_any W lo hi A n c id M (h.1.below hi' hw) (Nat.le_trans hi' hw.size) hn)
  have hh := fun k (hk : k < n) W (hw : Below w.heap.size w W) => l31Has_any W lo hi (M k).A (M k).p.n (M k).c id (M k).p.z ((h.2 k hk).below hi' hw) (Nat.le_trans hi' hw.size) (hb k hk)
  have HH := Lib.hid hh
  have H := Lib.hid h
  clear h hh
  by_cases h1 : RmOk n (plain M)
  rotate_left
  · rw [show routeL n (plain M) id = [] from if_neg (fun h => h1 h.1)]
    rw [show rmB n (plain M) = false from decide_eq_false h1] at hv
    have HV := Lib.hid hv
    obtain ⟨pv, hpv⟩ : ∃ v, placeI n (plain M) id = v := ⟨_, rfl⟩
    clear hv h1
    go_enter Try.func26, Try.ntmps26
    go_wp2_with fail
    refine (HP.out _ ?_).mono ?_
    focus (repeat (first | (with_reducible exact Below.refl _ _) | (with_reducible refine Bal ?_ _) | (with_reducible refine Below.drew ?_) | (with_reducible refine below_drewN ?_ _) | (with_reducible refine Bset ?_ ?_ _; focus (first | (with_reducible exact Nat.le_refl _) | (simp; done) | (simp; omega) | omega)) | (with_reducible refine Bt ?_ (by assumption)) | (with_reducible refine Bp (g := g) ?_ (by assumption) (by assumption))))
    rintro e w1 ⟨rfl, hb1⟩
    rw [hpv]
    have hz1 := hb1.size
    try simp at hz1
    have HB1 := Lib.hid (show Below w.heap.size w w1 by repeat (first | (with_reducible exact Below.refl _ _) | (with_reducible refine Bal ?_ _) | (with_reducible refine Below.drew ?_) | (with_reducible refine below_drewN ?_ _) | (with_reducible refine Bset ?_ ?_ _; focus (first | (with_reducible exact Nat.le_refl _) | (simp; done) | (simp; omega) | omega)) | (with_reducible refine Bt ?_ (by assumption)) | (with_reducible refine Bp (g := g) ?_ (by assumption) (by assumption))))
    have HO1 := Lib.hid (show OwnI w1 w.heap.size w1.heap.size (some ⟨w.heap.size, 0, none⟩) 0 0 (atL []) from ((empty_row w 3 1 (intV (atL []))).below (B := w.heap.size + 1) (Nat.le_refl _) (by simpa using hb1)).wide (Nat.le_refl _) (by omega))
    clear hb1
    go_wp2_with fail
    refine (HV.out _ HB1.out).mono ?_
    rintro e w2 ⟨rfl, hb2⟩
    have hz2 := hb2.size
    have HO2 := Lib.hid ((HO1.out.below (Nat.le_refl _) hb2).wide (Nat.le_refl _) hz2)
    have HB2 := Lib.hid (HB1.out.trans (hb2.mono HB1.out.size))
    clear hb2 HO1 HB1
    go_wp2_with fail
    go_ret
    exact ⟨some ⟨w.heap.size, 0, none⟩, 0, HO2.out, rfl, HB2.out⟩
  rw [show rmB n (plain M) = true from decide_eq_true h1] at hv
  have HV := Lib.hid hv
  clear hv
  by_cases h2 : atR (plain M) id n < n
  rotate_left
  · rw [show routeL n (plain M) id = [] from if_neg (fun h => h2 h.2.1)]
    have hpv : placeI n (plain M) id = -1 := if_neg h2
    clear h1 h2
    go_enter Try.func26, Try.ntmps26
    go_wp2_with fail
    refine (HP.out _ ?_).mono ?_
    focus (repeat (first | (with_reducible exact Below.refl _ _) | (with_reducible refine Bal ?_ _) | (with_reducible refine Below.drew ?_) | (with_reducible refine below_drewN ?_ _) | (with_reducible refine Bset ?_ ?_ _; focus (first | (with_reducible exact Nat.le_refl _) | (simp; done) | (simp; omega) | omega)) | (with_reducible refine Bt ?_ (by assumption)) | (with_reducible refine Bp (g := g) ?_ (by assumption) (by assumption))))
    rintro e w1 ⟨rfl, hb1⟩
    rw [hpv]
    have hz1 := hb1.size
    try simp at hz1
    have HB1 := Lib.hid (show Below w.heap.size w w1 by repeat (first | (with_reducible exact Below.refl _ _) | (with_reducible refine Bal ?_ _) | (with_reducible refine Below.drew ?_) | (with_reducible refine below_drewN ?_ _) | (with_reducible refine Bset ?_ ?_ _; focus (first | (with_reducible exact Nat.le_refl _) | (simp; done) | (simp; omega) | omega)) | (with_reducible refine Bt ?_ (by assumption)) | (with_reducible refine Bp (g := g) ?_ (by assumption) (by assumption))))
    have HO1 := Lib.hid (show OwnI w1 w.heap.size w1.heap.size (some ⟨w.heap.size, 0, none⟩) 0 0 (atL []) from ((empty_row w 3 1 (intV (atL []))).below (B := w.heap.size + 1) (Nat.le_refl _) (by simpa using hb1)).wide (Nat.le_refl _) (by omega))
    clear hb1
    go_wp2_with fail
    refine (HV.out _ HB1.out).mono ?_
    rintro e w2 ⟨rfl, hb2⟩
    have hz2 := hb2.size
    have HO2 := Lib.hid ((HO1.out.below (Nat.le_refl _) hb2).wide (Nat.le_refl _) hz2)
    have HB2 := Lib.hid (HB1.out.trans (hb2.mono HB1.out.size))
    clear hb2 HO1 HB1
    go_wp2_with fail
    go_ret
    exact ⟨some ⟨w.heap.size, 0, none⟩, 0, HO2.out, rfl, HB2.out⟩
  obtain ⟨a, ha⟩ : ∃ a, atR (plain M) id n = a := ⟨_, rfl⟩
  have hpv : placeI n (plain M) id = (a : Nat) := by unfold placeI; rw [if_pos h2, ha]
  rw [ha] at h2
  cases h3 : (M a).p.s
  · rw [show routeL n (plain M) id = [] from if_neg (fun h => by have e := h.2.2; rw [ha] at e; exact absurd (h3.symm.trans e) (by decide))]
    clear h1 ha
    go_enter Try.func26, Try.ntmps26
    go_wp2_with fail
    refine (HP.out _ ?_).mono ?_
    focus (repeat (first | (with_reducible exact Below.refl _ _) | (with_reducible refine Bal ?_ _) | (with_reducible refine Below.drew ?_) | (with_reducible refine below_drewN ?_ _) | (with_reducible refine Bset ?_ ?_ _; focus (first | (with_reducible exact Nat.le_refl _) | (simp; done) | (simp; omega) | omega)) | (with_reducible refine Bt ?_ (by assumption)) | (with_reducible refine Bp (g := g) ?_ (by assumption) (by assumption))))
    rintro e w1 ⟨rfl, hb1⟩
    rw [hpv]
    have hz1 := hb1.size
    try simp at hz1
    have HB1 := Lib.hid (show Below w.heap.size w w1 by repeat (first | (with_reducible exact Below.refl _ _) | (with_reducible refine Bal ?_ _) | (with_reducible refine Below.drew ?_) | (with_reducible refine below_drewN ?_ _) | (with_reducible refine Bset ?_ ?_ _; focus (first | (with_reducible exact Nat.le_refl _) | (simp; done) | (simp; omega) | omega)) | (with_reducible refine Bt ?_ (by assumption)) | (with_reducible refine Bp (g := g) ?_ (by assumption) (by assumption))))
    have HO1 := Lib.hid (show OwnI w1 w.heap.size w1.heap.size (some ⟨w.heap.size, 0, none⟩) 0 0 (atL []) from ((empty_row w 3 1 (intV (atL []))).below (B := w.heap.size + 1) (Nat.le_refl _) (by simpa using hb1)).wide (Nat.le_refl _) (by omega))
    clear hb1
    go_wp2_with fail
    refine (HV.out _ HB1.out).mono ?_
    rintro e w2 ⟨rfl, hb2⟩
    have hz2 := hb2.size
    have HO2 := Lib.hid ((HO1.out.below (Nat.le_refl _) hb2).wide (Nat.le_refl _) hz2)
    have HB2 := Lib.hid (HB1.out.trans (hb2.mono HB1.out.size))
    clear hb2 HO1 HB1
    obtain ⟨b, off, rfl, _, hbl, c0, c1, c2⟩ := Mb_at (H.out.1.below hi' HB2.out) h2
    rw [h3] at c1
    have hbw : b < w2.heap.size := by omega
    go_wp2_with fail
    go_ret
    exact ⟨some ⟨w.heap.size, 0, none⟩, 0, HO2.out, rfl, HB2.out⟩
  · rw [show routeL n (plain M) id = rtL (plain M) id n from if_pos ⟨h1, by rw [ha]; exact h2, by rw [ha]; exact h3⟩]
    clear h1 ha
    go_enter Try.func26, Try.ntmps26
    go_wp2_with fail
    refine (HP.out _ ?_).mono ?_
    focus (repeat (first | (with_reducible exact Below.refl _ _) | (with_reducible refine Bal ?_ _) | (with_reducible refine Below.drew ?_) | (with_reducible refine below_drewN ?_ _) | (with_reducible refine Bset ?_ ?_ _; focus (first | (with_reducible exact Nat.le_refl _) | (simp; done) | (simp; omega) | omega)) | (with_reducible refine Bt ?_ (by assumption)) | (with_reducible refine Bp (g := g) ?_ (by assumption) (by assumption))))
    rintro e w1 ⟨rfl, hb1⟩
    rw [hpv]
    have hz1 := hb1.size
    try simp at hz1
    have HB1 := Lib.hid (show Below w.heap.size w w1 by repeat (first | (with_reducible exact Below.refl _ _) | (with_reducible refine Bal ?_ _) | (with_reducible refine Below.drew ?_) | (with_reducible refine below_drewN ?_ _) | (with_reducible refine Bset ?_ ?_ _; focus (first | (with_reducible exact Nat.le_refl _) | (simp; done) | (simp; omega) | omega)) | (with_reducible refine Bt ?_ (by assumption)) | (with_reducible refine Bp (g := g) ?_ (by assumption) (by assumption))))
    have HO1 := Lib.hid (show OwnI w1 w.heap.size w1.heap.size (some ⟨w.heap.size, 0, none⟩) 0 0 (atL []) from ((empty_row w 3 1 (intV (atL []))).below (B := w.heap.size + 1) (Nat.le_refl _) (by simpa using hb1)).wide (Nat.le_refl _) (by omega))
    clear hb1
    go_wp2_with fail
    refine (HV.out _ HB1.out).mono ?_
    rintro e w2 ⟨rfl, hb2⟩
    have hz2 := hb2.size
    have HO2 := Lib.hid ((HO1.out.below (Nat.le_refl _) hb2).wide (Nat.le_refl _) hz2)
    have HB2 := Lib.hid (HB1.out.trans (hb2.mono HB1.out.size))
    clear hb2 HO1 HB1
    obtain ⟨b, off, rfl, _, hbl, c0, c1, c2⟩ := Mb_at (H.out.1.below hi' HB2.out) h2
    rw [h3] at c1
    have hbw : b < w2.heap.size := by omega
    go_wp2_with fail
    clear c0 c1 c2
    go_loopw [5, 7] (fun s i wr => ∃ (k : Nat) (B : Option Addr) (cb L : Nat), k ≤ n ∧ i = .int .i64 (k : Nat) ∧ s = .slice B L cb ∧ Hid (L = (rtL (plain M) id k).length) ∧ Hid (OwnI wr w.heap.size wr.heap.size B L cb (atL (rtL (plain M) id k))) ∧ Hid (Below w.heap.size w wr)) (fun _ i _ => n - (intOf i).toNat)
    case atStart => exact ⟨0, _, 0, 0, Nat.zero_le _, rfl, rfl, Lib.hid rfl, HO2, HB2⟩
    case round =>
      obtain ⟨k, B, cb, L, hk, rfl, rfl, HL, HO, HB⟩ := hrel
      clear HO2 HB2
      have hws := HB.out.size
      have hLk : L ≤ k := by have := rtL_len (plain M) id k; have e := HL.out; omega
      by_cases hkn : k < n
      rotate_left
      · obtain rfl : k = n := by omega
        go_wp2_with fail
        go_ret
        have e := HL.out
        subst e
        exact ⟨B, cb, HO.out, rfl, HB.out⟩
      obtain ⟨b, off, hAe, _, hb2, c0, c1, c2⟩ := Mb_at (H.out.1.below hi' HB.out) hkn
      cases hAe
      have hbw' : b < wr.heap.size := by omega
      obtain ⟨bb, hbb⟩ : ∃ x, hasB (M k).p.n (M k).p.z id = x := ⟨_, rfl⟩
      go_wp2_with fail
      refine (HH.out k hkn _ HB.out).mono ?_
      rintro e w3 ⟨rfl, hb3⟩
      rw [hbb]
      have hz3 := hb3.size
      have HB3 := Lib.hid (HB.out.trans (hb3.mono HB.out.size))
      have HO3 := Lib.hid ((HO.out.below (Nat.le_refl _) hb3).wide (Nat.le_refl _) hz3)
      have e0 := (hb3.cell (p := ⟨b, off + k * 3, none⟩) hbw').trans c0
      have hbw3 : b < w3.heap.size := by omega
      have hw3 : w.heap.size ≤ w3.heap.size := by omega
      clear c0 c1 c2 hb3 HB HO
      cases bb
      · have HE := Lib.hid (show rtL (plain M) id (k + 1) = rtL (plain M) id k from if_neg (by rw [show hasB (plain M k).n (plain M k).z id = false from hbb]; decide))
        go_wp2_with fail
        go_roundw
        case rel =>
          have e := HE.out
          refine ⟨k + 1, B, cb, L, by omega, by go_num, rfl, ?_, ?_, HB3⟩
          · rw [e]; exact HL
          · rw [e]; exact HO3
        case measure => simp [intOf]; omega
      · have HE := Lib.hid (show rtL (plain M) id (k + 1) = rtL (plain M) id k ++ [(M k).p.id] from if_pos hbb)
        go_upto_region 7 with (at_builtin; go_loud (refine wpList_rowAppendN _ rfl (.tmp 41) (.tmp 47) _ rfl 3 i1 _ 1 8 Try.underlying26 r1 r2 r3 r4 rfl (by decide) w.heap.size _ B L cb (intV (atL (rtL (plain M) id k))) rfl (RowOwn.alloc HO3.out _) _ _ _ 1 1 _ rfl (one_row _ _ _) (L + 1) rfl ?_ (by unfold maxLen; omega) (by omega) (by simp; omega) ?_); (focus (intro i hi; rfl)); intro B6 cb6 w6 hO6 hG6 hL6)
        have HO6 := Lib.hid (show OwnI w6 w.heap.size w6.heap.size B6 (L + 1) cb6 (atL (rtL (plain M) id (k + 1))) by
          have e := HE.out
          have e2 := HL.out
          have h9 := snoc_L (l := rtL (plain M) id k) (x := (M k).p.id) (N := L + 1) (by omega) (by rw [← e2]; exact hO6)
          rw [e]
          rw [show (rtL (plain M) id k ++ [(M k).p.id]).length = L + 1 by simp; omega] at h9
          exact h9)
        have HB6 := Lib.hid (show Below w.heap.size w w6 from (HB3.out.alloc hw3 _).grown hG6 (by simp; omega) (fun g hg => (HO3.out.1.lt g hg).1))
        clear hO6 hG6 hL6
        go_wp2_with fail
        go_roundw
        case rel =>
          refine ⟨k + 1, B6, cb6, L + 1, by omega, by go_num, rfl, Lib.hid ?_, HO6, HB6⟩
          have e := HE.out
          have e2 := HL.out
          rw [e, e2]; simp
        case measure => simp [intOf]; omega
end Go.Proofs.Ytelcclhaepfmgaa
