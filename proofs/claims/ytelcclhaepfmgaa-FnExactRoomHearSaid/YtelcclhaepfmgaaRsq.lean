/- Rooms: who hears another one, by the reference: the walk where it fails. -/
import Derived.Test.YtelcclhaepfmgaaRsi
namespace Go.Proofs.Ytelcclhaepfmgaa
open Go Go.RowKit
set_option linter.unusedVariables false
set_option linter.unusedSimpArgs false
set_option maxRecDepth 100000 in
set_option maxHeartbeats 8000000 in
theorem shr_no (w : World) (lo hi : Nat) (A : Option Addr) (n c : Nat) (M : Nat → Mb) (id other : Int) (on : Bool) (h : Room w lo hi A n M) (hi' : hi ≤ w.heap.size) (hn : n ≤ 1048576) (hb : ∀ i, i < n → (M i).p.n ≤ 1048576) (hno : ¬ hearOk n (plain M) id other on) :
    Calls Try.prog 31 #[.slice A n c, .int .i64 id, .int .i64 other, .bool on] w (RmNo w) := by
  have hv := fun W (hw : Below w.heap.size w W) => srv_any W lo hi A n c M (h.below hi' hw) (Nat.le_trans hi' hw.size) hn hb
  have HP := Lib.hid (fun v W (hw : Below w.heap.size w W) => l31At_any W lo hi A n c v M (h.1.below hi' hw) (Nat.le_trans hi' hw.size) hn)
  obtain ⟨qv, hqv⟩ : ∃ v, placeI n (plain M) id = v := ⟨_, rfl⟩
  by_cases h1 : RmOk n (plain M)
  rotate_left
  · rw [show rmB n (plain M) = false from decide_eq_false h1] at hv
    have HV := Lib.hid hv
    clear hv h hno h1
    go_enter Try.func31, Try.ntmps31
    go_wp2_with fail
    refine (HP.out _ _ ?_).mono ?_
    focus (repeat (first | (with_reducible exact Below.refl _ _) | (with_reducible refine Bal ?_ _) | (with_reducible refine Below.drew ?_) | (with_reducible refine below_drewN ?_ _) | (with_reducible refine Bset ?_ ?_ _; focus (first | (with_reducible exact Nat.le_refl _) | (simp; done) | (simp; omega) | omega)) | (with_reducible refine Bt ?_ (by assumption)) | (with_reducible refine Bp (g := g) ?_ (by assumption) (by assumption))))
    rintro e w1 ⟨rfl, hb1⟩
    rw [hqv]
    have HB1 := Lib.hid (show Below w.heap.size w w1 by repeat (first | (with_reducible exact Below.refl _ _) | (with_reducible refine Bal ?_ _) | (with_reducible refine Below.drew ?_) | (with_reducible refine below_drewN ?_ _) | (with_reducible refine Bset ?_ ?_ _; focus (first | (with_reducible exact Nat.le_refl _) | (simp; done) | (simp; omega) | omega)) | (with_reducible refine Bt ?_ (by assumption)) | (with_reducible refine Bp (g := g) ?_ (by assumption) (by assumption))))
    clear hb1
    go_wp2_with fail
    refine (HV.out _ HB1.out).mono ?_
    rintro e w2 ⟨rfl, hb2⟩
    have hb1 := HB1.out.trans (hb2.mono HB1.out.size)
    have hz1 := hb1.size
    clear hb2
    go_wp2_with fail
    refine bodyPost_retE rfl ?_
    apply Exists.intro
    refine ⟨?_, ?_⟩
    · simp only [results, Try.results31]
      go_simp
      first | done | rfl
    go_light
    refine ⟨_, rfl, no_row (wx := w2) rfl hz1, ?_⟩
    repeat (first | (with_reducible exact Below.refl _ _) | (with_reducible refine Bal ?_ _) | (with_reducible refine Below.drew ?_) | (with_reducible refine below_drewN ?_ _) | (with_reducible refine Bset ?_ ?_ _; focus (first | (with_reducible exact Nat.le_refl _) | (simp; done) | (simp; omega) | omega)) | (with_reducible refine Bt ?_ (by assumption)) | (with_reducible refine Bp (g := g) ?_ (by assumption) (by assumption)))
  rw [show rmB n (plain M) = true from decide_eq_true h1] at hv
  have HV := Lib.hid hv
  clear hv
  by_cases h2 : atR (plain M) id n < n
  rotate_left
  · have hqn : qv < 0 := by rw [← hqv]; unfold placeI; rw [if_neg h2]; decide
    have hqb : decide (qv < 0) = true := decide_eq_true hqn
    clear h hno h1 h2 hqn
    go_enter Try.func31, Try.ntmps31
    go_wp2_with fail
    refine (HP.out _ _ ?_).mono ?_
    focus (repeat (first | (with_reducible exact Below.refl _ _) | (with_reducible refine Bal ?_ _) | (with_reducible refine Below.drew ?_) | (with_reducible refine below_drewN ?_ _) | (with_reducible refine Bset ?_ ?_ _; focus (first | (with_reducible exact Nat.le_refl _) | (simp; done) | (simp; omega) | omega)) | (with_reducible refine Bt ?_ (by assumption)) | (with_reducible refine Bp (g := g) ?_ (by assumption) (by assumption))))
    rintro e w1 ⟨rfl, hb1⟩
    rw [hqv]
    have HB1 := Lib.hid (show Below w.heap.size w w1 by repeat (first | (with_reducible exact Below.refl _ _) | (with_reducible refine Bal ?_ _) | (with_reducible refine Below.drew ?_) | (with_reducible refine below_drewN ?_ _) | (with_reducible refine Bset ?_ ?_ _; focus (first | (with_reducible exact Nat.le_refl _) | (simp; done) | (simp; omega) | omega)) | (with_reducible refine Bt ?_ (by assumption)) | (with_reducible refine Bp (g := g) ?_ (by assumption) (by assumption))))
    clear hb1
    go_wp2_with fail
    refine (HV.out _ HB1.out).mono ?_
    rintro e w2 ⟨rfl, hb2⟩
    have hb1 := HB1.out.trans (hb2.mono HB1.out.size)
    have hz1 := hb1.size
    clear hb2
    go_wp2_with fail
    refine bodyPost_retE rfl ?_
    apply Exists.intro
    refine ⟨?_, ?_⟩
    · simp only [results, Try.results31]
      go_simp
      first | done | rfl
    go_light
    refine ⟨_, rfl, no_row (wx := w2) rfl hz1, ?_⟩
    repeat (first | (with_reducible exact Below.refl _ _) | (with_reducible refine Bal ?_ _) | (with_reducible refine Below.drew ?_) | (with_reducible refine below_drewN ?_ _) | (with_reducible refine Bset ?_ ?_ _; focus (first | (with_reducible exact Nat.le_refl _) | (simp; done) | (simp; omega) | omega)) | (with_reducible refine Bt ?_ (by assumption)) | (with_reducible refine Bp (g := g) ?_ (by assumption) (by assumption)))
  obtain ⟨a, ha⟩ : ∃ v, atR (plain M) id n = v := ⟨_, rfl⟩
  rw [ha] at h2
  obtain rfl : qv = (a : Nat) := by rw [← hqv]; unfold placeI; rw [ha, if_pos h2]
  obtain ⟨pv, hpv⟩ : ∃ v, placeI n (plain M) other = v := ⟨_, rfl⟩
  by_cases h3 : pv < 0
  · have hvb : decide (pv < 0) = true := decide_eq_true h3
    clear h hno h1 h3 ha
    go_enter Try.func31, Try.ntmps31
    go_wp2_with fail
    refine (HP.out _ _ ?_).mono ?_
    focus (repeat (first | (with_reducible exact Below.refl _ _) | (with_reducible refine Bal ?_ _) | (with_reducible refine Below.drew ?_) | (with_reducible refine below_drewN ?_ _) | (with_reducible refine Bset ?_ ?_ _; focus (first | (with_reducible exact Nat.le_refl _) | (simp; done) | (simp; omega) | omega)) | (with_reducible refine Bt ?_ (by assumption)) | (with_reducible refine Bp (g := g) ?_ (by assumption) (by assumption))))
    rintro e w1 ⟨rfl, hb1⟩
    rw [hqv]
    have HB1 := Lib.hid (show Below w.heap.size w w1 by repeat (first | (with_reducible exact Below.refl _ _) | (with_reducible refine Bal ?_ _) | (with_reducible refine Below.drew ?_) | (with_reducible refine below_drewN ?_ _) | (with_reducible refine Bset ?_ ?_ _; focus (first | (with_reducible exact Nat.le_refl _) | (simp; done) | (simp; omega) | omega)) | (with_reducible refine Bt ?_ (by assumption)) | (with_reducible refine Bp (g := g) ?_ (by assumption) (by assumption))))
    clear hb1
    go_wp2_with fail
    refine (HV.out _ HB1.out).mono ?_
    rintro e w2 ⟨rfl, hb2⟩
    have HB2 := Lib.hid (HB1.out.trans (hb2.mono HB1.out.size))
    clear hb2
    go_wp2_with fail
    refine (HP.out _ _ HB2.out).mono ?_
    rintro e w3 ⟨rfl, hb3⟩
    rw [hpv]
    have hb1 := HB2.out.trans (hb3.mono HB2.out.size)
    have hz1 := hb1.size
    clear hb3
    go_wp2_with fail
    refine bodyPost_retE rfl ?_
    apply Exists.intro
    refine ⟨?_, ?_⟩
    · simp only [results, Try.results31]
      go_simp
      first | done | rfl
    go_light
    refine ⟨_, rfl, no_row (wx := w3) rfl hz1, ?_⟩
    repeat (first | (with_reducible exact Below.refl _ _) | (with_reducible refine Bal ?_ _) | (with_reducible refine Below.drew ?_) | (with_reducible refine below_drewN ?_ _) | (with_reducible refine Bset ?_ ?_ _; focus (first | (with_reducible exact Nat.le_refl _) | (simp; done) | (simp; omega) | omega)) | (with_reducible refine Bt ?_ (by assumption)) | (with_reducible refine Bp (g := g) ?_ (by assumption) (by assumption)))
  have hvb : decide (pv < 0) = false := decide_eq_false h3
  by_cases h4 : id = other
  · have hidb : (id == other) = true := by simpa using h4
    subst h4
    clear h hno h1 h3 ha
    go_enter Try.func31, Try.ntmps31
    go_wp2_with fail
    refine (HP.out _ _ ?_).mono ?_
    focus (repeat (first | (with_reducible exact Below.refl _ _) | (with_reducible refine Bal ?_ _) | (with_reducible refine Below.drew ?_) | (with_reducible refine below_drewN ?_ _) | (with_reducible refine Bset ?_ ?_ _; focus (first | (with_reducible exact Nat.le_refl _) | (simp; done) | (simp; omega) | omega)) | (with_reducible refine Bt ?_ (by assumption)) | (with_reducible refine Bp (g := g) ?_ (by assumption) (by assumption))))
    rintro e w1 ⟨rfl, hb1⟩
    rw [hqv]
    have HB1 := Lib.hid (show Below w.heap.size w w1 by repeat (first | (with_reducible exact Below.refl _ _) | (with_reducible refine Bal ?_ _) | (with_reducible refine Below.drew ?_) | (with_reducible refine below_drewN ?_ _) | (with_reducible refine Bset ?_ ?_ _; focus (first | (with_reducible exact Nat.le_refl _) | (simp; done) | (simp; omega) | omega)) | (with_reducible refine Bt ?_ (by assumption)) | (with_reducible refine Bp (g := g) ?_ (by assumption) (by assumption))))
    clear hb1
    go_wp2_with fail
    refine (HV.out _ HB1.out).mono ?_
    rintro e w2 ⟨rfl, hb2⟩
    have HB2 := Lib.hid (HB1.out.trans (hb2.mono HB1.out.size))
    clear hb2
    go_wp2_with fail
    refine (HP.out _ _ HB2.out).mono ?_
    rintro e w3 ⟨rfl, hb3⟩
    rw [hpv]
    have hb1 := HB2.out.trans (hb3.mono HB2.out.size)
    have hz1 := hb1.size
    clear hb3
    go_wp2_with fail
    refine bodyPost_retE rfl ?_
    apply Exists.intro
    refine ⟨?_, ?_⟩
    · simp only [results, Try.results31]
      go_simp
      first | done | rfl
    go_light
    refine ⟨_, rfl, no_row (wx := w3) rfl hz1, ?_⟩
    repeat (first | (with_reducible exact Below.refl _ _) | (with_reducible refine Bal ?_ _) | (with_reducible refine Below.drew ?_) | (with_reducible refine below_drewN ?_ _) | (with_reducible refine Bset ?_ ?_ _; focus (first | (with_reducible exact Nat.le_refl _) | (simp; done) | (simp; omega) | omega)) | (with_reducible refine Bt ?_ (by assumption)) | (with_reducible refine Bp (g := g) ?_ (by assumption) (by assumption)))
  have hidb : (id == other) = false := by simpa using h4
  have HH := Lib.hid (fun v W (hw : Below w.heap.size w W) => l31Has_any W lo hi (M a).A (M a).p.n (M a).c v (M a).p.z ((h.2 a h2).below hi' hw) (Nat.le_trans hi' hw.size) (hb a h2))
  have H := Lib.hid h.1
  obtain ⟨hx, hhx⟩ : ∃ x, hasB (M a).p.n (M a).p.z other = x := ⟨_, rfl⟩
  have hxo : (hx == on) = true := by
    by_cases h6 : hx = on
    · simpa using h6
    · exact absurd ⟨h1, by rw [ha]; exact h2, by rw [hpv]; exact h3, h4, by rw [ha]; exact fun e => h6 (hhx.symm.trans e)⟩ hno
  clear h hno h1 h3 h4 ha
  go_enter Try.func31, Try.ntmps31
  go_wp2_with fail
  refine (HP.out _ _ ?_).mono ?_
  focus (repeat (first | (with_reducible exact Below.refl _ _) | (with_reducible refine Bal ?_ _) | (with_reducible refine Below.drew ?_) | (with_reducible refine below_drewN ?_ _) | (with_reducible refine Bset ?_ ?_ _; focus (first | (with_reducible exact Nat.le_refl _) | (simp; done) | (simp; omega) | omega)) | (with_reducible refine Bt ?_ (by assumption)) | (with_reducible refine Bp (g := g) ?_ (by assumption) (by assumption))))
  rintro e w1 ⟨rfl, hb1⟩
  rw [hqv]
  have HB1 := Lib.hid (show Below w.heap.size w w1 by repeat (first | (with_reducible exact Below.refl _ _) | (with_reducible refine Bal ?_ _) | (with_reducible refine Below.drew ?_) | (with_reducible refine below_drewN ?_ _) | (with_reducible refine Bset ?_ ?_ _; focus (first | (with_reducible exact Nat.le_refl _) | (simp; done) | (simp; omega) | omega)) | (with_reducible refine Bt ?_ (by assumption)) | (with_reducible refine Bp (g := g) ?_ (by assumption) (by assumption))))
  clear hb1
  go_wp2_with fail
  refine (HV.out _ HB1.out).mono ?_
  rintro e w2 ⟨rfl, hb2⟩
  have HB2 := Lib.hid (HB1.out.trans (hb2.mono HB1.out.size))
  clear hb2 HB1
  go_wp2_with fail
  refine (HP.out _ _ HB2.out).mono ?_
  rintro e w3 ⟨rfl, hb3⟩
  rw [hpv]
  have HB3 := Lib.hid (HB2.out.trans (hb3.mono HB2.out.size))
  clear hb3 HB2
  obtain ⟨b, off, rfl, _, hbl, c0, c1, c2⟩ := Mb_at (H.out.below hi' HB3.out) h2
  have hbw : b < w3.heap.size := by have := HB3.out.size; omega
  go_wp2_with fail
  clear c0 c1 c2
  refine (HH.out _ _ HB3.out).mono ?_
  rintro e w4 ⟨rfl, hb4⟩
  rw [hhx]
  have hb1 := HB3.out.trans (hb4.mono HB3.out.size)
  have hz1 := hb1.size
  clear hb4 HB3
  go_wp2_with fail
  refine bodyPost_retE rfl ?_
  apply Exists.intro
  refine ⟨?_, ?_⟩
  · simp only [results, Try.results31]
    go_simp
    first | done | rfl
  go_light
  refine ⟨_, rfl, no_row (wx := w4) rfl hz1, ?_⟩
  repeat (first | (with_reducible exact Below.refl _ _) | (with_reducible refine Bal ?_ _) | (with_reducible refine Below.drew ?_) | (with_reducible refine below_drewN ?_ _) | (with_reducible refine Bset ?_ ?_ _; focus (first | (with_reducible exact Nat.le_refl _) | (simp; done) | (simp; omega) | omega)) | (with_reducible refine Bt ?_ (by assumption)) | (with_reducible refine Bp (g := g) ?_ (by assumption) (by assumption)))
end Go.Proofs.Ytelcclhaepfmgaa
