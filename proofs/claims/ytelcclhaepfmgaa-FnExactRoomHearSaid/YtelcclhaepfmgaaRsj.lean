/- Rooms: who joins, by the reference. -/
import Derived.Test.YtelcclhaepfmgaaRcp
namespace Go.Proofs.Ytelcclhaepfmgaa
open Go Go.RowKit
set_option linter.unusedVariables false
set_option linter.unusedSimpArgs false
/-- The place where v comes in. -/
def JAt (n : Nat) (r : Nat → Mm) (v : Int) (a : Nat) : Prop := a ≤ n ∧ (∀ i, i < a → (r i).id < v) ∧ (a < n → ¬ (r a).id < v)
theorem JAt.one {n a b : Nat} {r : Nat → Mm} {v : Int} (h : JAt n r v a) (k : JAt n r v b) : a = b := by
  rcases Nat.lt_trichotomy a b with h1 | h1 | h1
  · exact absurd (k.2.1 a h1) (h.2.2 (by have := k.1; omega))
  · exact h1
  · exact absurd (h.2.1 b h1) (k.2.2 (by have := h.1; omega))
def insM (M : Nat → Mb) (a : Nat) (x : Mb) : Nat → Mb := fun i => if i < a then M i else if i = a then x else M (i - 1)
def joinOk (n : Nat) (r : Nat → Mm) (id : Int) : Prop := RmOk n r ∧ (0 ≤ id ∧ id ≤ 99) ∧ placeI n r id < 0 ∧ n ≠ 6
instance (n : Nat) (r : Nat → Mm) (id : Int) : Decidable (joinOk n r id) := inferInstanceAs (Decidable (_ ∧ _ ∧ _ ∧ _))
/-- What both hand back where they fail. -/
def RmNo (w : World) (e : Ending) (w' : World) : Prop := ∃ b, e = .returned (.tuple #[.slice (some ⟨b, 0, none⟩) 0 0, .bool false]) ∧ RmO w.heap.size (some ⟨b, 0, none⟩) 0 0 (fun _ => Mb0) w' ∧ Below w.heap.size w w'
theorem no_row {lo b : Nat} {wx W : World} (hb : b = W.heap.size) (hlo : lo ≤ b) : RmO lo (some ⟨b, 0, none⟩) 0 0 (fun _ => Mb0) (W.alloc (.cells #[] 28)) :=
  ⟨(empty_at W 28 b 3 (MbF fun _ => Mb0) hb).wide hlo (by simp; omega), fun i hi => absurd hi (by omega), fun i hi => absurd hi (by omega), fun i j _ hj => absurd hj (by omega)⟩
set_option maxRecDepth 100000 in
set_option maxHeartbeats 8000000 in
theorem sjn_no (w : World) (lo hi : Nat) (A : Option Addr) (n c : Nat) (M : Nat → Mb) (id : Int) (s : Bool) (h : Room w lo hi A n M) (hi' : hi ≤ w.heap.size) (hn : n ≤ 1048576) (hb : ∀ i, i < n → (M i).p.n ≤ 1048576) (hno : ¬ joinOk n (plain M) id) :
    Calls Try.prog 21 #[.slice A n c, .int .i64 id, .bool s] w (RmNo w) := by
  have hv := fun W (hw : Below w.heap.size w W) => srv_any W lo hi A n c M (h.below hi' hw) (Nat.le_trans hi' hw.size) hn hb
  have ht := fun W : World => l6In_any id 0 99 W
  have hp := fun W (hw : Below w.heap.size w W) => l31At_any W lo hi A n c id M (h.1.below hi' hw) (Nat.le_trans hi' hw.size) hn
  by_cases h1 : RmOk n (plain M)
  rotate_left
  · rw [show rmB n (plain M) = false from decide_eq_false h1] at hv
    have HV := Lib.hid hv
    clear hv ht hp h hno h1
    go_enter Try.func21, Try.ntmps21
    go_wp2_with fail
    refine (HV.out _ ?_).mono ?_
    focus (repeat (first | (with_reducible exact Below.refl _ _) | (with_reducible refine Bal ?_ _) | (with_reducible refine Below.drew ?_) | (with_reducible refine below_drewN ?_ _) | (with_reducible refine Bset ?_ ?_ _; focus (first | (with_reducible exact Nat.le_refl _) | (simp; done) | (simp; omega) | omega)) | (with_reducible refine Bt ?_ (by assumption)) | (with_reducible refine Bp (g := g) ?_ (by assumption) (by assumption))))
    rintro e w1 ⟨rfl, hb1⟩
    have hz1 := hb1.size
    go_wp2_with fail
    refine bodyPost_retE rfl ?_
    apply Exists.intro
    refine ⟨?_, ?_⟩
    · simp only [results, Try.results21]
      go_simp
      first | done | rfl
    go_light
    refine ⟨_, rfl, no_row (wx := w1) rfl hz1, ?_⟩
    repeat (first | (with_reducible exact Below.refl _ _) | (with_reducible refine Bal ?_ _) | (with_reducible refine Below.drew ?_) | (with_reducible refine below_drewN ?_ _) | (with_reducible refine Bset ?_ ?_ _; focus (first | (with_reducible exact Nat.le_refl _) | (simp; done) | (simp; omega) | omega)) | (with_reducible refine Bt ?_ (by assumption)) | (with_reducible refine Bp (g := g) ?_ (by assumption) (by assumption)))
  rw [show rmB n (plain M) = true from decide_eq_true h1] at hv
  have HV := Lib.hid hv
  clear hv
  by_cases h2 : 0 ≤ id ∧ id ≤ 99
  rotate_left
  · rw [show inB id 0 99 = false by (unfold inB; simp; omega)] at ht
    have HT := Lib.hid ht
    clear ht hp h hno h1 h2
    go_enter Try.func21, Try.ntmps21
    go_wp2_with fail
    refine (HV.out _ ?_).mono ?_
    focus (repeat (first | (with_reducible exact Below.refl _ _) | (with_reducible refine Bal ?_ _) | (with_reducible refine Below.drew ?_) | (with_reducible refine below_drewN ?_ _) | (with_reducible refine Bset ?_ ?_ _; focus (first | (with_reducible exact Nat.le_refl _) | (simp; done) | (simp; omega) | omega)) | (with_reducible refine Bt ?_ (by assumption)) | (with_reducible refine Bp (g := g) ?_ (by assumption) (by assumption))))
    rintro e w1 ⟨rfl, hb1⟩
    have hz1 := hb1.size
    go_wp2_with fail
    refine (HT.out _).mono ?_
    rintro e w' ⟨rfl, rfl⟩
    go_wp2_with fail
    refine bodyPost_retE rfl ?_
    apply Exists.intro
    refine ⟨?_, ?_⟩
    · simp only [results, Try.results21]
      go_simp
      first | done | rfl
    go_light
    refine ⟨_, rfl, no_row (wx := w1) rfl hz1, ?_⟩
    repeat (first | (with_reducible exact Below.refl _ _) | (with_reducible refine Bal ?_ _) | (with_reducible refine Below.drew ?_) | (with_reducible refine below_drewN ?_ _) | (with_reducible refine Bset ?_ ?_ _; focus (first | (with_reducible exact Nat.le_refl _) | (simp; done) | (simp; omega) | omega)) | (with_reducible refine Bt ?_ (by assumption)) | (with_reducible refine Bp (g := g) ?_ (by assumption) (by assumption)))
  rw [inB_t h2.1 h2.2] at ht
  have HT := Lib.hid ht
  have HP := Lib.hid hp
  clear ht hp h
  obtain ⟨pv, hpv⟩ : ∃ v, placeI n (plain M) id = v := ⟨_, rfl⟩
  by_cases h3 : pv < 0
  · obtain rfl : n = 6 := by
      by_cases h4 : n = 6
      · exact h4
      · exact absurd ⟨h1, h2, by rw [hpv]; exact h3, h4⟩ hno
    have hvb : decide (0 ≤ pv) = false := decide_eq_false (by omega)
    clear hno h1 h2
    go_enter Try.func21, Try.ntmps21
    go_wp2_with fail
    refine (HV.out _ ?_).mono ?_
    focus (repeat (first | (with_reducible exact Below.refl _ _) | (with_reducible refine Bal ?_ _) | (with_reducible refine Below.drew ?_) | (with_reducible refine below_drewN ?_ _) | (with_reducible refine Bset ?_ ?_ _; focus (first | (with_reducible exact Nat.le_refl _) | (simp; done) | (simp; omega) | omega)) | (with_reducible refine Bt ?_ (by assumption)) | (with_reducible refine Bp (g := g) ?_ (by assumption) (by assumption))))
    rintro e w1 ⟨rfl, hb1⟩
    have hz1 := hb1.size
    have HB1 := Lib.hid (show Below w.heap.size w w1 by repeat (first | (with_reducible exact Below.refl _ _) | (with_reducible refine Bal ?_ _) | (with_reducible refine Below.drew ?_) | (with_reducible refine below_drewN ?_ _) | (with_reducible refine Bset ?_ ?_ _; focus (first | (with_reducible exact Nat.le_refl _) | (simp; done) | (simp; omega) | omega)) | (with_reducible refine Bt ?_ (by assumption)) | (with_reducible refine Bp (g := g) ?_ (by assumption) (by assumption))))
    go_wp2_with fail
    refine (HT.out _).mono ?_
    rintro e w' ⟨rfl, rfl⟩
    go_wp2_with fail
    refine (HP.out _ HB1.out).mono ?_
    rintro e w2 ⟨rfl, hb2⟩
    rw [hpv]
    have hz2 := hb2.size
    go_wp2_with fail
    refine bodyPost_retE rfl ?_
    apply Exists.intro
    refine ⟨?_, ?_⟩
    · simp only [results, Try.results21]
      go_simp
      first | done | rfl
    go_light
    refine ⟨_, rfl, no_row (wx := w1) rfl (by omega), ?_⟩
    repeat (first | (with_reducible exact Below.refl _ _) | (with_reducible refine Bal ?_ _) | (with_reducible refine Below.drew ?_) | (with_reducible refine below_drewN ?_ _) | (with_reducible refine Bset ?_ ?_ _; focus (first | (with_reducible exact Nat.le_refl _) | (simp; done) | (simp; omega) | omega)) | (with_reducible refine Bt ?_ (by assumption)) | (with_reducible refine Bp (g := g) ?_ (by assumption) (by assumption)))
  · have hvb : decide (0 ≤ pv) = true := decide_eq_true (by omega)
    clear hno h1 h2
    go_enter Try.func21, Try.ntmps21
    go_wp2_with fail
    refine (HV.out _ ?_).mono ?_
    focus (repeat (first | (with_reducible exact Below.refl _ _) | (with_reducible refine Bal ?_ _) | (with_reducible refine Below.drew ?_) | (with_reducible refine below_drewN ?_ _) | (with_reducible refine Bset ?_ ?_ _; focus (first | (with_reducible exact Nat.le_refl _) | (simp; done) | (simp; omega) | omega)) | (with_reducible refine Bt ?_ (by assumption)) | (with_reducible refine Bp (g := g) ?_ (by assumption) (by assumption))))
    rintro e w1 ⟨rfl, hb1⟩
    have hz1 := hb1.size
    have HB1 := Lib.hid (show Below w.heap.size w w1 by repeat (first | (with_reducible exact Below.refl _ _) | (with_reducible refine Bal ?_ _) | (with_reducible refine Below.drew ?_) | (with_reducible refine below_drewN ?_ _) | (with_reducible refine Bset ?_ ?_ _; focus (first | (with_reducible exact Nat.le_refl _) | (simp; done) | (simp; omega) | omega)) | (with_reducible refine Bt ?_ (by assumption)) | (with_reducible refine Bp (g := g) ?_ (by assumption) (by assumption))))
    go_wp2_with fail
    refine (HT.out _).mono ?_
    rintro e w' ⟨rfl, rfl⟩
    go_wp2_with fail
    refine (HP.out _ HB1.out).mono ?_
    rintro e w2 ⟨rfl, hb2⟩
    rw [hpv]
    have hz2 := hb2.size
    go_wp2_with fail
    refine bodyPost_retE rfl ?_
    apply Exists.intro
    refine ⟨?_, ?_⟩
    · simp only [results, Try.results21]
      go_simp
      first | done | rfl
    go_light
    refine ⟨_, rfl, no_row (wx := w1) rfl (by omega), ?_⟩
    repeat (first | (with_reducible exact Below.refl _ _) | (with_reducible refine Bal ?_ _) | (with_reducible refine Below.drew ?_) | (with_reducible refine below_drewN ?_ _) | (with_reducible refine Bset ?_ ?_ _; focus (first | (with_reducible exact Nat.le_refl _) | (simp; done) | (simp; omega) | omega)) | (with_reducible refine Bt ?_ (by assumption)) | (with_reducible refine Bp (g := g) ?_ (by assumption) (by assumption)))
end Go.Proofs.Ytelcclhaepfmgaa
