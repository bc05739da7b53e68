/- Rooms: who joins, by the program. -/
import Derived.Test.YtelcclhaepfmgaaRhm
namespace Go.Proofs.Ytelcclhaepfmgaa
open Go Go.RowKit Go.Maps
set_option linter.unusedVariables false
set_option linter.unusedSimpArgs false
theorem plain_ins {M : Nat → Mb} {a : Nat} {x : Mb} : plain (insM M a x) = insR (plain M) a x.p := funext fun i => by
  unfold plain insM insR
  by_cases e1 : i < a
  · rw [if_pos e1, if_pos e1]
  · rw [if_neg e1, if_neg e1]
    by_cases e2 : i = a
    · rw [if_pos e2, if_pos e2]
    · rw [if_neg e2, if_neg e2]
theorem insM_all {P : Mb → Prop} {M : Nat → Mb} {a n : Nat} {x : Mb} (ha : a ≤ n) (h : ∀ i, i < n → P (M i)) (hx : P x) : ∀ i, i < n + 1 → P (insM M a x i) := by
  intro i hi
  unfold insM
  by_cases e1 : i < a
  · rw [if_pos e1]; exact h i (by omega)
  · rw [if_neg e1]
    by_cases e2 : i = a
    · rw [if_pos e2]; exact hx
    · rw [if_neg e2]; exact h (i - 1) (by omega)
set_option maxRecDepth 100000 in
set_option maxHeartbeats 8000000 in
theorem ijn_no (w : World) (lo hi : Nat) (A : Option Addr) (n c : Nat) (M : Nat → Mb) (id : Int) (s : Bool) (h : Room w lo hi A n M) (hi' : hi ≤ w.heap.size) (hn : n ≤ 1048576) (hb : ∀ i, i < n → (M i).p.n ≤ 1048576) (hno : ¬ joinOk n (plain M) id) :
    Calls Try.prog 20 #[.slice A n c, .int .i64 id, .bool s] w (RmNo w) := by
  have hv := fun W (hw : Below w.heap.size w W) => irv_any W lo hi A n c M (h.below hi' hw) (Nat.le_trans hi' hw.size) hn hb
  have hp := fun W (hw : Below w.heap.size w W) => placeOf_any W lo hi A n c id M (h.1.below hi' hw) (Nat.le_trans hi' hw.size) hn
  by_cases h1 : RmOk n (plain M)
  rotate_left
  · rw [show rmB n (plain M) = false from decide_eq_false h1] at hv
    have HV := Lib.hid hv
    clear hv hp h hno h1
    go_enter Try.func20, Try.ntmps20
    go_wp2_with fail
    refine (HV.out _ ?_).mono ?_
    focus (repeat (first | (with_reducible exact Below.refl _ _) | (with_reducible refine Bal ?_ _) | (with_reducible refine Below.drew ?_) | (with_reducible refine below_drewN ?_ _) | (with_reducible refine Bset ?_ ?_ _; focus (first | (with_reducible exact Nat.le_refl _) | (simp; done) | (simp; omega) | omega)) | (with_reducible refine Bt ?_ (by assumption)) | (with_reducible refine Bp (g := g) ?_ (by assumption) (by assumption))))
    rintro e w1 ⟨rfl, hb1⟩
    have hz1 := hb1.size
    go_wp2_with fail
    refine bodyPost_retE rfl ?_
    apply Exists.intro
    refine ⟨?_, ?_⟩
    · simp only [results, Try.results20]
      go_simp
      first | done | rfl
    go_light
    refine ⟨_, rfl, no_row (wx := w1) rfl hz1, ?_⟩
    repeat (first | (with_reducible exact Below.refl _ _) | (with_reducible refine Bal ?_ _) | (with_reducible refine Below.drew ?_) | (with_reducible refine below_drewN ?_ _) | (with_reducible refine Bset ?_ ?_ _; focus (first | (with_reducible exact Nat.le_refl _) | (simp; done) | (simp; omega) | omega)) | (with_reducible refine Bt ?_ (by assumption)) | (with_reducible refine Bp (g := g) ?_ (by assumption) (by assumption)))
  rw [show rmB n (plain M) = true from decide_eq_true h1] at hv
  have HV := Lib.hid hv
  have HP := Lib.hid hp
  clear hv hp h
  by_cases h0 : id < 0
  · clear hno h1
    go_enter Try.func20, Try.ntmps20
    go_wp2_with fail
    refine (HV.out _ ?_).mono ?_
    focus (repeat (first | (with_reducible exact Below.refl _ _) | (with_reducible refine Bal ?_ _) | (with_reducible refine Below.drew ?_) | (with_reducible refine below_drewN ?_ _) | (with_reducible refine Bset ?_ ?_ _; focus (first | (with_reducible exact Nat.le_refl _) | (simp; done) | (simp; omega) | omega)) | (with_reducible refine Bt ?_ (by assumption)) | (with_reducible refine Bp (g := g) ?_ (by assumption) (by assumption))))
    rintro e w1 ⟨rfl, hb1⟩
    have hz1 := hb1.size
    go_wp2_with fail
    refine bodyPost_retE rfl ?_
    apply Exists.intro
    refine ⟨?_, ?_⟩
    · simp only [results, Try.results20]
      go_simp
      first | done | rfl
    go_light
    refine ⟨_, rfl, no_row (wx := w1) rfl hz1, ?_⟩
    repeat (first | (with_reducible exact Below.refl _ _) | (with_reducible refine Bal ?_ _) | (with_reducible refine Below.drew ?_) | (with_reducible refine below_drewN ?_ _) | (with_reducible refine Bset ?_ ?_ _; focus (first | (with_reducible exact Nat.le_refl _) | (simp; done) | (simp; omega) | omega)) | (with_reducible refine Bt ?_ (by assumption)) | (with_reducible refine Bp (g := g) ?_ (by assumption) (by assumption)))
  have h00 := h0
  clear h0
  by_cases h0 : 99 < id
  · clear hno h1
    go_enter Try.func20, Try.ntmps20
    go_wp2_with fail
    refine (HV.out _ ?_).mono ?_
    focus (repeat (first | (with_reducible exact Below.refl _ _) | (with_reducible refine Bal ?_ _) | (with_reducible refine Below.drew ?_) | (with_reducible refine below_drewN ?_ _) | (with_reducible refine Bset ?_ ?_ _; focus (first | (with_reducible exact Nat.le_refl _) | (simp; done) | (simp; omega) | omega)) | (with_reducible refine Bt ?_ (by assumption)) | (with_reducible refine Bp (g := g) ?_ (by assumption) (by assumption))))
    rintro e w1 ⟨rfl, hb1⟩
    have hz1 := hb1.size
    go_wp2_with fail
    refine bodyPost_retE rfl ?_
    apply Exists.intro
    refine ⟨?_, ?_⟩
    · simp only [results, Try.results20]
      go_simp
      first | done | rfl
    go_light
    refine ⟨_, rfl, no_row (wx := w1) rfl hz1, ?_⟩
    repeat (first | (with_reducible exact Below.refl _ _) | (with_reducible refine Bal ?_ _) | (with_reducible refine Below.drew ?_) | (with_reducible refine below_drewN ?_ _) | (with_reducible refine Bset ?_ ?_ _; focus (first | (with_reducible exact Nat.le_refl _) | (simp; done) | (simp; omega) | omega)) | (with_reducible refine Bt ?_ (by assumption)) | (with_reducible refine Bp (g := g) ?_ (by assumption) (by assumption)))
  obtain ⟨pv, hpv⟩ : ∃ v, placeI n (plain M) id = v := ⟨_, rfl⟩
  by_cases h3 : pv < 0
  · skip
    obtain rfl : n = 6 := by
      by_cases h4 : n = 6
      · exact h4
      · exact absurd ⟨h1, ⟨by omega, by omega⟩, by rw [hpv]; exact h3, h4⟩ hno
    have hvb : decide (0 ≤ pv) = false := decide_eq_false (by omega)
    clear hno h1
    go_enter Try.func20, Try.ntmps20
    go_wp2_with fail
    refine (HV.out _ ?_).mono ?_
    focus (repeat (first | (with_reducible exact Below.refl _ _) | (with_reducible refine Bal ?_ _) | (with_reducible refine Below.drew ?_) | (with_reducible refine below_drewN ?_ _) | (with_reducible refine Bset ?_ ?_ _; focus (first | (with_reducible exact Nat.le_refl _) | (simp; done) | (simp; omega) | omega)) | (with_reducible refine Bt ?_ (by assumption)) | (with_reducible refine Bp (g := g) ?_ (by assumption) (by assumption))))
    rintro e w1 ⟨rfl, hb1⟩
    have hz1 := hb1.size
    have HB1 := Lib.hid (show Below w.heap.size w w1 by repeat (first | (with_reducible exact Below.refl _ _) | (with_reducible refine Bal ?_ _) | (with_reducible refine Below.drew ?_) | (with_reducible refine below_drewN ?_ _) | (with_reducible refine Bset ?_ ?_ _; focus (first | (with_reducible exact Nat.le_refl _) | (simp; done) | (simp; omega) | omega)) | (with_reducible refine Bt ?_ (by assumption)) | (with_reducible refine Bp (g := g) ?_ (by assumption) (by assumption))))
    go_wp2_with fail
    refine (HP.out _ HB1.out).mono ?_
    rintro e w2 ⟨rfl, hb2⟩
    rw [hpv]
    have hz2 := hb2.size
    go_wp2_with fail
    refine bodyPost_retE rfl ?_
    apply Exists.intro
    refine ⟨?_, ?_⟩
    · simp only [results, Try.results20]
      go_simp
      first | done | rfl
    go_light
    refine ⟨_, rfl, no_row (wx := w1) rfl (by omega), ?_⟩
    repeat (first | (with_reducible exact Below.refl _ _) | (with_reducible refine Bal ?_ _) | (with_reducible refine Below.drew ?_) | (with_reducible refine below_drewN ?_ _) | (with_reducible refine Bset ?_ ?_ _; focus (first | (with_reducible exact Nat.le_refl _) | (simp; done) | (simp; omega) | omega)) | (with_reducible refine Bt ?_ (by assumption)) | (with_reducible refine Bp (g := g) ?_ (by assumption) (by assumption)))
  · skip
    have hvb : decide (0 ≤ pv) = true := decide_eq_true (by omega)
    clear hno h1
    go_enter Try.func20, Try.ntmps20
    go_wp2_with fail
    refine (HV.out _ ?_).mono ?_
    focus (repeat (first | (with_reducible exact Below.refl _ _) | (with_reducible refine Bal ?_ _) | (with_reducible refine Below.drew ?_) | (with_reducible refine below_drewN ?_ _) | (with_reducible refine Bset ?_ ?_ _; focus (first | (with_reducible exact Nat.le_refl _) | (simp; done) | (simp; omega) | omega)) | (with_reducible refine Bt ?_ (by assumption)) | (with_reducible refine Bp (g := g) ?_ (by assumption) (by assumption))))
    rintro e w1 ⟨rfl, hb1⟩
    have hz1 := hb1.size
    have HB1 := Lib.hid (show Below w.heap.size w w1 by repeat (first | (with_reducible exact Below.refl _ _) | (with_reducible refine Bal ?_ _) | (with_reducible refine Below.drew ?_) | (with_reducible refine below_drewN ?_ _) | (with_reducible refine Bset ?_ ?_ _; focus (first | (with_reducible exact Nat.le_refl _) | (simp; done) | (simp; omega) | omega)) | (with_reducible refine Bt ?_ (by assumption)) | (with_reducible refine Bp (g := g) ?_ (by assumption) (by assumption))))
    go_wp2_with fail
    refine (HP.out _ HB1.out).mono ?_
    rintro e w2 ⟨rfl, hb2⟩
    rw [hpv]
    have hz2 := hb2.size
    go_wp2_with fail
    refine bodyPost_retE rfl ?_
    apply Exists.intro
    refine ⟨?_, ?_⟩
    · simp only [results, Try.results20]
      go_simp
      first | done | rfl
    go_light
    refine ⟨_, rfl, no_row (wx := w1) rfl (by omega), ?_⟩
    repeat (first | (with_reducible exact Below.refl _ _) | (with_reducible refine Bal ?_ _) | (with_reducible refine Below.drew ?_) | (with_reducible refine below_drewN ?_ _) | (with_reducible refine Bset ?_ ?_ _; focus (first | (with_reducible exact Nat.le_refl _) | (simp; done) | (simp; omega) | omega)) | (with_reducible refine Bt ?_ (by assumption)) | (with_reducible refine Bp (g := g) ?_ (by assumption) (by assumption)))
set_option maxRecDepth 100000 in
set_option maxHeartbeats 8000000 in
theorem ijn_ok (w : World) (lo hi : Nat) (A : Option Addr) (n c : Nat) (M : Nat → Mb) (id : Int) (s : Bool) (a : Nat) (h : Room w lo hi A n M) (hi' : hi ≤ w.heap.size) (hn : n ≤ 1048576) (hnc : n ≤ c) (hb : ∀ i, i < n → (M i).p.n ≤ 1048576) (hok : joinOk n (plain M) id) (ha : JAt n (plain M) id a) :
    Calls Try.prog 20 #[.slice A n c, .int .i64 id, .bool s] w (RmGives (n + 1) (fun i => nm (insR (plain M) a ⟨id, s, 0, fun _ => 0⟩ i)) true w) := by
  obtain ⟨i0, q1, q2, q3, q4⟩ := info_parts info_mb
  have hv := fun W (hw : Below w.heap.size w W) => irv_any W lo hi A n c M (h.below hi' hw) (Nat.le_trans hi' hw.size) hn hb
  have hp := fun W (hw : Below w.heap.size w W) => placeOf_any W lo hi A n c id M (h.1.below hi' hw) (Nat.le_trans hi' hw.size) hn
  have hj := join_ok (x := ⟨id, s, 0, fun _ => 0⟩) hok ha rfl rfl
  have hj : OkM (n + 1) (plain (insM M a ⟨⟨id, s, 0, fun _ => 0⟩, none, 0⟩)) := by rw [plain_ins]; exact hj
  obtain ⟨h1, h2, h3, h4⟩ := hok
  rw [show rmB n (plain M) = true from decide_eq_true h1] at hv
  obtain ⟨pv, hpv⟩ : ∃ v, placeI n (plain M) id = v := ⟨_, rfl⟩
  rw [hpv] at h3
  have hvb : decide (0 ≤ pv) = false := decide_eq_false (by omega)
  have hid0 : ¬ id < 0 := by omega
  have hid9 : ¬ 99 < id := by omega
  have hn6' : n ≤ 5 := by have := h1.1; omega
  have hn6 : ¬ 6 ≤ n := by omega
  have HV := Lib.hid hv
  have HP := Lib.hid hp
  have HJ := Lib.hid hj
  have H := Lib.hid h
  obtain ⟨haL, haB, haE⟩ := ha
  have HBD := Lib.hid (insM_all (P := fun m => m.p.n ≤ 1048576) (x := ⟨⟨id, s, 0, fun _ => 0⟩, none, 0⟩) haL hb (Nat.zero_le _))
  have HWF := Lib.hid (fun i (hi : i < n + 1) => wf_id (HJ.out.rng i hi))
  clear hv hp h h1 h2 h3 h4 hj hb
  go_enter Try.func20, Try.ntmps20
  go_wp2_with fail
  refine (HV.out _ ?_).mono ?_
  focus (repeat (first | (with_reducible exact Below.refl _ _) | (with_reducible refine Bal ?_ _) | (with_reducible refine Below.drew ?_) | (with_reducible refine below_drewN ?_ _) | (with_reducible refine Bset ?_ ?_ _; focus (first | (with_reducible exact Nat.le_refl _) | (simp; done) | (simp; omega) | omega)) | (with_reducible refine Bt ?_ (by assumption)) | (with_reducible refine Bp (g := g) ?_ (by assumption) (by assumption))))
  rintro e w1 ⟨rfl, hb1⟩
  have hz1 := hb1.size
  have HB1 := Lib.hid (show Below w.heap.size w w1 by repeat (first | (with_reducible exact Below.refl _ _) | (with_reducible refine Bal ?_ _) | (with_reducible refine Below.drew ?_) | (with_reducible refine below_drewN ?_ _) | (with_reducible refine Bset ?_ ?_ _; focus (first | (with_reducible exact Nat.le_refl _) | (simp; done) | (simp; omega) | omega)) | (with_reducible refine Bt ?_ (by assumption)) | (with_reducible refine Bp (g := g) ?_ (by assumption) (by assumption))))
  go_wp2_with fail
  refine (HP.out _ HB1.out).mono ?_
  rintro e w2 ⟨rfl, hb2⟩
  rw [hpv]
  have HB2 := Lib.hid (show Below w.heap.size w w2 by repeat (first | (with_reducible exact Below.refl _ _) | (with_reducible refine Bal ?_ _) | (with_reducible refine Below.drew ?_) | (with_reducible refine below_drewN ?_ _) | (with_reducible refine Bset ?_ ?_ _; focus (first | (with_reducible exact Nat.le_refl _) | (simp; done) | (simp; omega) | omega)) | (with_reducible refine Bt ?_ (by assumption)) | (with_reducible refine Bp (g := g) ?_ (by assumption) (by assumption))))
  have hz2 := HB2.out.size
  clear hb1 hb2 HB1 hz1
  go_wp2_with fail
  go_loopw [8] (fun i wr => ∃ k, k ≤ a ∧ i = .int .i64 (k : Nat) ∧ w2 = wr) (fun i _ => a - (intOf i).toNat)
  case atStart => exact ⟨0, Nat.zero_le _, rfl, rfl⟩
  case round =>
    obtain ⟨k, hk, rfl, rfl⟩ := hrel
    have HR2 := Lib.hid (H.out.1.below hi' HB2.out)
    by_cases hka : k < a
    · have hkn : k < n := by omega
      obtain ⟨b, off, rfl, _, hb2, c0, c1, c2⟩ := Mb_at HR2.out hkn
      have hbw : b < w2.heap.size := by omega
      have hid : (M k).p.id < id := haB k hka
      go_wp2_with fail
      go_roundw
      case rel => exact ⟨k + 1, by omega, by go_num, by first | rfl | trivial⟩
      case measure => simp [intOf]; omega
    obtain rfl : k = a := by omega
    clear hka hk haB
    by_cases hkn : k < n
    · obtain ⟨b, off, rfl, _, hb2, c0, c1, c2⟩ := Mb_at HR2.out hkn
      have hbw : b < w2.heap.size := by omega
      have hid : ¬ (M k).p.id < id := Int.not_lt.2 (show id ≤ (M k).p.id from haE hkn)
      have hidb : decide ((M k).p.id < id) = false := decide_eq_false hid
      clear haE HR2
      go_upto_region 9 with (at_make; refine wpList_make_own _ rfl _ _ _ rfl w2.heap.size 28 i0 _ 3 Try.underlying23 q1 q2 q3 .i64 .i64 _ (n + 1) rfl rfl (by omega) (by rw [q4]; omega) (by unfold maxLen; omega) (Nat.le_refl _) ?_; intro w3 hown3 hg3)
      have hb3 : Below w2.heap.size w2 w3 := (Below.refl _ _).grown hg3 (Nat.le_refl _) (by simp)
      have HO3 := Lib.hid (show RowOwn 28 w3 w2.heap.size w3.heap.size (some ⟨w2.heap.size, 0, none⟩) 0 (n + 1) 3 (MbF M) from RowOwn.made hown3)
      have hz3 := hb3.size
      have HB3 := Lib.hid (HB2.out.trans (hb3.mono hz2))
      have HR3 := Lib.hid (H.out.1.below hi' HB3.out)
      clear hown3 hg3 hb3
      go_upto_region 10 with (first | (refine wpList_upto _ rfl (.tmp 52) (.tmp 53) _ _ i0 3 k n c _ rfl rfl rfl Try.underlying23 q1 q3 haL hnc ?_) | (at_builtin; go_loud (refine wpList_rowAppendN _ rfl (.tmp 51) (.tmp 54) _ rfl 28 i0 _ 3 40 Try.underlying23 q1 q2 q3 q4 rfl (by decide) w2.heap.size _ (some ⟨w2.heap.size, 0, none⟩) 0 (n + 1) (MbF M) rfl HO3.out _ _ _ k c (MbF M) rfl (RowAt.upto HR3.out haL) k (Nat.zero_add _) ?_ (by unfold maxLen; omega) (by omega) (by omega) ?_); (focus (intro i hi; exact mb_one _ _)); intro B5 cb5 w5 hO5 hG5 hL5))
      have hb5 : Below w2.heap.size w3 w5 := (Below.refl _ _).grown hG5 (by omega) (fun g hg => (HO3.out.1.lt g hg).1)
      have hz5 := hG5.size
      have HO5 := Lib.hid hO5
      have HB5 := Lib.hid (HB3.out.trans (hb5.mono hz2))
      clear hO5 hG5 hL5 hb5 HR3 HO3
      go_upto_region 11 with (at_builtin; go_loud (refine wpList_rowAppendN _ rfl (.tmp 56) (.tmp 60) _ rfl 28 i0 _ 3 40 Try.underlying23 q1 q2 q3 q4 rfl (by decide) w2.heap.size _ B5 k cb5 _ rfl (RowOwn.alloc HO5.out _) _ _ _ 1 1 _ rfl (mb_at _ w5.heap.size _ _ _ _ rfl) (k + 1) rfl ?_ (by unfold maxLen; omega) (by omega) (by simp; omega) ?_); (focus (intro i hi; rcases (by omega : i = 0 ∨ i = 1 ∨ i = 2) with rfl | rfl | rfl <;> rfl)); intro B6 cb6 w6 hO6 hG6 hL6)
      have hz6 := hG6.size
      simp at hz6
      have hb6 : Below w2.heap.size w5 w6 := ((Below.refl _ _).alloc (by omega) _).grown hG6 (by simp; omega) (fun g hg => (HO5.out.1.lt g hg).1)
      have HO6 := Lib.hid hO6
      have HB6 := Lib.hid (HB5.out.trans (hb6.mono hz2))
      have HR6 := Lib.hid (H.out.1.below hi' HB6.out)
      clear hO6 hG6 hL6 hb6 HO5
      go_upto_region 12 with (first | (refine wpList_from _ rfl (.tmp 63) (.tmp 64) _ _ i0 3 k n c _ rfl rfl rfl Try.underlying23 q1 q3 haL hnc ?_) | (at_builtin; go_loud (refine wpList_rowAppendN _ rfl (.tmp 62) (.tmp 65) _ rfl 28 i0 _ 3 40 Try.underlying23 q1 q2 q3 q4 rfl (by decide) w2.heap.size _ B6 (k + 1) cb6 _ rfl HO6.out _ _ _ (n - k) (c - k) _ rfl (RowAt.from HR6.out haL hnc) (n + 1) (by omega) ?_ (by unfold maxLen; omega) (by omega) (by omega) ?_); (focus (intro i hi; exact mb_one _ _)); intro B7 cb7 w7 hO7 hG7 hL7))
      have hz7 := hG7.size
      have hb7 : Below w2.heap.size w6 w7 := (Below.refl _ _).grown hG7 (by omega) (fun g hg => (HO6.out.1.lt g hg).1)
      have HB7 := Lib.hid (HB6.out.trans (hb7.mono hz2))
      have HO7 := Lib.hid (ins_mb (x := ⟨⟨id, s, 0, fun _ => 0⟩, none, 0⟩) haL hO7)
      have hzw7 := HB7.out.size
      have HR7 := Lib.hid (show Room w7 0 w7.heap.size B7 (n + 1) (insM M k ⟨⟨id, s, 0, fun _ => 0⟩, none, 0⟩) from ⟨HO7.out.row.wide (Nat.zero_le _) (Nat.le_refl _), insM_all (P := fun m => Ints w7 0 w7.heap.size m.A m.p.n m.p.z) haL (fun i hi => ((H.out.2 i hi).below hi' HB7.out).wide (Nat.zero_le _) (by omega)) (Ints.nil _ _ _ _ _)⟩)
      clear hO7 hG7 hL7 hb7 HO6 HR6
      go_wp2_with fail
      refine (inew_any w7 0 w7.heap.size B7 (n + 1) cb7 _ HR7.out (Nat.le_refl _) (by omega) HBD.out HWF.out).mono ?_
      rintro e w8 ⟨rfl, hT8, hb8⟩
      have HT8 := Lib.hid hT8
      have hz8 := hb8.size
      have HR8 := Lib.hid (HR7.out.1.below (Nat.le_refl _) hb8)
      have HB8 := Lib.hid (HB7.out.trans (hb8.mono hzw7))
      clear hT8 hb8
      go_wp2_with fail
      refine (iroom_any w8 0 w7.heap.size w7.heap.size (n + 1) _ B7 (n + 1) cb7 _ HT8.out HR8.out hz8 (by omega) HWF.out ?_).mono ?_
      · intro i hi
        rw [show ((insM M k ⟨⟨id, s, 0, fun _ => 0⟩, none, 0⟩) i).p.id = (plain (insM M k ⟨⟨id, s, 0, fun _ => 0⟩, none, 0⟩) i).id from rfl, HJ.out.hL hi, lz_len]
        exact HBD.out i hi
      rintro e w9 ⟨B9, cb9, M9, hO9, hP9, rfl, hb9⟩
      have HO9 := Lib.hid (hO9.wide (lo' := w.heap.size) HB8.out.size)
      have HP9 := Lib.hid hP9
      have HB9 := Lib.hid (HB8.out.trans (hb9.mono HB8.out.size))
      clear hO9 hP9 hb9
      go_wp2_with fail
      refine bodyPost_retE rfl ?_
      apply Exists.intro
      refine ⟨?_, ?_⟩
      · simp only [results, Try.results20]
        go_simp
        first | done | rfl
      go_light
      refine ⟨B9, cb9, M9, HO9.out, fun i hi => (HP9.out i hi).trans ?_, rfl, HB9.out⟩
      rw [show ((insM M k ⟨⟨id, s, 0, fun _ => 0⟩, none, 0⟩) i).p.id = (plain (insM M k ⟨⟨id, s, 0, fun _ => 0⟩, none, 0⟩) i).id from rfl, HJ.out.hL hi]
      exact congrArg nm (congrFun (plain_ins (M := M) (a := k) (x := ⟨⟨id, s, 0, fun _ => 0⟩, none, 0⟩)) i)
    · clear haE HR2
      go_upto_region 9 with (at_make; refine wpList_make_own _ rfl _ _ _ rfl w2.heap.size 28 i0 _ 3 Try.underlying23 q1 q2 q3 .i64 .i64 _ (n + 1) rfl rfl (by omega) (by rw [q4]; omega) (by unfold maxLen; omega) (Nat.le_refl _) ?_; intro w3 hown3 hg3)
      have hb3 : Below w2.heap.size w2 w3 := (Below.refl _ _).grown hg3 (Nat.le_refl _) (by simp)
      have HO3 := Lib.hid (show RowOwn 28 w3 w2.heap.size w3.heap.size (some ⟨w2.heap.size, 0, none⟩) 0 (n + 1) 3 (MbF M) from RowOwn.made hown3)
      have hz3 := hb3.size
      have HB3 := Lib.hid (HB2.out.trans (hb3.mono hz2))
      have HR3 := Lib.hid (H.out.1.below hi' HB3.out)
      clear hown3 hg3 hb3
      go_upto_region 10 with (first | (refine wpList_upto _ rfl (.tmp 52) (.tmp 53) _ _ i0 3 k n c _ rfl rfl rfl Try.underlying23 q1 q3 haL hnc ?_) | (at_builtin; go_loud (refine wpList_rowAppendN _ rfl (.tmp 51) (.tmp 54) _ rfl 28 i0 _ 3 40 Try.underlying23 q1 q2 q3 q4 rfl (by decide) w2.heap.size _ (some ⟨w2.heap.size, 0, none⟩) 0 (n + 1) (MbF M) rfl HO3.out _ _ _ k c (MbF M) rfl (RowAt.upto HR3.out haL) k (Nat.zero_add _) ?_ (by unfold maxLen; omega) (by omega) (by omega) ?_); (focus (intro i hi; exact mb_one _ _)); intro B5 cb5 w5 hO5 hG5 hL5))
      have hb5 : Below w2.heap.size w3 w5 := (Below.refl _ _).grown hG5 (by omega) (fun g hg => (HO3.out.1.lt g hg).1)
      have hz5 := hG5.size
      have HO5 := Lib.hid hO5
      have HB5 := Lib.hid (HB3.out.trans (hb5.mono hz2))
      clear hO5 hG5 hL5 hb5 HR3 HO3
      go_upto_region 11 with (at_builtin; go_loud (refine wpList_rowAppendN _ rfl (.tmp 56) (.tmp 60) _ rfl 28 i0 _ 3 40 Try.underlying23 q1 q2 q3 q4 rfl (by decide) w2.heap.size _ B5 k cb5 _ rfl (RowOwn.alloc HO5.out _) _ _ _ 1 1 _ rfl (mb_at _ w5.heap.size _ _ _ _ rfl) (k + 1) rfl ?_ (by unfold maxLen; omega) (by omega) (by simp; omega) ?_); (focus (intro i hi; rcases (by omega : i = 0 ∨ i = 1 ∨ i = 2) with rfl | rfl | rfl <;> rfl)); intro B6 cb6 w6 hO6 hG6 hL6)
      have hz6 := hG6.size
      simp at hz6
      have hb6 : Below w2.heap.size w5 w6 := ((Below.refl _ _).alloc (by omega) _).grown hG6 (by simp; omega) (fun g hg => (HO5.out.1.lt g hg).1)
      have HO6 := Lib.hid hO6
      have HB6 := Lib.hid (HB5.out.trans (hb6.mono hz2))
      have HR6 := Lib.hid (H.out.1.below hi' HB6.out)
      clear hO6 hG6 hL6 hb6 HO5
      go_upto_region 12 with (first | (refine wpList_from _ rfl (.tmp 63) (.tmp 64) _ _ i0 3 k n c _ rfl rfl rfl Try.underlying23 q1 q3 haL hnc ?_) | (at_builtin; go_loud (refine wpList_rowAppendN _ rfl (.tmp 62) (.tmp 65) _ rfl 28 i0 _ 3 40 Try.underlying23 q1 q2 q3 q4 rfl (by decide) w2.heap.size _ B6 (k + 1) cb6 _ rfl HO6.out _ _ _ (n - k) (c - k) _ rfl (RowAt.from HR6.out haL hnc) (n + 1) (by omega) ?_ (by unfold maxLen; omega) (by omega) (by omega) ?_); (focus (intro i hi; exact mb_one _ _)); intro B7 cb7 w7 hO7 hG7 hL7))
      have hz7 := hG7.size
      have hb7 : Below w2.heap.size w6 w7 := (Below.refl _ _).grown hG7 (by omega) (fun g hg => (HO6.out.1.lt g hg).1)
      have HB7 := Lib.hid (HB6.out.trans (hb7.mono hz2))
      have HO7 := Lib.hid (ins_mb (x := ⟨⟨id, s, 0, fun _ => 0⟩, none, 0⟩) haL hO7)
      have hzw7 := HB7.out.size
      have HR7 := Lib.hid (show Room w7 0 w7.heap.size B7 (n + 1) (insM M k ⟨⟨id, s, 0, fun _ => 0⟩, none, 0⟩) from ⟨HO7.out.row.wide (Nat.zero_le _) (Nat.le_refl _), insM_all (P := fun m => Ints w7 0 w7.heap.size m.A m.p.n m.p.z) haL (fun i hi => ((H.out.2 i hi).below hi' HB7.out).wide (Nat.zero_le _) (by omega)) (Ints.nil _ _ _ _ _)⟩)
      clear hO7 hG7 hL7 hb7 HO6 HR6
      go_wp2_with fail
      refine (inew_any w7 0 w7.heap.size B7 (n + 1) cb7 _ HR7.out (Nat.le_refl _) (by omega) HBD.out HWF.out).mono ?_
      rintro e w8 ⟨rfl, hT8, hb8⟩
      have HT8 := Lib.hid hT8
      have hz8 := hb8.size
      have HR8 := Lib.hid (HR7.out.1.below (Nat.le_refl _) hb8)
      have HB8 := Lib.hid (HB7.out.trans (hb8.mono hzw7))
      clear hT8 hb8
      go_wp2_with fail
      refine (iroom_any w8 0 w7.heap.size w7.heap.size (n + 1) _ B7 (n + 1) cb7 _ HT8.out HR8.out hz8 (by omega) HWF.out ?_).mono ?_
      · intro i hi
        rw [show ((insM M k ⟨⟨id, s, 0, fun _ => 0⟩, none, 0⟩) i).p.id = (plain (insM M k ⟨⟨id, s, 0, fun _ => 0⟩, none, 0⟩) i).id from rfl, HJ.out.hL hi, lz_len]
        exact HBD.out i hi
      rintro e w9 ⟨B9, cb9, M9, hO9, hP9, rfl, hb9⟩
      have HO9 := Lib.hid (hO9.wide (lo' := w.heap.size) HB8.out.size)
      have HP9 := Lib.hid hP9
      have HB9 := Lib.hid (HB8.out.trans (hb9.mono HB8.out.size))
      clear hO9 hP9 hb9
      go_wp2_with fail
      refine bodyPost_retE rfl ?_
      apply Exists.intro
      refine ⟨?_, ?_⟩
      · simp only [results, Try.results20]
        go_simp
        first | done | rfl
      go_light
      refine ⟨B9, cb9, M9, HO9.out, fun i hi => (HP9.out i hi).trans ?_, rfl, HB9.out⟩
      rw [show ((insM M k ⟨⟨id, s, 0, fun _ => 0⟩, none, 0⟩) i).p.id = (plain (insM M k ⟨⟨id, s, 0, fun _ => 0⟩, none, 0⟩) i).id from rfl, HJ.out.hL hi]
      exact congrArg nm (congrFun (plain_ins (M := M) (a := k) (x := ⟨⟨id, s, 0, fun _ => 0⟩, none, 0⟩)) i)
end Go.Proofs.Ytelcclhaepfmgaa
