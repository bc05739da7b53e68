/- Rooms: who hears another one, by the program. -/
import Derived.Test.YtelcclhaepfmgaaRhm
namespace Go.Proofs.Ytelcclhaepfmgaa
open Go Go.RowKit Go.Maps
set_option linter.unusedVariables false
set_option linter.unusedSimpArgs false
theorem hasB_at (l : List Int) (v : Int) : hasB l.length (atL l) v = decide (v ∈ l) := by
  have h := hasB_lz (mkM 0 false l) v
  rw [lz_mk] at h
  exact h
theorem woL_atL (l : List Int) (v : Int) : woL (atL l) v l.length = l.filter (fun x => decide (x ≠ v)) := by
  have h := woL_lz (mkM 0 false l) v
  rw [lz_mk] at h
  exact h
theorem addL_atL (l : List Int) (v : Int) : addL (atL l) v l.length = l.filter (fun x => decide (x < v)) ++ [v] ++ l.filter (fun x => decide (v < x)) := by
  have h := addL_lz (mkM 0 false l) v
  rw [lz_mk] at h
  exact h
theorem atR_miss_lt {n : Nat} {r : Nat → Mm} {v : Int} (h : placeI n r v < 0) : ¬ atR r v n < n := fun e => placeI_lt e h
theorem Exc.toBelowH {X : Nat → Prop} {w w' : World} {B : Nat} (h : Exc X w w') (hX : ∀ k, k < B → ¬ X k) (hB : B ≤ w.heap.size) : Below B w w' := ⟨h.os, h.tape, h.output, h.size, fun k hk => h.block k (by omega) (hX k hk)⟩
set_option maxRecDepth 100000 in
set_option maxHeartbeats 8000000 in
theorem ihr_no (w : World) (lo hi : Nat) (A : Option Addr) (n c : Nat) (M : Nat → Mb) (id other : Int) (on : Bool) (h : Room w lo hi A n M) (hi' : hi ≤ w.heap.size) (hn : n ≤ 1048576) (hb : ∀ i, i < n → (M i).p.n ≤ 1048576) (hno : ¬ hearOk n (plain M) id other on) :
    Calls Try.prog 30 #[.slice A n c, .int .i64 id, .int .i64 other, .bool on] w (RmNo w) := by
  have hv := fun W (hw : Below w.heap.size w W) => irv_any W lo hi A n c M (h.below hi' hw) (Nat.le_trans hi' hw.size) hn hb
  have hp := fun W (hw : Below w.heap.size w W) => placeOf_any W lo hi A n c id M (h.1.below hi' hw) (Nat.le_trans hi' hw.size) hn
  have hq := fun W (hw : Below w.heap.size w W) => placeOf_any W lo hi A n c other M (h.1.below hi' hw) (Nat.le_trans hi' hw.size) hn
  by_cases h1 : RmOk n (plain M)
  rotate_left
  · rw [show rmB n (plain M) = false from decide_eq_false h1] at hv
    have HV := Lib.hid hv
    clear hv hp hq h hno h1
    go_enter Try.func30, Try.ntmps30
    go_wp2_with fail
    refine (HV.out _ ?_).mono ?_
    focus (repeat (first | (with_reducible exact Below.refl _ _) | (with_reducible refine Bal ?_ _) | (with_reducible refine Below.drew ?_) | (with_reducible refine below_drewN ?_ _) | (with_reducible refine Bset ?_ ?_ _; focus (first | (with_reducible exact Nat.le_refl _) | (simp; done) | (simp; omega) | omega)) | (with_reducible refine Bt ?_ (by assumption)) | (with_reducible refine Bp (g := g) ?_ (by assumption) (by assumption))))
    rintro e w1 ⟨rfl, hb1⟩
    have HB1 := Lib.hid (show Below w.heap.size w w1 by repeat (first | (with_reducible exact Below.refl _ _) | (with_reducible refine Bal ?_ _) | (with_reducible refine Below.drew ?_) | (with_reducible refine below_drewN ?_ _) | (with_reducible refine Bset ?_ ?_ _; focus (first | (with_reducible exact Nat.le_refl _) | (simp; done) | (simp; omega) | omega)) | (with_reducible refine Bt ?_ (by assumption)) | (with_reducible refine Bp (g := g) ?_ (by assumption) (by assumption))))
    have hz1 := HB1.out.size
    clear hb1
    go_wp2_with fail
    refine bodyPost_retE rfl ?_
    apply Exists.intro
    refine ⟨?_, ?_⟩
    · simp only [results, Try.results30]
      go_simp
      first | done | rfl
    go_light
    refine ⟨_, rfl, no_row (wx := w1) rfl hz1, ?_⟩
    exact HB1.out.alloc hz1 _
  rw [show rmB n (plain M) = true from decide_eq_true h1] at hv
  have hr := okM_iff.1 h1
  have HV := Lib.hid hv
  have HP := Lib.hid hp
  have HQ := Lib.hid hq
  have H := Lib.hid h
  clear hv hp hq h
  obtain ⟨pv, hpv⟩ : ∃ v, placeI n (plain M) id = v := ⟨_, rfl⟩
  obtain ⟨pq, hpq⟩ : ∃ v, placeI n (plain M) other = v := ⟨_, rfl⟩
  by_cases h2 : pv < 0
  · clear hno h1 hr
    go_enter Try.func30, Try.ntmps30
    go_wp2_with fail
    refine (HV.out _ ?_).mono ?_
    focus (repeat (first | (with_reducible exact Below.refl _ _) | (with_reducible refine Bal ?_ _) | (with_reducible refine Below.drew ?_) | (with_reducible refine below_drewN ?_ _) | (with_reducible refine Bset ?_ ?_ _; focus (first | (with_reducible exact Nat.le_refl _) | (simp; done) | (simp; omega) | omega)) | (with_reducible refine Bt ?_ (by assumption)) | (with_reducible refine Bp (g := g) ?_ (by assumption) (by assumption))))
    rintro e w1 ⟨rfl, hb1⟩
    have HB1 := Lib.hid (show Below w.heap.size w w1 by repeat (first | (with_reducible exact Below.refl _ _) | (with_reducible refine Bal ?_ _) | (with_reducible refine Below.drew ?_) | (with_reducible refine below_drewN ?_ _) | (with_reducible refine Bset ?_ ?_ _; focus (first | (with_reducible exact Nat.le_refl _) | (simp; done) | (simp; omega) | omega)) | (with_reducible refine Bt ?_ (by assumption)) | (with_reducible refine Bp (g := g) ?_ (by assumption) (by assumption))))
    have hz1 := HB1.out.size
    clear hb1
    go_wp2_with fail
    refine (HP.out _ HB1.out).mono ?_
    rintro e w2 ⟨rfl, hb2⟩
    rw [hpv]
    have HB2 := Lib.hid (show Below w.heap.size w w2 from HB1.out.trans (hb2.mono hz1))
    have hz2 := HB2.out.size
    clear hb2 HB1 hz1
    go_wp2_with fail
    refine bodyPost_retE rfl ?_
    apply Exists.intro
    refine ⟨?_, ?_⟩
    · simp only [results, Try.results30]
      go_simp
      first | done | rfl
    go_light
    refine ⟨_, rfl, no_row (wx := w2) rfl hz2, ?_⟩
    exact HB2.out.alloc hz2 _
  by_cases h3 : pq < 0
  · clear hno h1 hr
    go_enter Try.func30, Try.ntmps30
    go_wp2_with fail
    refine (HV.out _ ?_).mono ?_
    focus (repeat (first | (with_reducible exact Below.refl _ _) | (with_reducible refine Bal ?_ _) | (with_reducible refine Below.drew ?_) | (with_reducible refine below_drewN ?_ _) | (with_reducible refine Bset ?_ ?_ _; focus (first | (with_reducible exact Nat.le_refl _) | (simp; done) | (simp; omega) | omega)) | (with_reducible refine Bt ?_ (by assumption)) | (with_reducible refine Bp (g := g) ?_ (by assumption) (by assumption))))
    rintro e w1 ⟨rfl, hb1⟩
    have HB1 := Lib.hid (show Below w.heap.size w w1 by repeat (first | (with_reducible exact Below.refl _ _) | (with_reducible refine Bal ?_ _) | (with_reducible refine Below.drew ?_) | (with_reducible refine below_drewN ?_ _) | (with_reducible refine Bset ?_ ?_ _; focus (first | (with_reducible exact Nat.le_refl _) | (simp; done) | (simp; omega) | omega)) | (with_reducible refine Bt ?_ (by assumption)) | (with_reducible refine Bp (g := g) ?_ (by assumption) (by assumption))))
    have hz1 := HB1.out.size
    clear hb1
    go_wp2_with fail
    refine (HP.out _ HB1.out).mono ?_
    rintro e w2 ⟨rfl, hb2⟩
    rw [hpv]
    have HB2 := Lib.hid (show Below w.heap.size w w2 from HB1.out.trans (hb2.mono hz1))
    have hz2 := HB2.out.size
    clear hb2 HB1 hz1
    go_wp2_with fail
    refine (HQ.out _ HB2.out).mono ?_
    rintro e w3 ⟨rfl, hb3⟩
    rw [hpq]
    have HB3 := Lib.hid (show Below w.heap.size w w3 from HB2.out.trans (hb3.mono hz2))
    have hz3 := HB3.out.size
    clear hb3 HB2 hz2
    go_wp2_with fail
    refine bodyPost_retE rfl ?_
    apply Exists.intro
    refine ⟨?_, ?_⟩
    · simp only [results, Try.results30]
      go_simp
      first | done | rfl
    go_light
    refine ⟨_, rfl, no_row (wx := w3) rfl hz3, ?_⟩
    exact HB3.out.alloc hz3 _
  by_cases h4 : id = other
  · clear hno h1 hr
    subst h4
    go_enter Try.func30, Try.ntmps30
    go_wp2_with fail
    refine (HV.out _ ?_).mono ?_
    focus (repeat (first | (with_reducible exact Below.refl _ _) | (with_reducible refine Bal ?_ _) | (with_reducible refine Below.drew ?_) | (with_reducible refine below_drewN ?_ _) | (with_reducible refine Bset ?_ ?_ _; focus (first | (with_reducible exact Nat.le_refl _) | (simp; done) | (simp; omega) | omega)) | (with_reducible refine Bt ?_ (by assumption)) | (with_reducible refine Bp (g := g) ?_ (by assumption) (by assumption))))
    rintro e w1 ⟨rfl, hb1⟩
    have HB1 := Lib.hid (show Below w.heap.size w w1 by repeat (first | (with_reducible exact Below.refl _ _) | (with_reducible refine Bal ?_ _) | (with_reducible refine Below.drew ?_) | (with_reducible refine below_drewN ?_ _) | (with_reducible refine Bset ?_ ?_ _; focus (first | (with_reducible exact Nat.le_refl _) | (simp; done) | (simp; omega) | omega)) | (with_reducible refine Bt ?_ (by assumption)) | (with_reducible refine Bp (g := g) ?_ (by assumption) (by assumption))))
    have hz1 := HB1.out.size
    clear hb1
    go_wp2_with fail
    refine (HP.out _ HB1.out).mono ?_
    rintro e w2 ⟨rfl, hb2⟩
    rw [hpv]
    have HB2 := Lib.hid (show Below w.heap.size w w2 from HB1.out.trans (hb2.mono hz1))
    have hz2 := HB2.out.size
    clear hb2 HB1 hz1
    go_wp2_with fail
    refine (HQ.out _ HB2.out).mono ?_
    rintro e w3 ⟨rfl, hb3⟩
    rw [hpq]
    have HB3 := Lib.hid (show Below w.heap.size w w3 from HB2.out.trans (hb3.mono hz2))
    have hz3 := HB3.out.size
    clear hb3 HB2 hz2
    go_wp2_with fail
    refine bodyPost_retE rfl ?_
    apply Exists.intro
    refine ⟨?_, ?_⟩
    · simp only [results, Try.results30]
      go_simp
      first | done | rfl
    go_light
    refine ⟨_, rfl, no_row (wx := w3) rfl hz3, ?_⟩
    exact HB3.out.alloc hz3 _
  have ha : atR (plain M) id n < n := atR_lt (by rw [hpv]; exact h2)
  have hai := atR_spec ha
  obtain ⟨a, hae⟩ : ∃ a, atR (plain M) id n = a := ⟨_, rfl⟩
  have h5 : hasB (plain M a).n (plain M a).z other = on := Classical.byContradiction fun k => hno ⟨h1, ha, by rw [hpq]; exact h3, h4, by rw [hae]; exact k⟩
  rw [hae] at ha hai
  have hTa : hL (plain M) n id = lz (plain M a) := by rw [← hai]; exact hr.hL ha
  have h5 : hasB (hL (plain M) n id).length (atL (hL (plain M) n id)) other = on := by rw [hasB_at, hTa, ← hasB_lz]; exact h5
  have hTn : (hL (plain M) n id).length ≤ 1048576 := by rw [hTa, lz_len]; exact hb a ha
  have hwi : (Lit.int .i64 id).wf = true := wf_id (by have := hr.rng a ha; rw [hai] at this; exact this)
  have H5 := Lib.hid h5
  have HTN := Lib.hid hTn
  have HWI := Lib.hid hwi
  have HBD := Lib.hid hb
  have HWF := Lib.hid (fun i (hi : i < n) => wf_id (hr.rng i hi))
  have hidb : (id == other) = false := beq_false_of_ne h4
  clear hno h1 hr ha hai h5 hTn hwi hTa hae hb
  go_enter Try.func30, Try.ntmps30
  go_wp2_with fail
  refine (HV.out _ ?_).mono ?_
  focus (repeat (first | (with_reducible exact Below.refl _ _) | (with_reducible refine Bal ?_ _) | (with_reducible refine Below.drew ?_) | (with_reducible refine below_drewN ?_ _) | (with_reducible refine Bset ?_ ?_ _; focus (first | (with_reducible exact Nat.le_refl _) | (simp; done) | (simp; omega) | omega)) | (with_reducible refine Bt ?_ (by assumption)) | (with_reducible refine Bp (g := g) ?_ (by assumption) (by assumption))))
  rintro e w1 ⟨rfl, hb1⟩
  have HB1 := Lib.hid (show Below w.heap.size w w1 by repeat (first | (with_reducible exact Below.refl _ _) | (with_reducible refine Bal ?_ _) | (with_reducible refine Below.drew ?_) | (with_reducible refine below_drewN ?_ _) | (with_reducible refine Bset ?_ ?_ _; focus (first | (with_reducible exact Nat.le_refl _) | (simp; done) | (simp; omega) | omega)) | (with_reducible refine Bt ?_ (by assumption)) | (with_reducible refine Bp (g := g) ?_ (by assumption) (by assumption))))
  have hz1 := HB1.out.size
  clear hb1
  go_wp2_with fail
  refine (HP.out _ HB1.out).mono ?_
  rintro e w2 ⟨rfl, hb2⟩
  rw [hpv]
  have HB2 := Lib.hid (show Below w.heap.size w w2 from HB1.out.trans (hb2.mono hz1))
  have hz2 := HB2.out.size
  clear hb2 HB1 hz1
  go_wp2_with fail
  refine (HQ.out _ HB2.out).mono ?_
  rintro e w3 ⟨rfl, hb3⟩
  rw [hpq]
  have HB3 := Lib.hid (show Below w.heap.size w w3 from HB2.out.trans (hb3.mono hz2))
  have hz3 := HB3.out.size
  clear hb3 HB2 hz2
  go_wp2_with fail
  refine (inew_any w3 lo hi _ n c M (H.out.below hi' HB3.out) (by omega) hn HBD.out HWF.out).mono ?_
  rintro e w4 ⟨rfl, hT4, hb4⟩
  have HT4 := Lib.hid hT4
  have hz4 := hT4.lt
  have HB4 := Lib.hid (HB3.out.trans (hb4.mono hz3))
  clear hT4 hb4 HB3
  go_wp2_with fail
  have hh4 : Calls Try.prog 55 #[.map (some w3.heap.size), .int .i64 id, .int .i64 other] w4 fun e w' => e = .returned (.bool (hasB (hL (plain M) n id).length (atL (hL (plain M) n id)) other)) ∧ Below w4.heap.size w4 w' := by
    obtain ⟨TA, Tc, hT⟩ := HT4.out
    exact ihears_any w4 (w3.heap.size + 1) w4.heap.size w3.heap.size n _ (TA id) (hL (plain M) n id).length (Tc id) id other (atL (hL (plain M) n id)) hT.1 HWI.out rfl (hT.2 id).ints (Nat.le_refl _) HTN.out
  rw [H5.out] at hh4
  refine hh4.mono ?_
  clear hh4
  rintro e w5 ⟨rfl, hb5⟩
  have HT5 := Lib.hid (HT4.out.below hb5)
  have HB5 := Lib.hid (HB4.out.trans (hb5.mono (by omega)))
  have hz5 := HB5.out.size
  have hzb5 := HT5.out.lt
  clear hb5 HT4 HB4
  go_wp2_with fail
  refine bodyPost_retE rfl ?_
  apply Exists.intro
  refine ⟨?_, ?_⟩
  · simp only [results, Try.results30]
    go_simp
    first | done | rfl
  go_light
  refine ⟨_, rfl, no_row (wx := w5) rfl hz5, ?_⟩
  exact HB5.out.alloc hz5 _
set_option maxRecDepth 100000 in
set_option maxHeartbeats 8000000 in
theorem ihr_ok (w : World) (lo hi : Nat) (A : Option Addr) (n c : Nat) (M : Nat → Mb) (id other : Int) (on : Bool) (a : Nat) (h : Room w lo hi A n M) (hi' : hi ≤ w.heap.size) (hn : n ≤ 1048576) (hb : ∀ i, i < n → (M i).p.n ≤ 1048576) (ha : atR (plain M) id n = a) (hok : hearOk n (plain M) id other on) :
    Calls Try.prog 30 #[.slice A n c, .int .i64 id, .int .i64 other, .bool on] w (RmGives n (fun i => nm (putR (plain M) a (hrL (plain M) (plain M a) other on n) i)) true w) := by
  have hv := fun W (hw : Below w.heap.size w W) => irv_any W lo hi A n c M (h.below hi' hw) (Nat.le_trans hi' hw.size) hn hb
  have hp := fun W (hw : Below w.heap.size w W) => placeOf_any W lo hi A n c id M (h.1.below hi' hw) (Nat.le_trans hi' hw.size) hn
  have hq := fun W (hw : Below w.heap.size w W) => placeOf_any W lo hi A n c other M (h.1.below hi' hw) (Nat.le_trans hi' hw.size) hn
  obtain ⟨h1, h2, h3, h4, h5⟩ := hok
  rw [ha] at h2 h5
  rw [show rmB n (plain M) = true from decide_eq_true h1] at hv
  have hr := okM_iff.1 h1
  have hai := atR_spec (show atR (plain M) id n < n by rw [ha]; exact h2)
  rw [ha] at hai
  have hpa : ¬ placeI n (plain M) id < 0 := placeI_lt (by rw [ha]; exact h2)
  have hTa : hL (plain M) n id = lz (plain M a) := by rw [← hai]; exact hr.hL h2
  have hres : (if on = true then addL (atL (hL (plain M) n id)) other (hL (plain M) n id).length else woL (atL (hL (plain M) n id)) other (hL (plain M) n id).length) = hrL (plain M) (plain M a) other on n := by
    rw [← hear_same hr h2 (ids_of.1 h3), addL_atL, woL_atL, addL_lz, woL_lz, hTa]
  have hrn := hrL_len (plain M) (plain M a) other on n
  have hin : hasB (hL (plain M) n id).length (atL (hL (plain M) n id)) other = !on := by
    rw [hasB_at, hTa, ← hasB_lz]
    generalize hasB (plain M a).n (plain M a).z other = x at h5
    cases x <;> cases on <;> first | rfl | exact absurd rfl h5
  have hTn : (hL (plain M) n id).length ≤ 1048576 := by rw [hTa, lz_len]; exact hb a h2
  have hwi : (Lit.int .i64 id).wf = true := wf_id (by have := hr.rng a h2; rw [hai] at this; exact this)
  obtain ⟨pv, hpv⟩ : ∃ v, placeI n (plain M) id = v := ⟨_, rfl⟩
  obtain ⟨pq, hpq⟩ : ∃ v, placeI n (plain M) other = v := ⟨_, rfl⟩
  rw [hpv] at hpa
  rw [hpq] at h3
  have hidb : (id == other) = false := beq_false_of_ne h4
  have HV := Lib.hid hv
  have HP := Lib.hid hp
  have HQ := Lib.hid hq
  have H := Lib.hid h
  have HTN := Lib.hid hTn
  have HWI := Lib.hid hwi
  have HBD := Lib.hid hb
  have HR := Lib.hid hr
  have HRN := Lib.hid hrn
  have HWF := Lib.hid (fun i (hi : i < n) => wf_id (hr.rng i hi))
  have HRES := Lib.hid hres
  have HAI := Lib.hid hai
  have H2 := Lib.hid h2
  have H5 := Lib.hid hin
  clear hv hp hq h h1 h2 h5 hr hai hTa hres hin hTn hwi hb ha hrn
  cases on
  all_goals (
    go_enter Try.func30, Try.ntmps30
    go_wp2_with fail
    refine (HV.out _ ?_).mono ?_
    focus (repeat (first | (with_reducible exact Below.refl _ _) | (with_reducible refine Bal ?_ _) | (with_reducible refine Below.drew ?_) | (with_reducible refine below_drewN ?_ _) | (with_reducible refine Bset ?_ ?_ _; focus (first | (with_reducible exact Nat.le_refl _) | (simp; done) | (simp; omega) | omega)) | (with_reducible refine Bt ?_ (by assumption)) | (with_reducible refine Bp (g := g) ?_ (by assumption) (by assumption))))
    rintro e w1 ⟨rfl, hb1⟩
    have HB1 := Lib.hid (show Below w.heap.size w w1 by repeat (first | (with_reducible exact Below.refl _ _) | (with_reducible refine Bal ?_ _) | (with_reducible refine Below.drew ?_) | (with_reducible refine below_drewN ?_ _) | (with_reducible refine Bset ?_ ?_ _; focus (first | (with_reducible exact Nat.le_refl _) | (simp; done) | (simp; omega) | omega)) | (with_reducible refine Bt ?_ (by assumption)) | (with_reducible refine Bp (g := g) ?_ (by assumption) (by assumption))))
    have hz1 := HB1.out.size
    clear hb1
    go_wp2_with fail
    refine (HP.out _ HB1.out).mono ?_
    rintro e w2 ⟨rfl, hb2⟩
    rw [hpv]
    have HB2 := Lib.hid (show Below w.heap.size w w2 from HB1.out.trans (hb2.mono hz1))
    have hz2 := HB2.out.size
    clear hb2 HB1 hz1
    go_wp2_with fail
    refine (HQ.out _ HB2.out).mono ?_
    rintro e w3 ⟨rfl, hb3⟩
    rw [hpq]
    have HB3 := Lib.hid (show Below w.heap.size w w3 from HB2.out.trans (hb3.mono hz2))
    have hz3 := HB3.out.size
    clear hb3 HB2 hz2
    go_wp2_with fail
    refine (inew_any w3 lo hi _ n c M (H.out.below hi' HB3.out) (by omega) hn HBD.out HWF.out).mono ?_
    rintro e w4 ⟨rfl, hT4, hb4⟩
    have HT4 := Lib.hid hT4
    have hz4 := hT4.lt
    have HB4 := Lib.hid (HB3.out.trans (hb4.mono hz3))
    clear hT4 hb4 HB3
    go_wp2_with fail
    have hh4 : Calls Try.prog 55 #[.map (some w3.heap.size), .int .i64 id, .int .i64 other] w4 fun e w' => e = .returned (.bool (hasB (hL (plain M) n id).length (atL (hL (plain M) n id)) other)) ∧ Below w4.heap.size w4 w' := by
      obtain ⟨TA, Tc, hT⟩ := HT4.out
      exact ihears_any w4 (w3.heap.size + 1) w4.heap.size w3.heap.size n _ (TA id) (hL (plain M) n id).length (Tc id) id other (atL (hL (plain M) n id)) hT.1 HWI.out rfl (hT.2 id).ints (Nat.le_refl _) HTN.out
    rw [H5.out] at hh4
    refine hh4.mono ?_
    clear hh4
    rintro e w5 ⟨rfl, hb5⟩
    have HT5 := Lib.hid (HT4.out.below hb5)
    have HB5 := Lib.hid (HB4.out.trans (hb5.mono (by omega)))
    have hz5 := HB5.out.size
    have hzb5 := HT5.out.lt
    clear hb5 HT4 HB4
    go_wp2_with fail
    obtain ⟨TA, Tc, hT⟩ := HT5.out
    first
      | (refine (iadd_any w5 (w3.heap.size + 1) w5.heap.size w3.heap.size n (fun v => slV ⟨TA v, (hL (plain M) n v).length, Tc v, atL (hL (plain M) n v)⟩) (TA id) (hL (plain M) n id).length (Tc id) id other (atL (hL (plain M) n id)) hT.1 hn HWI.out rfl (hT.2 id).ints (Nat.le_refl _) HTN.out).mono ?_)
      | (refine (idrop_any w5 (w3.heap.size + 1) w5.heap.size w3.heap.size n (fun v => slV ⟨TA v, (hL (plain M) n v).length, Tc v, atL (hL (plain M) n v)⟩) (TA id) (hL (plain M) n id).length (Tc id) id other (atL (hL (plain M) n id)) hT.1 hn HWI.out rfl (hT.2 id).ints (Nat.le_refl _) HTN.out).mono ?_)
    rintro e w6 hp6
    obtain ⟨rfl, hT6, hE6⟩ := Hg.put hT hp6
    have hres := HRES.out
    simp only [if_true, if_false, Bool.false_eq_true] at hres
    rw [hres] at hT6
    have HT6 := Lib.hid hT6
    have hz6 := hE6.size
    have HB6 := Lib.hid (HB5.out.trans (hE6.toBelowH (B := w.heap.size) (fun g hg e => by omega) (by omega)))
    have HR6 := Lib.hid (H.out.1.below hi' HB6.out)
    clear hp6 hT6 hE6 hT hres HT5 HB5
    go_wp2_with fail
    refine (iroom_any w6 lo hi w3.heap.size (n + 1) _ _ n c M HT6.out HR6.out (by omega) hn HWF.out ?_).mono ?_
    · intro i hi
      by_cases e : (M i).p.id = id
      · simp only [if_pos e]; have h9 := HRN.out; omega
      · simp only [if_neg e]
        rw [show (M i).p.id = (plain M i).id from rfl, HR.out.hL hi, lz_len]
        exact HBD.out i hi
    rintro e w9 ⟨B9, cb9, M9, hO9, hP9, rfl, hb9⟩
    have HO9 := Lib.hid (hO9.wide (lo' := w.heap.size) (by omega))
    have HP9 := Lib.hid hP9
    have HB9 := Lib.hid (HB6.out.trans (hb9.mono (by omega)))
    clear hO9 hP9 hb9
    go_wp2_with fail
    refine bodyPost_retE rfl ?_
    apply Exists.intro
    refine ⟨?_, ?_⟩
    · simp only [results, Try.results30]
      go_simp
      first | done | rfl
    go_light
    refine ⟨B9, cb9, M9, HO9.out, fun i hi => (HP9.out i hi).trans ?_, rfl, HB9.out⟩
    show mkM (M i).p.id (M i).p.s (if (M i).p.id = id then _ else hL (plain M) n (M i).p.id) = nm (putR (plain M) a _ i)
    by_cases e : i = a
    · subst e
      have e1 : (M i).p.id = id := HAI.out
      rw [if_pos e1, putR_at, nm_mk]; rfl
    · have e1 : ¬ (M i).p.id = id := fun e2 => e (HR.out.inj hi H2.out (e2.trans HAI.out.symm))
      rw [putR_ne e, if_neg e1, show (M i).p.id = (plain M i).id from rfl, HR.out.hL hi]; rfl
    done)
end Go.Proofs.Ytelcclhaepfmgaa
