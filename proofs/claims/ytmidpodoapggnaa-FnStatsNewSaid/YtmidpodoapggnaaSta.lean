/- The stats of a first packet: the program's and the reference's. -/
import Derived.Test.YtmidpodoapggnaaSer
import Derived.Test.YtmidpodoapggnaaMix
import Derived.Deep.Light
import Derived.Deep.RegionHeld3
namespace Go.Proofs.Ytmidpodoapggnaa
open Go.RowKit
set_option linter.unusedVariables false
set_option linter.unusedSimpArgs false

def OkSt (wide time came : Int) : Prop := (0 ≤ wide ∧ wide ≤ 999999) ∧ (0 ≤ time ∧ time ≤ 99999) ∧ (0 ≤ came ∧ came ≤ 99999)
instance (a b c : Int) : Decidable (OkSt a b c) := inferInstanceAs (Decidable (_ ∧ _))
def staB (a b c : Int) : Bool := decide (OkSt a b c)
def staI (a b c x : Int) : Int := if OkSt a b c then x else 0
def staV (a b c : Int) : Value := .agg #[.int .i64 (staI a b c a), .int .i64 (staI a b c a), .int .i64 (staI a b c 1), .int .i64 0, .int .i64 (staI a b c (c - b))]
theorem sta_yes {a b c : Int} (h : OkSt a b c) : staV a b c = .agg #[.int .i64 a, .int .i64 a, .int .i64 1, .int .i64 0, .int .i64 (c - b)] ∧ staB a b c = true := by
  unfold staV staI staB; simp [h]
theorem sta_no {a b c : Int} (h : ¬ OkSt a b c) : staV a b c = .agg #[.int .i64 0, .int .i64 0, .int .i64 0, .int .i64 0, .int .i64 0] ∧ staB a b c = false := by
  unfold staV staI staB; simp [h]
theorem ret_vb {u v : Value} {x y : Bool} (h : u = v ∧ x = y) : Ending.returned (.tuple #[v, .bool y]) = .returned (.tuple #[u, .bool x]) := by rw [h.1, h.2]

theorem timeValid_any (n : Int) (w : World) : Calls Try.prog 78 #[.int .i64 n] w fun e w' => e = .returned (.bool (inB n 0 99999)) ∧ w = w' := by
  by_cases h1 : 0 ≤ n
  · by_cases h2 : n ≤ 99999
    · go_enter Try.func78, Try.ntmps78
      go_wp2
      go_ret
      exact ⟨ret_bool (inB_t h1 h2).symm, rfl⟩
    · go_enter Try.func78, Try.ntmps78
      go_wp2
      go_ret
      exact ⟨ret_bool (inB_f2 (by omega)).symm, rfl⟩
  · go_enter Try.func78, Try.ntmps78
    go_wp2
    go_ret
    exact ⟨ret_bool (inB_f1 (by omega)).symm, rfl⟩
theorem tvalid_any (b c : Int) (w : World) : Calls Try.prog 72 #[.agg #[.int .i64 b, .int .i64 c]] w fun e w' => e = .returned (.bool (inB b 0 99999 && inB c 0 99999)) ∧ Below w.heap.size w w' := by
  cases hb : inB b 0 99999 <;> cases hc : inB c 0 99999
  all_goals
    go_enter Try.func72, Try.ntmps72
    go_wp2_with (go_at_call 78; refine (timeValid_any _ _).mono ?_; rintro e w' ⟨rfl, rfl⟩)
    go_ret
    exact ⟨rfl, Ba _ _⟩
theorem staB_eq (a b c : Int) : staB a b c = (inB a 0 999999 && (inB b 0 99999 && inB c 0 99999)) := by
  unfold staB inB; by_cases h : OkSt a b c
  · rw [decide_eq_true h]; unfold OkSt at h; simp [h]
  · rw [decide_eq_false h]; unfold OkSt at h; simp; omega
theorem newArr_any (a b c : Int) (w : World) : Calls Try.prog 47 #[.int .i64 a, .int .i64 b, .int .i64 c] w fun e w' =>
    e = .returned (.tuple #[.agg #[.int .i64 b, .int .i64 c, .int .i64 a], .bool (staB a b c)]) ∧ Below w.heap.size w w' := by
  have hs := staB_eq a b c
  cases ha : inB a 0 999999
  · rw [ha] at hs
    rw [hs]
    clear hs
    have hv := fun W : World => wideValid_any a W
    simp only [ha] at hv
    have HV := Lib.hid hv
    clear hv
    go_enter Try.func47, Try.ntmps47
    go_wp2_with fail
    refine wp_region_mixB (by kernel_rfl) (by kernel_rfl) ?_
    repeat (first
      | (refine mix_skip rfl ?_; have e0 : True := trivial; clear e0; refine mix_putK ?_; intro K hK; go_simp; refine hK _ ?_; clear hK K)
      | (refine mix_readE rfl rfl rfl ?_; apply Exists.intro; refine ⟨fun w' hb' => ?_, ?_⟩; (focus (obtain ⟨hc', hf'⟩ := Old.cells hb'; clear hb'; go_simp; try exact rfl)); have e0 : True := trivial; clear e0; refine mix_putK ?_; intro K hK; go_simp; refine hK _ ?_; clear hK K)
      | (refine mix_pureE rfl rfl ?_; apply Exists.intro; refine ⟨fun w' => ?_, ?_⟩; (focus (go_simp; try exact rfl)); have e0 : True := trivial; clear e0; refine mix_putK ?_; intro K hK; go_simp; refine hK _ ?_; clear hK K)
      | (refine mix_eff rfl rfl ?_; go_wp2_with (first | (go_at_call 50; refine (HV.out _).mono ?_; rintro e w' ⟨rfl, rfl⟩)); refine then_mix rfl ?_ ?_; (first | (intro h; have h2 : false = true := h; cases h2) | (intro _; refine Old.mk ?_; repeat (first | (with_reducible exact Below.refl _ _) | (with_reducible refine Bal ?_ _) | (with_reducible refine Below.drew ?_) | (with_reducible refine below_drewN ?_ _) | (with_reducible refine Bset ?_ ?_ _; focus (first | (with_reducible exact Nat.le_refl _) | (simp; done) | (simp; omega) | omega)) | (with_reducible refine Bt ?_ (by assumption)) | (with_reducible refine Bp (g := g) ?_ (by assumption) (by assumption)))))))
    refine mix_nil ?_
    go_wp2_with fail
    refine bodyPost_ret (v := .tuple #[.agg #[.int .i64 b, .int .i64 c, .int .i64 a], .bool false]) ?_ rfl ?_
    · simp only [results, Try.results47]
      go_simp
    refine ⟨?_, ?_⟩
    · exact rfl
    go_light
    repeat (first | (with_reducible exact Below.refl _ _) | (with_reducible refine Bal ?_ _) | (with_reducible refine Below.drew ?_) | (with_reducible refine below_drewN ?_ _) | (with_reducible refine Bset ?_ ?_ _; focus (first | (with_reducible exact Nat.le_refl _) | (simp; done) | (simp; omega) | omega)) | (with_reducible refine Bt ?_ (by assumption)) | (with_reducible refine Bp (g := g) ?_ (by assumption) (by assumption)))
  · rw [ha] at hs
    simp only [Bool.true_and] at hs
    rw [hs]
    clear hs
    have hv := fun W : World => wideValid_any a W
    simp only [ha] at hv
    have HV := Lib.hid hv
    clear hv
    go_enter Try.func47, Try.ntmps47
    go_wp2_with fail
    refine wp_region_mixB (by kernel_rfl) (by kernel_rfl) ?_
    repeat (first
      | (refine mix_skip rfl ?_; have e0 : True := trivial; clear e0; refine mix_putK ?_; intro K hK; go_simp; refine hK _ ?_; clear hK K)
      | (refine mix_readE rfl rfl rfl ?_; apply Exists.intro; refine ⟨fun w' hb' => ?_, ?_⟩; (focus (obtain ⟨hc', hf'⟩ := Old.cells hb'; clear hb'; go_simp; try exact rfl)); have e0 : True := trivial; clear e0; refine mix_putK ?_; intro K hK; go_simp; refine hK _ ?_; clear hK K)
      | (refine mix_pureE rfl rfl ?_; apply Exists.intro; refine ⟨fun w' => ?_, ?_⟩; (focus (go_simp; try exact rfl)); have e0 : True := trivial; clear e0; refine mix_putK ?_; intro K hK; go_simp; refine hK _ ?_; clear hK K)
      | (refine mix_eff rfl rfl ?_; go_wp2_with (first | (go_at_call 50; refine (HV.out _).mono ?_; rintro e w' ⟨rfl, rfl⟩) | (go_at_call 72; refine (tvalid_any _ _ _).mono ?_; rintro e w1 ⟨rfl, hb1⟩; obtain ⟨hc1, hf1⟩ := bcell hb1; have hg1 := fun o => hc1 w.heap.size o (by simp; omega); have hk1 := fun o => hf1 w.heap.size o (by simp; omega))); refine then_mix rfl ?_ ?_; (first | (intro h; have h2 : false = true := h; cases h2) | (intro _; refine Old.mk ?_; repeat (first | (with_reducible exact Below.refl _ _) | (with_reducible refine Bal ?_ _) | (with_reducible refine Below.drew ?_) | (with_reducible refine below_drewN ?_ _) | (with_reducible refine Bset ?_ ?_ _; focus (first | (with_reducible exact Nat.le_refl _) | (simp; done) | (simp; omega) | omega)) | (with_reducible refine Bt ?_ (by assumption)) | (with_reducible refine Bp (g := g) ?_ (by assumption) (by assumption)))))))
    refine mix_nil ?_
    go_wp2_with fail
    refine bodyPost_ret (v := .tuple #[.agg #[.int .i64 b, .int .i64 c, .int .i64 a], .bool (inB b 0 99999 && inB c 0 99999)]) ?_ rfl ?_
    · simp only [results, Try.results47]
      go_simp
    refine ⟨?_, ?_⟩
    · exact rfl
    go_light
    repeat (first | (with_reducible exact Below.refl _ _) | (with_reducible refine Bal ?_ _) | (with_reducible refine Below.drew ?_) | (with_reducible refine below_drewN ?_ _) | (with_reducible refine Bset ?_ ?_ _; focus (first | (with_reducible exact Nat.le_refl _) | (simp; done) | (simp; omega) | omega)) | (with_reducible refine Bt ?_ (by assumption)) | (with_reducible refine Bp (g := g) ?_ (by assumption) (by assumption)))
theorem trip_any (b c : Int) (w : World) (hb : 0 ≤ b ∧ b ≤ 99999) (hc : 0 ≤ c ∧ c ≤ 99999) :
    Calls Try.prog 48 #[.agg #[.int .i64 b, .int .i64 c]] w fun e w' => e = .returned (.int .i64 (c - b)) ∧ Below w.heap.size w w' := by
  obtain ⟨b1, b2⟩ := hb
  obtain ⟨c1, c2⟩ := hc
  go_enter Try.func48, Try.ntmps48
  go_wp2
  go_ret
  exact ⟨rfl, Ba _ _⟩
set_option maxHeartbeats 1000000 in
theorem ista_any (a b c : Int) (w : World) :
    Calls Try.prog 15 #[.int .i64 a, .int .i64 b, .int .i64 c] w fun e w' => e = .returned (.tuple #[staV a b c, .bool (staB a b c)]) ∧ Below w.heap.size w w' := by
  by_cases h : OkSt a b c
  · have H := Lib.hid (sta_yes h)
    have hv := fun W : World => newArr_any a b c W
    simp only [(sta_yes h).2] at hv
    have HV := Lib.hid hv
    clear hv
    obtain ⟨⟨h1, h2⟩, h3, h5⟩ := h
    go_enter Try.func15, Try.ntmps15
    go_wp2_with fail
    refine (HV.out _).mono ?_
    rintro e w1 ⟨rfl, hb1⟩
    obtain ⟨hc1, hf1⟩ := bcell hb1
    have hy1 := hb1.size
    try simp at hy1
    first | (have hz1 : w.heap.size < w1.heap.size := by (have := hb1.size; (try simp at this); omega)) | skip
    have ho1_0 : w.heap.size < w1.heap.size := by (have := hb1.size; (try simp at this); omega)
    have hg1_0 := fun o => hc1 (w.heap.size) o (by first | (simp; done) | (simp; omega) | omega)
    have hk1_0 := fun o => hf1 (w.heap.size) o (by first | (simp; done) | (simp; omega) | omega)
    try simp [go_sem] at hg1_0
    try simp [go_sem] at hk1_0
    go_wp2_with fail
    refine wp_region_mixB (by kernel_rfl) (by kernel_rfl) ?_
    repeat (first
      | (refine mix_skip rfl ?_; have e0 : True := trivial; clear e0; refine mix_putK ?_; intro K hK; go_simp; refine hK _ ?_; clear hK K)
      | (refine mix_readE rfl rfl rfl ?_; apply Exists.intro; refine ⟨fun w' hb' => ?_, ?_⟩; (focus (obtain ⟨hc', hf'⟩ := Old.cells hb'; clear hb'; go_simp; try exact rfl)); have e0 : True := trivial; clear e0; refine mix_putK ?_; intro K hK; go_simp; refine hK _ ?_; clear hK K)
      | (refine mix_pureE rfl rfl ?_; apply Exists.intro; refine ⟨fun w' => ?_, ?_⟩; (focus (go_simp; try exact rfl)); have e0 : True := trivial; clear e0; refine mix_putK ?_; intro K hK; go_simp; refine hK _ ?_; clear hK K)
      | (refine mix_eff rfl rfl ?_; go_wp2_with (first | (go_at_call 48; refine (trip_any _ _ _ h3 h5).mono ?_; rintro e w2 ⟨rfl, hb2⟩; obtain ⟨hc2, hf2⟩ := bcell hb2; have hg2 := fun o => hc2 w.heap.size o (by simp; omega); have hk2 := fun o => hf2 w.heap.size o (by simp; omega))); refine then_mix rfl ?_ ?_; (first | (intro h; have h2 : false = true := h; cases h2) | (intro _; refine Old.mk ?_; repeat (first | (with_reducible exact Below.refl _ _) | (with_reducible refine Bal ?_ _) | (with_reducible refine Below.drew ?_) | (with_reducible refine below_drewN ?_ _) | (with_reducible refine Bset ?_ ?_ _; focus (first | (with_reducible exact Nat.le_refl _) | (simp; done) | (simp; omega) | omega)) | (with_reducible refine Bt ?_ (by assumption)) | (with_reducible refine Bp (g := g) ?_ (by assumption) (by assumption)))))))
    refine mix_nil ?_
    go_wp2_with fail
    refine bodyPost_ret (v := .tuple #[.agg #[.int .i64 a, .int .i64 a, .int .i64 1, .int .i64 0, .int .i64 (c - b)], .bool true]) ?_ rfl ?_
    · simp only [results, Try.results15]
      go_simp
    refine ⟨?_, ?_⟩
    · exact ret_vb H.out
    go_light
    repeat (first | (with_reducible exact Below.refl _ _) | (with_reducible refine Bal ?_ _) | (with_reducible refine Below.drew ?_) | (with_reducible refine below_drewN ?_ _) | (with_reducible refine Bset ?_ ?_ _; focus (first | (with_reducible exact Nat.le_refl _) | (simp; done) | (simp; omega) | omega)) | (with_reducible refine Bt ?_ (by assumption)) | (with_reducible refine Bp (g := g) ?_ (by assumption) (by assumption)))
  · have H := Lib.hid (sta_no h)
    have hv := fun W : World => newArr_any a b c W
    simp only [(sta_no h).2] at hv
    have HV := Lib.hid hv
    clear hv
    clear h
    go_enter Try.func15, Try.ntmps15
    go_wp2_with fail
    refine (HV.out _).mono ?_
    rintro e w1 ⟨rfl, hb1⟩
    obtain ⟨hc1, hf1⟩ := bcell hb1
    have hy1 := hb1.size
    try simp at hy1
    first | (have hz1 : w.heap.size < w1.heap.size := by (have := hb1.size; (try simp at this); omega)) | skip
    have ho1_0 : w.heap.size < w1.heap.size := by (have := hb1.size; (try simp at this); omega)
    have hg1_0 := fun o => hc1 (w.heap.size) o (by first | (simp; done) | (simp; omega) | omega)
    have hk1_0 := fun o => hf1 (w.heap.size) o (by first | (simp; done) | (simp; omega) | omega)
    try simp [go_sem] at hg1_0
    try simp [go_sem] at hk1_0
    go_wp2_with fail
    refine bodyPost_ret (v := .tuple #[.agg #[.int .i64 0, .int .i64 0, .int .i64 0, .int .i64 0, .int .i64 0], .bool false]) ?_ rfl ?_
    · simp only [results, Try.results15]
      go_simp
    refine ⟨?_, ?_⟩
    · exact ret_vb H.out
    go_light
    repeat (first | (with_reducible exact Below.refl _ _) | (with_reducible refine Bal ?_ _) | (with_reducible refine Below.drew ?_) | (with_reducible refine below_drewN ?_ _) | (with_reducible refine Bset ?_ ?_ _; focus (first | (with_reducible exact Nat.le_refl _) | (simp; done) | (simp; omega) | omega)) | (with_reducible refine Bt ?_ (by assumption)) | (with_reducible refine Bp (g := g) ?_ (by assumption) (by assumption)))
theorem l14Ok_any (a b c : Int) (w : World) : Calls Try.prog 49 #[.int .i64 a, .int .i64 b, .int .i64 c] w fun e w' => e = .returned (.bool (staB a b c)) ∧ w = w' := by
  have hs := Lib.hid (staB_eq a b c)
  cases ha : inB a 0 999999 <;> cases hb : inB b 0 99999 <;> cases hc : inB c 0 99999
  all_goals
    go_enter Try.func49, Try.ntmps49
    go_wp2_with (go_at_call 63; refine (l6In_any _ _ _ _).mono ?_; rintro e w' ⟨rfl, rfl⟩)
    go_ret
    exact ⟨ret_bool (by rw [hs.out, ha, hb, hc]; rfl), rfl⟩
set_option maxHeartbeats 1000000 in
theorem ssta_any (a b c : Int) (w : World) :
    Calls Try.prog 16 #[.int .i64 a, .int .i64 b, .int .i64 c] w fun e w' => e = .returned (.tuple #[staV a b c, .bool (staB a b c)]) ∧ Below w.heap.size w w' := by
  have hv := fun W : World => l14Ok_any a b c W
  by_cases h : OkSt a b c
  · have H := Lib.hid (sta_yes h)
    simp only [(sta_yes h).2] at hv
    have HV := Lib.hid hv
    clear hv
    obtain ⟨⟨h1, h2⟩, ⟨h3, h4⟩, h5, h6⟩ := h
    go_enter Try.func16, Try.ntmps16
    go_wp2_with fail
    refine (HV.out _).mono ?_
    rintro e w' ⟨rfl, rfl⟩
    go_wp2_with fail
    refine bodyPost_ret (v := .tuple #[.agg #[.int .i64 a, .int .i64 a, .int .i64 1, .int .i64 0, .int .i64 (c - b)], .bool true]) ?_ rfl ?_
    · simp only [results, Try.results16]
      go_simp
    refine ⟨?_, ?_⟩
    · exact ret_vb H.out
    go_light
    repeat (first | (with_reducible exact Below.refl _ _) | (with_reducible refine Bal ?_ _) | (with_reducible refine Below.drew ?_) | (with_reducible refine below_drewN ?_ _) | (with_reducible refine Bset ?_ ?_ _; focus (first | (with_reducible exact Nat.le_refl _) | (simp; done) | (simp; omega) | omega)) | (with_reducible refine Bt ?_ (by assumption)) | (with_reducible refine Bp (g := g) ?_ (by assumption) (by assumption)))
  · have H := Lib.hid (sta_no h)
    simp only [(sta_no h).2] at hv
    have HV := Lib.hid hv
    clear hv h
    go_enter Try.func16, Try.ntmps16
    go_wp2_with fail
    refine (HV.out _).mono ?_
    rintro e w' ⟨rfl, rfl⟩
    go_wp2_with fail
    refine bodyPost_ret (v := .tuple #[.agg #[.int .i64 0, .int .i64 0, .int .i64 0, .int .i64 0, .int .i64 0], .bool false]) ?_ rfl ?_
    · simp only [results, Try.results16]
      go_simp
    refine ⟨?_, ?_⟩
    · exact ret_vb H.out
    go_light
    repeat (first | (with_reducible exact Below.refl _ _) | (with_reducible refine Bal ?_ _) | (with_reducible refine Below.drew ?_) | (with_reducible refine below_drewN ?_ _) | (with_reducible refine Bset ?_ ?_ _; focus (first | (with_reducible exact Nat.le_refl _) | (simp; done) | (simp; omega) | omega)) | (with_reducible refine Bt ?_ (by assumption)) | (with_reducible refine Bp (g := g) ?_ (by assumption) (by assumption)))
end Go.Proofs.Ytmidpodoapggnaa
