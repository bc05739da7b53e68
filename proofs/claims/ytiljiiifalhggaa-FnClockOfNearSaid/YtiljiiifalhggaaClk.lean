/- The clocks: each function of the program and of the reference returns what one plain Lean function says; of what was there nothing turns. -/
import Derived.Test.YtiljiiifalhggaaSer
import Derived.Test.YtiljiiifalhggaaMix
import Derived.Deep.Light
namespace Go.Proofs.Ytiljiiifalhggaa
open Go.RowKit
set_option linter.unusedVariables false
set_option linter.unusedSimpArgs false

theorem mul_bd (x r : Int) (h1 : -999999 ≤ x) (h2 : x ≤ 999999) (h3 : 0 ≤ r) (h4 : r ≤ 999999) : -999998000001 ≤ x * r ∧ x * r ≤ 999998000001 := by
  have a := Int.mul_le_mul_of_nonneg_right h2 h3
  have b := Int.mul_le_mul_of_nonneg_right h1 h3
  omega
theorem div_parts (n d : Int) (hd : 0 < d) : (n.tmod d < 0 ∧ n / d = n.tdiv d - 1) ∨ (0 ≤ n.tmod d ∧ n / d = n.tdiv d) := by
  have e1 := Int.tdiv_eq_ediv (a := n) (b := d)
  have e2 := Int.tmod_eq_emod (a := n) (b := d)
  have h0 := Int.emod_nonneg n (show d ≠ 0 by omega)
  have h1 := Int.emod_lt_of_pos n hd
  have hs : d.sign = 1 := Int.sign_eq_one_of_pos hd
  have hn : (d.natAbs : Int) = d := Int.natAbs_of_nonneg (by omega)
  rw [hs] at e1
  split at e1 <;> rename_i h
  · rw [if_pos h] at e2
    right; simp at e2; omega
  · rw [if_neg h, hn] at e2
    left; omega
theorem div_bd (n d : Int) (hd : 0 < d) (h1 : -999999000000 ≤ n) (h2 : n ≤ 999999000000) : -999999000000 ≤ n / d ∧ n / d ≤ 999999000000 := by
  have a := Int.ediv_mul_le n (show d ≠ 0 by omega)
  have b := Int.lt_ediv_add_one_mul_self n hd
  constructor
  · rcases Int.lt_or_le (n / d) (-999999000000) with h | h
    · have : (n / d + 1) * d ≤ (-999999000000) * d := Int.mul_le_mul_of_nonneg_right (by omega) (by omega)
      have : (-999999000000 : Int) * d ≤ -999999000000 := by omega
      omega
    · exact h
  · rcases Int.lt_or_le 999999000000 (n / d) with h | h
    · have : 999999000001 * d ≤ (n / d) * d := Int.mul_le_mul_of_nonneg_right (by omega) (by omega)
      omega
    · exact h


def OkC (W M R : Int) : Prop := (0 ≤ W ∧ W ≤ 999999) ∧ (0 ≤ M ∧ M ≤ 999999) ∧ (1 ≤ R ∧ R ≤ 999999)
instance (a b c : Int) : Decidable (OkC a b c) := inferInstanceAs (Decidable (_ ∧ _))
def clkB (a b c : Int) : Bool := decide (OkC a b c)
theorem clkB_t {a b c : Int} (h : OkC a b c) : clkB a b c = true := decide_eq_true h
theorem clkB_f {a b c : Int} (h : ¬ OkC a b c) : clkB a b c = false := decide_eq_false h

theorem wall_any (W M R : Int) (w : World) :
    Calls Try.prog 28 #[.agg #[.int .i64 W, .int .i64 M, .int .i64 R]] w fun e w' => e = .returned (.agg #[.int .i64 W]) ∧ Below w.heap.size w w' := by
  go_enter Try.func28, Try.ntmps28
  go_wp2
  refine bodyPost_ret (v := .agg #[.int .i64 W]) ?_ rfl ?_
  · simp only [results, Try.results28]
    go_simp
  refine ⟨?_, ?_⟩
  · exact rfl
  go_light
  repeat (first | (with_reducible exact Below.refl _ _) | (with_reducible refine Bal ?_ _) | (with_reducible refine Below.drew ?_) | (with_reducible refine below_drewN ?_ _) | (with_reducible refine Bset ?_ ?_ _; focus (first | (with_reducible exact Nat.le_refl _) | (simp; done) | (simp; omega) | omega)) | (with_reducible refine Bt ?_ (by assumption)) | (with_reducible refine Bp (g := g) ?_ (by assumption) (by assumption)))
theorem media_any (W M R : Int) (w : World) :
    Calls Try.prog 29 #[.agg #[.int .i64 W, .int .i64 M, .int .i64 R]] w fun e w' => e = .returned (.agg #[.int .i64 M]) ∧ Below w.heap.size w w' := by
  go_enter Try.func29, Try.ntmps29
  go_wp2
  refine bodyPost_ret (v := .agg #[.int .i64 M]) ?_ rfl ?_
  · simp only [results, Try.results29]
    go_simp
  refine ⟨?_, ?_⟩
  · exact rfl
  go_light
  repeat (first | (with_reducible exact Below.refl _ _) | (with_reducible refine Bal ?_ _) | (with_reducible refine Below.drew ?_) | (with_reducible refine below_drewN ?_ _) | (with_reducible refine Bset ?_ ?_ _; focus (first | (with_reducible exact Nat.le_refl _) | (simp; done) | (simp; omega) | omega)) | (with_reducible refine Bt ?_ (by assumption)) | (with_reducible refine Bp (g := g) ?_ (by assumption) (by assumption)))
theorem wvalid_any (n : Int) (w : World) : Calls Try.prog 20 #[.agg #[.int .i64 n]] w fun e w' => e = .returned (.bool (inB n 0 999999)) ∧ Below w.heap.size w w' := by
  go_enter Try.func20, Try.ntmps20
  go_wp2_with fail
  refine (wideValid_any _ _).mono ?_
  rintro e w' ⟨rfl, rfl⟩
  go_wp2_with fail
  go_ret
  exact ⟨rfl, Ba _ _⟩
theorem mvalid_any (n : Int) (w : World) : Calls Try.prog 21 #[.agg #[.int .i64 n]] w fun e w' => e = .returned (.bool (inB n 0 999999)) ∧ Below w.heap.size w w' := by
  go_enter Try.func21, Try.ntmps21
  go_wp2_with fail
  refine (wideValid_any _ _).mono ?_
  rintro e w' ⟨rfl, rfl⟩
  go_wp2_with fail
  go_ret
  exact ⟨rfl, Ba _ _⟩
theorem wsince_any (n m : Int) (w : World) (h1 : 0 ≤ n) (h2 : n ≤ 999999) (h3 : 0 ≤ m) (h4 : m ≤ 999999) : Calls Try.prog 22 #[.agg #[.int .i64 n], .agg #[.int .i64 m]] w fun e w' => e = .returned (.int .i64 (n - m)) ∧ Below w.heap.size w w' := by
  go_enter Try.func22, Try.ntmps22
  go_wp2
  go_ret
  go_light
  refine ⟨rfl, ?_⟩
  repeat (first | (with_reducible exact Below.refl _ _) | (with_reducible refine Bal ?_ _) | (with_reducible refine Below.drew ?_) | (with_reducible refine below_drewN ?_ _) | (with_reducible refine Bset ?_ ?_ _; focus (first | (with_reducible exact Nat.le_refl _) | (simp; done) | (simp; omega) | omega)) | (with_reducible refine Bt ?_ (by assumption)) | (with_reducible refine Bp (g := g) ?_ (by assumption) (by assumption)))
theorem msince_any (n m : Int) (w : World) (h1 : 0 ≤ n) (h2 : n ≤ 999999) (h3 : 0 ≤ m) (h4 : m ≤ 999999) : Calls Try.prog 23 #[.agg #[.int .i64 n], .agg #[.int .i64 m]] w fun e w' => e = .returned (.int .i64 (n - m)) ∧ Below w.heap.size w w' := by
  go_enter Try.func23, Try.ntmps23
  go_wp2
  go_ret
  go_light
  refine ⟨rfl, ?_⟩
  repeat (first | (with_reducible exact Below.refl _ _) | (with_reducible refine Bal ?_ _) | (with_reducible refine Below.drew ?_) | (with_reducible refine below_drewN ?_ _) | (with_reducible refine Bset ?_ ?_ _; focus (first | (with_reducible exact Nat.le_refl _) | (simp; done) | (simp; omega) | omega)) | (with_reducible refine Bt ?_ (by assumption)) | (with_reducible refine Bp (g := g) ?_ (by assumption) (by assumption)))
theorem clkB_eq (W M R : Int) : clkB W M R = (inB W 0 999999 && (inB M 0 999999 && inB R 1 999999)) := by
  unfold clkB inB
  by_cases h : OkC W M R
  · rw [decide_eq_true h]; unfold OkC at h; simp [h]
  · rw [decide_eq_false h]; unfold OkC at h; simp; omega
set_option maxHeartbeats 1000000 in
theorem iclk_any (W M R : Int) (w : World) :
    Calls Try.prog 24 #[.agg #[.int .i64 W, .int .i64 M, .int .i64 R]] w fun e w' => e = .returned (.bool (clkB W M R)) ∧ Below w.heap.size w w' := by
  have HE := Lib.hid (clkB_eq W M R)
  have hv := fun V : World => wvalid_any W V
  have hm := fun V : World => mvalid_any M V
  cases hW : inB W 0 999999
  · simp only [hW] at hv
    have HV := Lib.hid hv
    have HW := Lib.hid hW
    clear hv hm hW
    go_enter Try.func24, Try.ntmps24
    go_wp2_with fail
    refine (wall_any _ _ _ _).mono ?_
    rintro e w1 ⟨rfl, hb1⟩
    obtain ⟨hc1, hf1⟩ := bcell hb1
    have hy1 := hb1.size
    try simp at hy1
    first | (have hz1 : w.heap.size < w1.heap.size := by (have := hb1.size; (try simp at this); omega)) | skip
    have ho1_0 : w.heap.size < w1.heap.size := by (have := hb1.size; (try simp at this); omega)
    have hg1_0 := fun o => hc1 (w.heap.size) o (by first | (simp; done) | (simp; omega) | omega)
    have hk1_0 := fun o => hf1 (w.heap.size) o (by first | (simp; done) | (simp; omega) | omega)
    try simp [go_sem] at hg1_0
    try simp [go_sem] at hk1_0
    go_wp2_with fail
    refine (HV.out _).mono ?_
    rintro e w2 ⟨rfl, hb2⟩
    obtain ⟨hc2, hf2⟩ := bcell hb2
    have hy2 := hb2.size
    try simp at hy2
    first | (have hz2 : w.heap.size < w2.heap.size := by (have := hb2.size; (try simp at this); omega)) | skip
    have ho2_0 : w.heap.size < w2.heap.size := by (have := hb2.size; (try simp at this); omega)
    have hg2_0 := fun o => hc2 (w.heap.size) o (by first | (simp; done) | (simp; omega) | omega)
    have hk2_0 := fun o => hf2 (w.heap.size) o (by first | (simp; done) | (simp; omega) | omega)
    try simp [go_sem] at hg2_0
    try simp [go_sem] at hk2_0
    go_wp2_with fail
    go_ret
    go_light
    refine ⟨ret_bool (by rw [HE.out, HW.out]; rfl), ?_⟩
    repeat (first | (with_reducible exact Below.refl _ _) | (with_reducible refine Bal ?_ _) | (with_reducible refine Below.drew ?_) | (with_reducible refine below_drewN ?_ _) | (with_reducible refine Bset ?_ ?_ _; focus (first | (with_reducible exact Nat.le_refl _) | (simp; done) | (simp; omega) | omega)) | (with_reducible refine Bt ?_ (by assumption)) | (with_reducible refine Bp (g := g) ?_ (by assumption) (by assumption)))
  · cases hM : inB M 0 999999
    · simp only [hW] at hv
      simp only [hM] at hm
      have HV := Lib.hid hv
      have HN := Lib.hid hm
      have HW := Lib.hid hW
      have HM := Lib.hid hM
      clear hv hm hW hM
      go_enter Try.func24, Try.ntmps24
      go_wp2_with fail
      refine (wall_any _ _ _ _).mono ?_
      rintro e w1 ⟨rfl, hb1⟩
      obtain ⟨hc1, hf1⟩ := bcell hb1
      have hy1 := hb1.size
      try simp at hy1
      first | (have hz1 : w.heap.size < w1.heap.size := by (have := hb1.size; (try simp at this); omega)) | skip
      have ho1_0 : w.heap.size < w1.heap.size := by (have := hb1.size; (try simp at this); omega)
      have hg1_0 := fun o => hc1 (w.heap.size) o (by first | (simp; done) | (simp; omega) | omega)
      have hk1_0 := fun o => hf1 (w.heap.size) o (by first | (simp; done) | (simp; omega) | omega)
      try simp [go_sem] at hg1_0
      try simp [go_sem] at hk1_0
      go_wp2_with fail
      refine (HV.out _).mono ?_
      rintro e w2 ⟨rfl, hb2⟩
      obtain ⟨hc2, hf2⟩ := bcell hb2
      have hy2 := hb2.size
      try simp at hy2
      first | (have hz2 : w.heap.size < w2.heap.size := by (have := hb2.size; (try simp at this); omega)) | skip
      have ho2_0 : w.heap.size < w2.heap.size := by (have := hb2.size; (try simp at this); omega)
      have hg2_0 := fun o => hc2 (w.heap.size) o (by first | (simp; done) | (simp; omega) | omega)
      have hk2_0 := fun o => hf2 (w.heap.size) o (by first | (simp; done) | (simp; omega) | omega)
      try simp [go_sem] at hg2_0
      try simp [go_sem] at hk2_0
      go_wp2_with fail
      refine (media_any _ _ _ _).mono ?_
      rintro e w3 ⟨rfl, hb3⟩
      obtain ⟨hc3, hf3⟩ := bcell hb3
      have hy3 := hb3.size
      try simp at hy3
      first | (have hz3 : w.heap.size < w3.heap.size := by (have := hb3.size; (try simp at this); omega)) | skip
      have ho3_0 : w.heap.size < w3.heap.size := by (have := hb3.size; (try simp at this); omega)
      have hg3_0 := fun o => hc3 (w.heap.size) o (by first | (simp; done) | (simp; omega) | omega)
      have hk3_0 := fun o => hf3 (w.heap.size) o (by first | (simp; done) | (simp; omega) | omega)
      try simp [go_sem] at hg3_0
      try simp [go_sem] at hk3_0
      go_wp2_with fail
      refine (HN.out _).mono ?_
      rintro e w4 ⟨rfl, hb4⟩
      obtain ⟨hc4, hf4⟩ := bcell hb4
      have hy4 := hb4.size
      try simp at hy4
      first | (have hz4 : w.heap.size < w4.heap.size := by (have := hb4.size; (try simp at this); omega)) | skip
      have ho4_0 : w.heap.size < w4.heap.size := by (have := hb4.size; (try simp at this); omega)
      have hg4_0 := fun o => hc4 (w.heap.size) o (by first | (simp; done) | (simp; omega) | omega)
      have hk4_0 := fun o => hf4 (w.heap.size) o (by first | (simp; done) | (simp; omega) | omega)
      try simp [go_sem] at hg4_0
      try simp [go_sem] at hk4_0
      go_wp2_with fail
      go_ret
      go_light
      refine ⟨ret_bool (by rw [HE.out, HW.out, HM.out]; rfl), ?_⟩
      repeat (first | (with_reducible exact Below.refl _ _) | (with_reducible refine Bal ?_ _) | (with_reducible refine Below.drew ?_) | (with_reducible refine below_drewN ?_ _) | (with_reducible refine Bset ?_ ?_ _; focus (first | (with_reducible exact Nat.le_refl _) | (simp; done) | (simp; omega) | omega)) | (with_reducible refine Bt ?_ (by assumption)) | (with_reducible refine Bp (g := g) ?_ (by assumption) (by assumption)))
    · simp only [hW] at hv
      simp only [hM] at hm
      have HV := Lib.hid hv
      have HN := Lib.hid hm
      have HW := Lib.hid hW
      have HM := Lib.hid hM
      clear hv hm hW hM
      by_cases h1 : 1 ≤ R
      · by_cases h2 : R ≤ 999999
        · go_enter Try.func24, Try.ntmps24
          go_wp2_with fail
          refine (wall_any _ _ _ _).mono ?_
          rintro e w1 ⟨rfl, hb1⟩
          obtain ⟨hc1, hf1⟩ := bcell hb1
          have hy1 := hb1.size
          try simp at hy1
          first | (have hz1 : w.heap.size < w1.heap.size := by (have := hb1.size; (try simp at this); omega)) | skip
          have ho1_0 : w.heap.size < w1.heap.size := by (have := hb1.size; (try simp at this); omega)
          have hg1_0 := fun o => hc1 (w.heap.size) o (by first | (simp; done) | (simp; omega) | omega)
          have hk1_0 := fun o => hf1 (w.heap.size) o (by first | (simp; done) | (simp; omega) | omega)
          try simp [go_sem] at hg1_0
          try simp [go_sem] at hk1_0
          go_wp2_with fail
          refine (HV.out _).mono ?_
          rintro e w2 ⟨rfl, hb2⟩
          obtain ⟨hc2, hf2⟩ := bcell hb2
          have hy2 := hb2.size
          try simp at hy2
          first | (have hz2 : w.heap.size < w2.heap.size := by (have := hb2.size; (try simp at this); omega)) | skip
          have ho2_0 : w.heap.size < w2.heap.size := by (have := hb2.size; (try simp at this); omega)
          have hg2_0 := fun o => hc2 (w.heap.size) o (by first | (simp; done) | (simp; omega) | omega)
          have hk2_0 := fun o => hf2 (w.heap.size) o (by first | (simp; done) | (simp; omega) | omega)
          try simp [go_sem] at hg2_0
          try simp [go_sem] at hk2_0
          go_wp2_with fail
          refine (media_any _ _ _ _).mono ?_
          rintro e w3 ⟨rfl, hb3⟩
          obtain ⟨hc3, hf3⟩ := bcell hb3
          have hy3 := hb3.size
          try simp at hy3
          first | (have hz3 : w.heap.size < w3.heap.size := by (have := hb3.size; (try simp at this); omega)) | skip
          have ho3_0 : w.heap.size < w3.heap.size := by (have := hb3.size; (try simp at this); omega)
          have hg3_0 := fun o => hc3 (w.heap.size) o (by first | (simp; done) | (simp; omega) | omega)
          have hk3_0 := fun o => hf3 (w.heap.size) o (by first | (simp; done) | (simp; omega) | omega)
          try simp [go_sem] at hg3_0
          try simp [go_sem] at hk3_0
          go_wp2_with fail
          refine (HN.out _).mono ?_
          rintro e w4 ⟨rfl, hb4⟩
          obtain ⟨hc4, hf4⟩ := bcell hb4
          have hy4 := hb4.size
          try simp at hy4
          first | (have hz4 : w.heap.size < w4.heap.size := by (have := hb4.size; (try simp at this); omega)) | skip
          have ho4_0 : w.heap.size < w4.heap.size := by (have := hb4.size; (try simp at this); omega)
          have hg4_0 := fun o => hc4 (w.heap.size) o (by first | (simp; done) | (simp; omega) | omega)
          have hk4_0 := fun o => hf4 (w.heap.size) o (by first | (simp; done) | (simp; omega) | omega)
          try simp [go_sem] at hg4_0
          try simp [go_sem] at hk4_0
          go_wp2_with fail
          go_ret
          go_light
          refine ⟨ret_bool (by rw [HE.out, HW.out, HM.out, inB_t h1 h2]; first | rfl | (simp; omega)), ?_⟩
          repeat (first | (with_reducible exact Below.refl _ _) | (with_reducible refine Bal ?_ _) | (with_reducible refine Below.drew ?_) | (with_reducible refine below_drewN ?_ _) | (with_reducible refine Bset ?_ ?_ _; focus (first | (with_reducible exact Nat.le_refl _) | (simp; done) | (simp; omega) | omega)) | (with_reducible refine Bt ?_ (by assumption)) | (with_reducible refine Bp (g := g) ?_ (by assumption) (by assumption)))
        · go_enter Try.func24, Try.ntmps24
          go_wp2_with fail
          refine (wall_any _ _ _ _).mono ?_
          rintro e w1 ⟨rfl, hb1⟩
          obtain ⟨hc1, hf1⟩ := bcell hb1
          have hy1 := hb1.size
          try simp at hy1
          first | (have hz1 : w.heap.size < w1.heap.size := by (have := hb1.size; (try simp at this); omega)) | skip
          have ho1_0 : w.heap.size < w1.heap.size := by (have := hb1.size; (try simp at this); omega)
          have hg1_0 := fun o => hc1 (w.heap.size) o (by first | (simp; done) | (simp; omega) | omega)
          have hk1_0 := fun o => hf1 (w.heap.size) o (by first | (simp; done) | (simp; omega) | omega)
          try simp [go_sem] at hg1_0
          try simp [go_sem] at hk1_0
          go_wp2_with fail
          refine (HV.out _).mono ?_
          rintro e w2 ⟨rfl, hb2⟩
          obtain ⟨hc2, hf2⟩ := bcell hb2
          have hy2 := hb2.size
          try simp at hy2
          first | (have hz2 : w.heap.size < w2.heap.size := by (have := hb2.size; (try simp at this); omega)) | skip
          have ho2_0 : w.heap.size < w2.heap.size := by (have := hb2.size; (try simp at this); omega)
          have hg2_0 := fun o => hc2 (w.heap.size) o (by first | (simp; done) | (simp; omega) | omega)
          have hk2_0 := fun o => hf2 (w.heap.size) o (by first | (simp; done) | (simp; omega) | omega)
          try simp [go_sem] at hg2_0
          try simp [go_sem] at hk2_0
          go_wp2_with fail
          refine (media_any _ _ _ _).mono ?_
          rintro e w3 ⟨rfl, hb3⟩
          obtain ⟨hc3, hf3⟩ := bcell hb3
          have hy3 := hb3.size
          try simp at hy3
          first | (have hz3 : w.heap.size < w3.heap.size := by (have := hb3.size; (try simp at this); omega)) | skip
          have ho3_0 : w.heap.size < w3.heap.size := by (have := hb3.size; (try simp at this); omega)
          have hg3_0 := fun o => hc3 (w.heap.size) o (by first | (simp; done) | (simp; omega) | omega)
          have hk3_0 := fun o => hf3 (w.heap.size) o (by first | (simp; done) | (simp; omega) | omega)
          try simp [go_sem] at hg3_0
          try simp [go_sem] at hk3_0
          go_wp2_with fail
          refine (HN.out _).mono ?_
          rintro e w4 ⟨rfl, hb4⟩
          obtain ⟨hc4, hf4⟩ := bcell hb4
          have hy4 := hb4.size
          try simp at hy4
          first | (have hz4 : w.heap.size < w4.heap.size := by (have := hb4.size; (try simp at this); omega)) | skip
          have ho4_0 : w.heap.size < w4.heap.size := by (have := hb4.size; (try simp at this); omega)
          have hg4_0 := fun o => hc4 (w.heap.size) o (by first | (simp; done) | (simp; omega) | omega)
          have hk4_0 := fun o => hf4 (w.heap.size) o (by first | (simp; done) | (simp; omega) | omega)
          try simp [go_sem] at hg4_0
          try simp [go_sem] at hk4_0
          go_wp2_with fail
          go_ret
          go_light
          refine ⟨ret_bool (by rw [HE.out, HW.out, HM.out, inB_f2 (by omega)]; first | rfl | (simp; omega)), ?_⟩
          repeat (first | (with_reducible exact Below.refl _ _) | (with_reducible refine Bal ?_ _) | (with_reducible refine Below.drew ?_) | (with_reducible refine below_drewN ?_ _) | (with_reducible refine Bset ?_ ?_ _; focus (first | (with_reducible exact Nat.le_refl _) | (simp; done) | (simp; omega) | omega)) | (with_reducible refine Bt ?_ (by assumption)) | (with_reducible refine Bp (g := g) ?_ (by assumption) (by assumption)))
      · go_enter Try.func24, Try.ntmps24
        go_wp2_with fail
        refine (wall_any _ _ _ _).mono ?_
        rintro e w1 ⟨rfl, hb1⟩
        obtain ⟨hc1, hf1⟩ := bcell hb1
        have hy1 := hb1.size
        try simp at hy1
        first | (have hz1 : w.heap.size < w1.heap.size := by (have := hb1.size; (try simp at this); omega)) | skip
        have ho1_0 : w.heap.size < w1.heap.size := by (have := hb1.size; (try simp at this); omega)
        have hg1_0 := fun o => hc1 (w.heap.size) o (by first | (simp; done) | (simp; omega) | omega)
        have hk1_0 := fun o => hf1 (w.heap.size) o (by first | (simp; done) | (simp; omega) | omega)
        try simp [go_sem] at hg1_0
        try simp [go_sem] at hk1_0
        go_wp2_with fail
        refine (HV.out _).mono ?_
        rintro e w2 ⟨rfl, hb2⟩
        obtain ⟨hc2, hf2⟩ := bcell hb2
        have hy2 := hb2.size
        try simp at hy2
        first | (have hz2 : w.heap.size < w2.heap.size := by (have := hb2.size; (try simp at this); omega)) | skip
        have ho2_0 : w.heap.size < w2.heap.size := by (have := hb2.size; (try simp at this); omega)
        have hg2_0 := fun o => hc2 (w.heap.size) o (by first | (simp; done) | (simp; omega) | omega)
        have hk2_0 := fun o => hf2 (w.heap.size) o (by first | (simp; done) | (simp; omega) | omega)
        try simp [go_sem] at hg2_0
        try simp [go_sem] at hk2_0
        go_wp2_with fail
        refine (media_any _ _ _ _).mono ?_
        rintro e w3 ⟨rfl, hb3⟩
        obtain ⟨hc3, hf3⟩ := bcell hb3
        have hy3 := hb3.size
        try simp at hy3
        first | (have hz3 : w.heap.size < w3.heap.size := by (have := hb3.size; (try simp at this); omega)) | skip
        have ho3_0 : w.heap.size < w3.heap.size := by (have := hb3.size; (try simp at this); omega)
        have hg3_0 := fun o => hc3 (w.heap.size) o (by first | (simp; done) | (simp; omega) | omega)
        have hk3_0 := fun o => hf3 (w.heap.size) o (by first | (simp; done) | (simp; omega) | omega)
        try simp [go_sem] at hg3_0
        try simp [go_sem] at hk3_0
        go_wp2_with fail
        refine (HN.out _).mono ?_
        rintro e w4 ⟨rfl, hb4⟩
        obtain ⟨hc4, hf4⟩ := bcell hb4
        have hy4 := hb4.size
        try simp at hy4
        first | (have hz4 : w.heap.size < w4.heap.size := by (have := hb4.size; (try simp at this); omega)) | skip
        have ho4_0 : w.heap.size < w4.heap.size := by (have := hb4.size; (try simp at this); omega)
        have hg4_0 := fun o => hc4 (w.heap.size) o (by first | (simp; done) | (simp; omega) | omega)
        have hk4_0 := fun o => hf4 (w.heap.size) o (by first | (simp; done) | (simp; omega) | omega)
        try simp [go_sem] at hg4_0
        try simp [go_sem] at hk4_0
        go_wp2_with fail
        go_ret
        go_light
        refine ⟨ret_bool (by rw [HE.out, HW.out, HM.out, inB_f1 (by omega)]; first | rfl | (simp; omega)), ?_⟩
        repeat (first | (with_reducible exact Below.refl _ _) | (with_reducible refine Bal ?_ _) | (with_reducible refine Below.drew ?_) | (with_reducible refine below_drewN ?_ _) | (with_reducible refine Bset ?_ ?_ _; focus (first | (with_reducible exact Nat.le_refl _) | (simp; done) | (simp; omega) | omega)) | (with_reducible refine Bt ?_ (by assumption)) | (with_reducible refine Bp (g := g) ?_ (by assumption) (by assumption)))
set_option maxHeartbeats 1000000 in
theorem sclk_any (W M R : Int) (w : World) :
    Calls Try.prog 26 #[.agg #[.int .i64 W, .int .i64 M, .int .i64 R]] w fun e w' => e = .returned (.bool (clkB W M R)) ∧ Below w.heap.size w w' := by
  go_enter Try.func26, Try.ntmps26
  go_wp2
  all_goals
    go_ret
    go_light
    refine ⟨ret_bool ?_, ?_⟩
    · by_cases hq : OkC W M R
      · refine Eq.trans ?_ (clkB_t hq).symm
        unfold OkC at hq
        first | rfl | (exfalso; omega) | (simp; omega)
      · refine Eq.trans ?_ (clkB_f hq).symm
        unfold OkC at hq
        first | rfl | (exfalso; omega) | (simp; omega)
    repeat (first | (with_reducible exact Below.refl _ _) | (with_reducible refine Bal ?_ _) | (with_reducible refine Below.drew ?_) | (with_reducible refine below_drewN ?_ _) | (with_reducible refine Bset ?_ ?_ _; focus (first | (with_reducible exact Nat.le_refl _) | (simp; done) | (simp; omega) | omega)) | (with_reducible refine Bt ?_ (by assumption)) | (with_reducible refine Bp (g := g) ?_ (by assumption) (by assumption)))

/-! ### the media time of a wall time, and back -/
def OkCM (W M R x : Int) : Prop := OkC W M R ∧ 0 ≤ x ∧ x ≤ 999999
instance (a b c d : Int) : Decidable (OkCM a b c d) := inferInstanceAs (Decidable (_ ∧ _))
def cmV (W M R x : Int) : Int := if OkCM W M R x then M + (x - W) * R / 1000 else 0
def cmO (W M R x : Int) : Bool := decide (OkCM W M R x)
def cwV (W M R x : Int) : Int := if OkCM W M R x then W - (M - x) * 1000 / R else 0
theorem cm_yes {W M R x : Int} (h : OkCM W M R x) : cmV W M R x = M + (x - W) * R / 1000 ∧ cmO W M R x = true := by unfold cmV cmO; rw [if_pos h]; exact ⟨rfl, decide_eq_true h⟩
theorem cm_no {W M R x : Int} (h : ¬ OkCM W M R x) : cmV W M R x = 0 ∧ cmO W M R x = false := by unfold cmV cmO; rw [if_neg h]; exact ⟨rfl, decide_eq_false h⟩
theorem cw_yes {W M R x : Int} (h : OkCM W M R x) : cwV W M R x = W - (M - x) * 1000 / R ∧ cmO W M R x = true := by unfold cwV cmO; rw [if_pos h]; exact ⟨rfl, decide_eq_true h⟩
theorem cw_no {W M R x : Int} (h : ¬ OkCM W M R x) : cwV W M R x = 0 ∧ cmO W M R x = false := by unfold cwV cmO; rw [if_neg h]; exact ⟨rfl, decide_eq_false h⟩
theorem cmO_eq (W M R x : Int) : cmO W M R x = (clkB W M R && inB x 0 999999) := by
  unfold cmO clkB inB
  by_cases h : OkCM W M R x
  · rw [decide_eq_true h]; unfold OkCM at h; simp [h]
  · rw [decide_eq_false h]; symm; rw [Bool.eq_false_iff]; intro hh; simp at hh; exact h ⟨hh.1, hh.2⟩
theorem cw_num (W M R x : Int) : W + -(-((x - M) * 1000) / R) = W - (M - x) * 1000 / R := by
  rw [show -((x - M) * 1000) = (M - x) * 1000 by omega]; omega

end Go.Proofs.Ytiljiiifalhggaa
