/- The clocks: each function of the program and of the reference returns what one plain Lean function says; of what was there nothing turns. -/
import Derived.Test.YtlbnipcdkfonpaaSer
import Derived.Test.YtlbnipcdkfonpaaMix
import Derived.Deep.Light
namespace Go.Proofs.Ytlbnipcdkfonpaa
open Go.RowKit
set_option linter.unusedVariables false
set_option linter.unusedSimpArgs false

theorem mul_bd (x r : Int) (h1 : -999999 ≤ x) (h2 : x ≤ 999999) (h3 : 0 ≤ r) (h4 : r ≤ 999999) : -999998000001 ≤ x * r ∧ x * r ≤ 999998000001 := by
  have a := Int.mul_le_mul_of_nonneg_right h2 h3
  have b := Int.mul_le_mul_of_nonneg_right h1 h3
  omega
theorem div_parts (n d : Int) (hd : 0 < d) : (n.tmod d < 0 ∧ n / d = n.tdiv d - 1) ∨ (0 ≤ n.tmod d ∧ n / d = n.tdiv d) := by
  have e1 := Int.tdiv_eq_ediv (a := n) (b := d)
  have e2 := Int.tmod_eq_emod (a := n) (b := d)
  have h0 := Int.emod_nonneg n (show d ≠ 0 by omega)
  have h1 := Int.emod_lt_of_pos n hd
  have hs : d.sign = 1 := Int.sign_eq_one_of_pos hd
  have hn : (d.natAbs : Int) = d := Int.natAbs_of_nonneg (by omega)
  rw [hs] at e1
  split at e1 <;> rename_i h
  · rw [if_pos h] at e2
    right; simp at e2; omega
  · rw [if_neg h, hn] at e2
    left; omega
theorem div_bd (n d : Int) (hd : 0 < d) (h1 : -999999000000 ≤ n) (h2 : n ≤ 999999000000) : -999999000000 ≤ n / d ∧ n / d ≤ 999999000000 := by
  have a := Int.ediv_mul_le n (show d ≠ 0 by omega)
  have b := Int.lt_ediv_add_one_mul_self n hd
  constructor
  · rcases Int.lt_or_le (n / d) (-999999000000) with h | h
    · have : (n / d + 1) * d ≤ (-999999000000) * d := Int.mul_le_mul_of_nonneg_right (by omega) (by omega)
      have : (-999999000000 : Int) * d ≤ -999999000000 := by omega
      omega
    · exact h
  · rcases Int.lt_or_le 999999000000 (n / d) with h | h
    · have : 999999000001 * d ≤ (n / d) * d := Int.mul_le_mul_of_nonneg_right (by omega) (by omega)
      omega
    · exact h

theorem qdown_any (n d : Int) (w : World) (hd : 1 ≤ d) (hd2 : d ≤ 999999) (h1 : -999999000000 ≤ n) (h2 : n ≤ 999999000000) :
    Calls Try.prog 65 #[.int .i64 n, .int .i64 d] w fun e w' => e = .returned (.int .i64 (n / d)) ∧ w = w' := by
  have b := div_bd n d (by omega) h1 h2
  rcases div_parts n d (by omega) with ⟨p, q⟩ | ⟨p, q⟩
  · have H := Lib.hid q
    obtain ⟨b1, b2⟩ := b
    have t1 : -999999000000 ≤ n.tdiv d - 1 := by omega
    have t2 : n.tdiv d - 1 ≤ 999999000000 := by omega
    clear q b1 b2
    have hne : (d == 0) = false := by simp; omega
    go_enter Try.func65, Try.ntmps65
    go_wp2
    go_ret
    exact ⟨ret_int H.out.symm, rfl⟩
  · have H := Lib.hid q
    obtain ⟨b1, b2⟩ := b
    have t1 : -999999000000 ≤ n.tdiv d := by omega
    have t2 : n.tdiv d ≤ 999999000000 := by omega
    clear q b1 b2
    have hne : (d == 0) = false := by simp; omega
    go_enter Try.func65, Try.ntmps65
    go_wp2
    go_ret
    exact ⟨ret_int H.out.symm, rfl⟩
theorem qup_any (n d : Int) (w : World) (hd : 1 ≤ d) (hd2 : d ≤ 999999) (h1 : -999999000000 ≤ n) (h2 : n ≤ 999999000000) :
    Calls Try.prog 70 #[.int .i64 n, .int .i64 d] w fun e w' => e = .returned (.int .i64 (-(-n / d))) ∧ w = w' := by
  have b := div_bd (-n) d (by omega) (by omega) (by omega)
  obtain ⟨b1, b2⟩ := b
  go_enter Try.func70, Try.ntmps70
  go_wp2_with fail
  refine (qdown_any (-n) d _ hd hd2 (by omega) (by omega)).mono ?_
  rintro e w' ⟨rfl, rfl⟩
  go_wp2_with fail
  go_ret
  exact ⟨rfl, rfl⟩
theorem floor_any (n d : Int) (w : World) (hd : 1 ≤ d) (hd2 : d ≤ 999999) (h1 : -999999000000 ≤ n) (h2 : n ≤ 999999000000) :
    Calls Try.prog 74 #[.int .i64 n, .int .i64 d] w fun e w' => e = .returned (.int .i64 (n / d)) ∧ w = w' := by
  have b := div_bd n d (by omega) h1 h2
  rcases div_parts n d (by omega) with ⟨p, q⟩ | ⟨p, q⟩
  · have H := Lib.hid q
    obtain ⟨b1, b2⟩ := b
    have t1 : -999999000000 ≤ n.tdiv d - 1 := by omega
    have t2 : n.tdiv d - 1 ≤ 999999000000 := by omega
    clear q b1 b2
    have hne : (d == 0) = false := by simp; omega
    go_enter Try.func74, Try.ntmps74
    go_wp2
    go_ret
    exact ⟨ret_int H.out.symm, rfl⟩
  · have H := Lib.hid q
    obtain ⟨b1, b2⟩ := b
    have t1 : -999999000000 ≤ n.tdiv d := by omega
    have t2 : n.tdiv d ≤ 999999000000 := by omega
    clear q b1 b2
    have hne : (d == 0) = false := by simp; omega
    go_enter Try.func74, Try.ntmps74
    go_wp2
    go_ret
    exact ⟨ret_int H.out.symm, rfl⟩

def OkC (W M R : Int) : Prop := (0 ≤ W ∧ W ≤ 999999) ∧ (0 ≤ M ∧ M ≤ 999999) ∧ (1 ≤ R ∧ R ≤ 999999)
instance (a b c : Int) : Decidable (OkC a b c) := inferInstanceAs (Decidable (_ ∧ _))
def clkB (a b c : Int) : Bool := decide (OkC a b c)
theorem clkB_t {a b c : Int} (h : OkC a b c) : clkB a b c = true := decide_eq_true h
theorem clkB_f {a b c : Int} (h : ¬ OkC a b c) : clkB a b c = false := decide_eq_false h

theorem wall_any (W M R : Int) (w : World) :
    Calls Try.prog 66 #[.agg #[.int .i64 W, .int .i64 M, .int .i64 R]] w fun e w' => e = .returned (.agg #[.int .i64 W]) ∧ Below w.heap.size w w' := by
  go_enter Try.func66, Try.ntmps66
  go_wp2
  refine bodyPost_ret (v := .agg #[.int .i64 W]) ?_ rfl ?_
  · simp only [results, Try.results66]
    go_simp
  refine ⟨?_, ?_⟩
  · exact rfl
  go_light
  repeat (first | (with_reducible exact Below.refl _ _) | (with_reducible refine Bal ?_ _) | (with_reducible refine Below.drew ?_) | (with_reducible refine below_drewN ?_ _) | (with_reducible refine Bset ?_ ?_ _; (first | (with_reducible exact Nat.le_refl _) | (simp; done) | (simp; omega) | omega)) | (with_reducible refine Bt ?_ (by assumption)))
theorem media_any (W M R : Int) (w : World) :
    Calls Try.prog 67 #[.agg #[.int .i64 W, .int .i64 M, .int .i64 R]] w fun e w' => e = .returned (.agg #[.int .i64 M]) ∧ Below w.heap.size w w' := by
  go_enter Try.func67, Try.ntmps67
  go_wp2
  refine bodyPost_ret (v := .agg #[.int .i64 M]) ?_ rfl ?_
  · simp only [results, Try.results67]
    go_simp
  refine ⟨?_, ?_⟩
  · exact rfl
  go_light
  repeat (first | (with_reducible exact Below.refl _ _) | (with_reducible refine Bal ?_ _) | (with_reducible refine Below.drew ?_) | (with_reducible refine below_drewN ?_ _) | (with_reducible refine Bset ?_ ?_ _; (first | (with_reducible exact Nat.le_refl _) | (simp; done) | (simp; omega) | omega)) | (with_reducible refine Bt ?_ (by assumption)))
theorem wvalid_any (n : Int) (w : World) : Calls Try.prog 58 #[.agg #[.int .i64 n]] w fun e w' => e = .returned (.bool (inB n 0 999999)) ∧ Below w.heap.size w w' := by
  go_enter Try.func58, Try.ntmps58
  go_wp2_with fail
  refine (wideValid_any _ _).mono ?_
  rintro e w' ⟨rfl, rfl⟩
  go_wp2_with fail
  go_ret
  exact ⟨rfl, Ba _ _⟩
theorem mvalid_any (n : Int) (w : World) : Calls Try.prog 59 #[.agg #[.int .i64 n]] w fun e w' => e = .returned (.bool (inB n 0 999999)) ∧ Below w.heap.size w w' := by
  go_enter Try.func59, Try.ntmps59
  go_wp2_with fail
  refine (wideValid_any _ _).mono ?_
  rintro e w' ⟨rfl, rfl⟩
  go_wp2_with fail
  go_ret
  exact ⟨rfl, Ba _ _⟩
theorem wsince_any (n m : Int) (w : World) (h1 : 0 ≤ n) (h2 : n ≤ 999999) (h3 : 0 ≤ m) (h4 : m ≤ 999999) : Calls Try.prog 60 #[.agg #[.int .i64 n], .agg #[.int .i64 m]] w fun e w' => e = .returned (.int .i64 (n - m)) ∧ Below w.heap.size w w' := by
  go_enter Try.func60, Try.ntmps60
  go_wp2
  go_ret
  go_light
  refine ⟨rfl, ?_⟩
  repeat (first | (with_reducible exact Below.refl _ _) | (with_reducible refine Bal ?_ _) | (with_reducible refine Below.drew ?_) | (with_reducible refine below_drewN ?_ _) | (with_reducible refine Bset ?_ ?_ _; (first | (with_reducible exact Nat.le_refl _) | (simp; done) | (simp; omega) | omega)) | (with_reducible refine Bt ?_ (by assumption)))
theorem msince_any (n m : Int) (w : World) (h1 : 0 ≤ n) (h2 : n ≤ 999999) (h3 : 0 ≤ m) (h4 : m ≤ 999999) : Calls Try.prog 61 #[.agg #[.int .i64 n], .agg #[.int .i64 m]] w fun e w' => e = .returned (.int .i64 (n - m)) ∧ Below w.heap.size w w' := by
  go_enter Try.func61, Try.ntmps61
  go_wp2
  go_ret
  go_light
  refine ⟨rfl, ?_⟩
  repeat (first | (with_reducible exact Below.refl _ _) | (with_reducible refine Bal ?_ _) | (with_reducible refine Below.drew ?_) | (with_reducible refine below_drewN ?_ _) | (with_reducible refine Bset ?_ ?_ _; (first | (with_reducible exact Nat.le_refl _) | (simp; done) | (simp; omega) | omega)) | (with_reducible refine Bt ?_ (by assumption)))
theorem wlater_any (n m : Int) (w : World) (h1 : 0 ≤ n) (h2 : n ≤ 999999) (h3 : -999999000000 ≤ m) (h4 : m ≤ 999999000000) : Calls Try.prog 71 #[.agg #[.int .i64 n], .int .i64 m] w fun e w' => e = .returned (.agg #[.int .i64 (n + m)]) ∧ Below w.heap.size w w' := by
  go_enter Try.func71, Try.ntmps71
  go_wp2
  refine bodyPost_ret (v := .agg #[.int .i64 (n + m)]) ?_ rfl ?_
  · simp only [results, Try.results71]
    go_simp
  refine ⟨?_, ?_⟩
  · exact rfl
  go_light
  repeat (first | (with_reducible exact Below.refl _ _) | (with_reducible refine Bal ?_ _) | (with_reducible refine Below.drew ?_) | (with_reducible refine below_drewN ?_ _) | (with_reducible refine Bset ?_ ?_ _; (first | (with_reducible exact Nat.le_refl _) | (simp; done) | (simp; omega) | omega)) | (with_reducible refine Bt ?_ (by assumption)))
theorem mlater_any (n m : Int) (w : World) (h1 : 0 ≤ n) (h2 : n ≤ 999999) (h3 : -999999000000 ≤ m) (h4 : m ≤ 999999000000) : Calls Try.prog 68 #[.agg #[.int .i64 n], .int .i64 m] w fun e w' => e = .returned (.agg #[.int .i64 (n + m)]) ∧ Below w.heap.size w w' := by
  go_enter Try.func68, Try.ntmps68
  go_wp2
  refine bodyPost_ret (v := .agg #[.int .i64 (n + m)]) ?_ rfl ?_
  · simp only [results, Try.results68]
    go_simp
  refine ⟨?_, ?_⟩
  · exact rfl
  go_light
  repeat (first | (with_reducible exact Below.refl _ _) | (with_reducible refine Bal ?_ _) | (with_reducible refine Below.drew ?_) | (with_reducible refine below_drewN ?_ _) | (with_reducible refine Bset ?_ ?_ _; (first | (with_reducible exact Nat.le_refl _) | (simp; done) | (simp; omega) | omega)) | (with_reducible refine Bt ?_ (by assumption)))
theorem clkB_eq (W M R : Int) : clkB W M R = (inB W 0 999999 && (inB M 0 999999 && inB R 1 999999)) := by
  unfold clkB inB
  by_cases h : OkC W M R
  · rw [decide_eq_true h]; unfold OkC at h; simp [h]
  · rw [decide_eq_false h]; unfold OkC at h; simp; omega
set_option maxHeartbeats 1000000 in
theorem iclk_any (W M R : Int) (w : World) :
    Calls Try.prog 62 #[.agg #[.int .i64 W, .int .i64 M, .int .i64 R]] w fun e w' => e = .returned (.bool (clkB W M R)) ∧ Below w.heap.size w w' := by
  have HE := Lib.hid (clkB_eq W M R)
  have hv := fun V : World => wvalid_any W V
  have hm := fun V : World => mvalid_any M V
  cases hW : inB W 0 999999
  · simp only [hW] at hv
    have HV := Lib.hid hv
    have HW := Lib.hid hW
    clear hv hm hW
    go_enter Try.func62, Try.ntmps62
    go_wp2_with fail
    refine (wall_any _ _ _ _).mono ?_
    rintro e w1 ⟨rfl, hb1⟩
    obtain ⟨hc1, hf1⟩ := bcell hb1
    have hy1 := hb1.size
    try simp at hy1
    first | (have hz1 : w.heap.size < w1.heap.size := by (have := hb1.size; (try simp at this); omega)) | skip
    have ho1_0 : w.heap.size < w1.heap.size := by (have := hb1.size; (try simp at this); omega)
    have hg1_0 := fun o => hc1 (w.heap.size) o (by first | (simp; done) | (simp; omega) | omega)
    have hk1_0 := fun o => hf1 (w.heap.size) o (by first | (simp; done) | (simp; omega) | omega)
    try simp [go_sem] at hg1_0
    try simp [go_sem] at hk1_0
    go_wp2_with fail
    refine (HV.out _).mono ?_
    rintro e w2 ⟨rfl, hb2⟩
    obtain ⟨hc2, hf2⟩ := bcell hb2
    have hy2 := hb2.size
    try simp at hy2
    first | (have hz2 : w.heap.size < w2.heap.size := by (have := hb2.size; (try simp at this); omega)) | skip
    have ho2_0 : w.heap.size < w2.heap.size := by (have := hb2.size; (try simp at this); omega)
    have hg2_0 := fun o => hc2 (w.heap.size) o (by first | (simp; done) | (simp; omega) | omega)
    have hk2_0 := fun o => hf2 (w.heap.size) o (by first | (simp; done) | (simp; omega) | omega)
    try simp [go_sem] at hg2_0
    try simp [go_sem] at hk2_0
    go_wp2_with fail
    go_ret
    go_light
    refine ⟨ret_bool (by rw [HE.out, HW.out]; rfl), ?_⟩
    repeat (first | (with_reducible exact Below.refl _ _) | (with_reducible refine Bal ?_ _) | (with_reducible refine Below.drew ?_) | (with_reducible refine below_drewN ?_ _) | (with_reducible refine Bset ?_ ?_ _; (first | (with_reducible exact Nat.le_refl _) | (simp; done) | (simp; omega) | omega)) | (with_reducible refine Bt ?_ (by assumption)))
  · cases hM : inB M 0 999999
    · simp only [hW] at hv
      simp only [hM] at hm
      have HV := Lib.hid hv
      have HN := Lib.hid hm
      have HW := Lib.hid hW
      have HM := Lib.hid hM
      clear hv hm hW hM
      go_enter Try.func62, Try.ntmps62
      go_wp2_with fail
      refine (wall_any _ _ _ _).mono ?_
      rintro e w1 ⟨rfl, hb1⟩
      obtain ⟨hc1, hf1⟩ := bcell hb1
      have hy1 := hb1.size
      try simp at hy1
      first | (have hz1 : w.heap.size < w1.heap.size := by (have := hb1.size; (try simp at this); omega)) | skip
      have ho1_0 : w.heap.size < w1.heap.size := by (have := hb1.size; (try simp at this); omega)
      have hg1_0 := fun o => hc1 (w.heap.size) o (by first | (simp; done) | (simp; omega) | omega)
      have hk1_0 := fun o => hf1 (w.heap.size) o (by first | (simp; done) | (simp; omega) | omega)
      try simp [go_sem] at hg1_0
      try simp [go_sem] at hk1_0
      go_wp2_with fail
      refine (HV.out _).mono ?_
      rintro e w2 ⟨rfl, hb2⟩
      obtain ⟨hc2, hf2⟩ := bcell hb2
      have hy2 := hb2.size
      try simp at hy2
      first | (have hz2 : w.heap.size < w2.heap.size := by (have := hb2.size; (try simp at this); omega)) | skip
      have ho2_0 : w.heap.size < w2.heap.size := by (have := hb2.size; (try simp at this); omega)
      have hg2_0 := fun o => hc2 (w.heap.size) o (by first | (simp; done) | (simp; omega) | omega)
      have hk2_0 := fun o => hf2 (w.heap.size) o (by first | (simp; done) | (simp; omega) | omega)
      try simp [go_sem] at hg2_0
      try simp [go_sem] at hk2_0
      go_wp2_with fail
      refine (media_any _ _ _ _).mono ?_
      rintro e w3 ⟨rfl, hb3⟩
      obtain ⟨hc3, hf3⟩ := bcell hb3
      have hy3 := hb3.size
      try simp at hy3
      first | (have hz3 : w.heap.size < w3.heap.size := by (have := hb3.size; (try simp at this); omega)) | skip
      have ho3_0 : w.heap.size < w3.heap.size := by (have := hb3.size; (try simp at this); omega)
      have hg3_0 := fun o => hc3 (w.heap.size) o (by first | (simp; done) | (simp; omega) | omega)
      have hk3_0 := fun o => hf3 (w.heap.size) o (by first | (simp; done) | (simp; omega) | omega)
      try simp [go_sem] at hg3_0
      try simp [go_sem] at hk3_0
      go_wp2_with fail
      refine (HN.out _).mono ?_
      rintro e w4 ⟨rfl, hb4⟩
      obtain ⟨hc4, hf4⟩ := bcell hb4
      have hy4 := hb4.size
      try simp at hy4
      first | (have hz4 : w.heap.size < w4.heap.size := by (have := hb4.size; (try simp at this); omega)) | skip
      have ho4_0 : w.heap.size < w4.heap.size := by (have := hb4.size; (try simp at this); omega)
      have hg4_0 := fun o => hc4 (w.heap.size) o (by first | (simp; done) | (simp; omega) | omega)
      have hk4_0 := fun o => hf4 (w.heap.size) o (by first | (simp; done) | (simp; omega) | omega)
      try simp [go_sem] at hg4_0
      try simp [go_sem] at hk4_0
      go_wp2_with fail
      go_ret
      go_light
      refine ⟨ret_bool (by rw [HE.out, HW.out, HM.out]; rfl), ?_⟩
      repeat (first | (with_reducible exact Below.refl _ _) | (with_reducible refine Bal ?_ _) | (with_reducible refine Below.drew ?_) | (with_reducible refine below_drewN ?_ _) | (with_reducible refine Bset ?_ ?_ _; (first | (with_reducible exact Nat.le_refl _) | (simp; done) | (simp; omega) | omega)) | (with_reducible refine Bt ?_ (by assumption)))
    · simp only [hW] at hv
      simp only [hM] at hm
      have HV := Lib.hid hv
      have HN := Lib.hid hm
      have HW := Lib.hid hW
      have HM := Lib.hid hM
      clear hv hm hW hM
      by_cases h1 : 1 ≤ R
      · by_cases h2 : R ≤ 999999
        · go_enter Try.func62, Try.ntmps62
          go_wp2_with fail
          refine (wall_any _ _ _ _).mono ?_
          rintro e w1 ⟨rfl, hb1⟩
          obtain ⟨hc1, hf1⟩ := bcell hb1
          have hy1 := hb1.size
          try simp at hy1
          first | (have hz1 : w.heap.size < w1.heap.size := by (have := hb1.size; (try simp at this); omega)) | skip
          have ho1_0 : w.heap.size < w1.heap.size := by (have := hb1.size; (try simp at this); omega)
          have hg1_0 := fun o => hc1 (w.heap.size) o (by first | (simp; done) | (simp; omega) | omega)
          have hk1_0 := fun o => hf1 (w.heap.size) o (by first | (simp; done) | (simp; omega) | omega)
          try simp [go_sem] at hg1_0
          try simp [go_sem] at hk1_0
          go_wp2_with fail
          refine (HV.out _).mono ?_
          rintro e w2 ⟨rfl, hb2⟩
          obtain ⟨hc2, hf2⟩ := bcell hb2
          have hy2 := hb2.size
          try simp at hy2
          first | (have hz2 : w.heap.size < w2.heap.size := by (have := hb2.size; (try simp at this); omega)) | skip
          have ho2_0 : w.heap.size < w2.heap.size := by (have := hb2.size; (try simp at this); omega)
          have hg2_0 := fun o => hc2 (w.heap.size) o (by first | (simp; done) | (simp; omega) | omega)
          have hk2_0 := fun o => hf2 (w.heap.size) o (by first | (simp; done) | (simp; omega) | omega)
          try simp [go_sem] at hg2_0
          try simp [go_sem] at hk2_0
          go_wp2_with fail
          refine (media_any _ _ _ _).mono ?_
          rintro e w3 ⟨rfl, hb3⟩
          obtain ⟨hc3, hf3⟩ := bcell hb3
          have hy3 := hb3.size
          try simp at hy3
          first | (have hz3 : w.heap.size < w3.heap.size := by (have := hb3.size; (try simp at this); omega)) | skip
          have ho3_0 : w.heap.size < w3.heap.size := by (have := hb3.size; (try simp at this); omega)
          have hg3_0 := fun o => hc3 (w.heap.size) o (by first | (simp; done) | (simp; omega) | omega)
          have hk3_0 := fun o => hf3 (w.heap.size) o (by first | (simp; done) | (simp; omega) | omega)
          try simp [go_sem] at hg3_0
          try simp [go_sem] at hk3_0
          go_wp2_with fail
          refine (HN.out _).mono ?_
          rintro e w4 ⟨rfl, hb4⟩
          obtain ⟨hc4, hf4⟩ := bcell hb4
          have hy4 := hb4.size
          try simp at hy4
          first | (have hz4 : w.heap.size < w4.heap.size := by (have := hb4.size; (try simp at this); omega)) | skip
          have ho4_0 : w.heap.size < w4.heap.size := by (have := hb4.size; (try simp at this); omega)
          have hg4_0 := fun o => hc4 (w.heap.size) o (by first | (simp; done) | (simp; omega) | omega)
          have hk4_0 := fun o => hf4 (w.heap.size) o (by first | (simp; done) | (simp; omega) | omega)
          try simp [go_sem] at hg4_0
          try simp [go_sem] at hk4_0
          go_wp2_with fail
          go_ret
          go_light
          refine ⟨ret_bool (by rw [HE.out, HW.out, HM.out, inB_t h1 h2]; first | rfl | (simp; omega)), ?_⟩
          repeat (first | (with_reducible exact Below.refl _ _) | (with_reducible refine Bal ?_ _) | (with_reducible refine Below.drew ?_) | (with_reducible refine below_drewN ?_ _) | (with_reducible refine Bset ?_ ?_ _; (first | (with_reducible exact Nat.le_refl _) | (simp; done) | (simp; omega) | omega)) | (with_reducible refine Bt ?_ (by assumption)))
        · go_enter Try.func62, Try.ntmps62
          go_wp2_with fail
          refine (wall_any _ _ _ _).mono ?_
          rintro e w1 ⟨rfl, hb1⟩
          obtain ⟨hc1, hf1⟩ := bcell hb1
          have hy1 := hb1.size
          try simp at hy1
          first | (have hz1 : w.heap.size < w1.heap.size := by (have := hb1.size; (try simp at this); omega)) | skip
          have ho1_0 : w.heap.size < w1.heap.size := by (have := hb1.size; (try simp at this); omega)
          have hg1_0 := fun o => hc1 (w.heap.size) o (by first | (simp; done) | (simp; omega) | omega)
          have hk1_0 := fun o => hf1 (w.heap.size) o (by first | (simp; done) | (simp; omega) | omega)
          try simp [go_sem] at hg1_0
          try simp [go_sem] at hk1_0
          go_wp2_with fail
          refine (HV.out _).mono ?_
          rintro e w2 ⟨rfl, hb2⟩
          obtain ⟨hc2, hf2⟩ := bcell hb2
          have hy2 := hb2.size
          try simp at hy2
          first | (have hz2 : w.heap.size < w2.heap.size := by (have := hb2.size; (try simp at this); omega)) | skip
          have ho2_0 : w.heap.size < w2.heap.size := by (have := hb2.size; (try simp at this); omega)
          have hg2_0 := fun o => hc2 (w.heap.size) o (by first | (simp; done) | (simp; omega) | omega)
          have hk2_0 := fun o => hf2 (w.heap.size) o (by first | (simp; done) | (simp; omega) | omega)
          try simp [go_sem] at hg2_0
          try simp [go_sem] at hk2_0
          go_wp2_with fail
          refine (media_any _ _ _ _).mono ?_
          rintro e w3 ⟨rfl, hb3⟩
          obtain ⟨hc3, hf3⟩ := bcell hb3
          have hy3 := hb3.size
          try simp at hy3
          first | (have hz3 : w.heap.size < w3.heap.size := by (have := hb3.size; (try simp at this); omega)) | skip
          have ho3_0 : w.heap.size < w3.heap.size := by (have := hb3.size; (try simp at this); omega)
          have hg3_0 := fun o => hc3 (w.heap.size) o (by first | (simp; done) | (simp; omega) | omega)
          have hk3_0 := fun o => hf3 (w.heap.size) o (by first | (simp; done) | (simp; omega) | omega)
          try simp [go_sem] at hg3_0
          try simp [go_sem] at hk3_0
          go_wp2_with fail
          refine (HN.out _).mono ?_
          rintro e w4 ⟨rfl, hb4⟩
          obtain ⟨hc4, hf4⟩ := bcell hb4
          have hy4 := hb4.size
          try simp at hy4
          first | (have hz4 : w.heap.size < w4.heap.size := by (have := hb4.size; (try simp at this); omega)) | skip
          have ho4_0 : w.heap.size < w4.heap.size := by (have := hb4.size; (try simp at this); omega)
          have hg4_0 := fun o => hc4 (w.heap.size) o (by first | (simp; done) | (simp; omega) | omega)
          have hk4_0 := fun o => hf4 (w.heap.size) o (by first | (simp; done) | (simp; omega) | omega)
          try simp [go_sem] at hg4_0
          try simp [go_sem] at hk4_0
          go_wp2_with fail
          go_ret
          go_light
          refine ⟨ret_bool (by rw [HE.out, HW.out, HM.out, inB_f2 (by omega)]; first | rfl | (simp; omega)), ?_⟩
          repeat (first | (with_reducible exact Below.refl _ _) | (with_reducible refine Bal ?_ _) | (with_reducible refine Below.drew ?_) | (with_reducible refine below_drewN ?_ _) | (with_reducible refine Bset ?_ ?_ _; (first | (with_reducible exact Nat.le_refl _) | (simp; done) | (simp; omega) | omega)) | (with_reducible refine Bt ?_ (by assumption)))
      · go_enter Try.func62, Try.ntmps62
        go_wp2_with fail
        refine (wall_any _ _ _ _).mono ?_
        rintro e w1 ⟨rfl, hb1⟩
        obtain ⟨hc1, hf1⟩ := bcell hb1
        have hy1 := hb1.size
        try simp at hy1
        first | (have hz1 : w.heap.size < w1.heap.size := by (have := hb1.size; (try simp at this); omega)) | skip
        have ho1_0 : w.heap.size < w1.heap.size := by (have := hb1.size; (try simp at this); omega)
        have hg1_0 := fun o => hc1 (w.heap.size) o (by first | (simp; done) | (simp; omega) | omega)
        have hk1_0 := fun o => hf1 (w.heap.size) o (by first | (simp; done) | (simp; omega) | omega)
        try simp [go_sem] at hg1_0
        try simp [go_sem] at hk1_0
        go_wp2_with fail
        refine (HV.out _).mono ?_
        rintro e w2 ⟨rfl, hb2⟩
        obtain ⟨hc2, hf2⟩ := bcell hb2
        have hy2 := hb2.size
        try simp at hy2
        first | (have hz2 : w.heap.size < w2.heap.size := by (have := hb2.size; (try simp at this); omega)) | skip
        have ho2_0 : w.heap.size < w2.heap.size := by (have := hb2.size; (try simp at this); omega)
        have hg2_0 := fun o => hc2 (w.heap.size) o (by first | (simp; done) | (simp; omega) | omega)
        have hk2_0 := fun o => hf2 (w.heap.size) o (by first | (simp; done) | (simp; omega) | omega)
        try simp [go_sem] at hg2_0
        try simp [go_sem] at hk2_0
        go_wp2_with fail
        refine (media_any _ _ _ _).mono ?_
        rintro e w3 ⟨rfl, hb3⟩
        obtain ⟨hc3, hf3⟩ := bcell hb3
        have hy3 := hb3.size
        try simp at hy3
        first | (have hz3 : w.heap.size < w3.heap.size := by (have := hb3.size; (try simp at this); omega)) | skip
        have ho3_0 : w.heap.size < w3.heap.size := by (have := hb3.size; (try simp at this); omega)
        have hg3_0 := fun o => hc3 (w.heap.size) o (by first | (simp; done) | (simp; omega) | omega)
        have hk3_0 := fun o => hf3 (w.heap.size) o (by first | (simp; done) | (simp; omega) | omega)
        try simp [go_sem] at hg3_0
        try simp [go_sem] at hk3_0
        go_wp2_with fail
        refine (HN.out _).mono ?_
        rintro e w4 ⟨rfl, hb4⟩
        obtain ⟨hc4, hf4⟩ := bcell hb4
        have hy4 := hb4.size
        try simp at hy4
        first | (have hz4 : w.heap.size < w4.heap.size := by (have := hb4.size; (try simp at this); omega)) | skip
        have ho4_0 : w.heap.size < w4.heap.size := by (have := hb4.size; (try simp at this); omega)
        have hg4_0 := fun o => hc4 (w.heap.size) o (by first | (simp; done) | (simp; omega) | omega)
        have hk4_0 := fun o => hf4 (w.heap.size) o (by first | (simp; done) | (simp; omega) | omega)
        try simp [go_sem] at hg4_0
        try simp [go_sem] at hk4_0
        go_wp2_with fail
        go_ret
        go_light
        refine ⟨ret_bool (by rw [HE.out, HW.out, HM.out, inB_f1 (by omega)]; first | rfl | (simp; omega)), ?_⟩
        repeat (first | (with_reducible exact Below.refl _ _) | (with_reducible refine Bal ?_ _) | (with_reducible refine Below.drew ?_) | (with_reducible refine below_drewN ?_ _) | (with_reducible refine Bset ?_ ?_ _; (first | (with_reducible exact Nat.le_refl _) | (simp; done) | (simp; omega) | omega)) | (with_reducible refine Bt ?_ (by assumption)))
set_option maxHeartbeats 1000000 in
theorem sclk_any (W M R : Int) (w : World) :
    Calls Try.prog 63 #[.agg #[.int .i64 W, .int .i64 M, .int .i64 R]] w fun e w' => e = .returned (.bool (clkB W M R)) ∧ Below w.heap.size w w' := by
  go_enter Try.func63, Try.ntmps63
  go_wp2
  all_goals
    go_ret
    go_light
    refine ⟨ret_bool ?_, ?_⟩
    · by_cases hq : OkC W M R
      · refine Eq.trans ?_ (clkB_t hq).symm
        unfold OkC at hq
        first | rfl | (exfalso; omega) | (simp; omega)
      · refine Eq.trans ?_ (clkB_f hq).symm
        unfold OkC at hq
        first | rfl | (exfalso; omega) | (simp; omega)
    repeat (first | (with_reducible exact Below.refl _ _) | (with_reducible refine Bal ?_ _) | (with_reducible refine Below.drew ?_) | (with_reducible refine below_drewN ?_ _) | (with_reducible refine Bset ?_ ?_ _; (first | (with_reducible exact Nat.le_refl _) | (simp; done) | (simp; omega) | omega)) | (with_reducible refine Bt ?_ (by assumption)))

/-! ### the media time of a wall time, and back -/
def OkCM (W M R x : Int) : Prop := OkC W M R ∧ 0 ≤ x ∧ x ≤ 999999
instance (a b c d : Int) : Decidable (OkCM a b c d) := inferInstanceAs (Decidable (_ ∧ _))
def cmV (W M R x : Int) : Int := if OkCM W M R x then M + (x - W) * R / 1000 else 0
def cmO (W M R x : Int) : Bool := decide (OkCM W M R x)
def cwV (W M R x : Int) : Int := if OkCM W M R x then W - (M - x) * 1000 / R else 0
theorem cm_yes {W M R x : Int} (h : OkCM W M R x) : cmV W M R x = M + (x - W) * R / 1000 ∧ cmO W M R x = true := by unfold cmV cmO; rw [if_pos h]; exact ⟨rfl, decide_eq_true h⟩
theorem cm_no {W M R x : Int} (h : ¬ OkCM W M R x) : cmV W M R x = 0 ∧ cmO W M R x = false := by unfold cmV cmO; rw [if_neg h]; exact ⟨rfl, decide_eq_false h⟩
theorem cw_yes {W M R x : Int} (h : OkCM W M R x) : cwV W M R x = W - (M - x) * 1000 / R ∧ cmO W M R x = true := by unfold cwV cmO; rw [if_pos h]; exact ⟨rfl, decide_eq_true h⟩
theorem cw_no {W M R x : Int} (h : ¬ OkCM W M R x) : cwV W M R x = 0 ∧ cmO W M R x = false := by unfold cwV cmO; rw [if_neg h]; exact ⟨rfl, decide_eq_false h⟩
theorem cmO_eq (W M R x : Int) : cmO W M R x = (clkB W M R && inB x 0 999999) := by
  unfold cmO clkB inB
  by_cases h : OkCM W M R x
  · rw [decide_eq_true h]; unfold OkCM at h; simp [h]
  · rw [decide_eq_false h]; symm; rw [Bool.eq_false_iff]; intro hh; simp at hh; exact h ⟨hh.1, hh.2⟩
theorem cw_num (W M R x : Int) : W + -(-((x - M) * 1000) / R) = W - (M - x) * 1000 / R := by
  rw [show -((x - M) * 1000) = (M - x) * 1000 by omega]; omega

set_option maxHeartbeats 1000000 in
theorem icm_any (W M R x : Int) (w : World) :
    Calls Try.prog 37 #[.agg #[.int .i64 W, .int .i64 M, .int .i64 R], .int .i64 x] w fun e w' => e = .returned (.tuple #[.int .i64 (cmV W M R x), .bool (cmO W M R x)]) ∧ Below w.heap.size w w' := by
  have hv := fun V : World => iclk_any W M R V
  have hx := fun V : World => wvalid_any x V
  by_cases h : OkCM W M R x
  · have H := Lib.hid (cm_yes h)
    simp only [clkB_t h.1] at hv
    simp only [inB_t h.2.1 h.2.2] at hx
    have HV := Lib.hid hv
    have HX := Lib.hid hx
    clear hv hx
    obtain ⟨⟨⟨h1, h2⟩, ⟨h3, h4⟩, h5, h6⟩, h7, h8⟩ := h
    obtain ⟨p1, p2⟩ := mul_bd (x - W) R (by omega) (by omega) (by omega) (by omega)
    obtain ⟨q1, q2⟩ := div_bd ((x - W) * R) 1000 (by omega) (by omega) (by omega)
    have hfd : ∀ (n : Int) (w : World), (Instr.field 69 (.agg #[.int .i64 n]) 0).run Try.prog w = .ok (.int .i64 n) w := fun _ _ => by kernel_rfl
    go_enter Try.func37, Try.ntmps37
    go_wp2_with fail
    refine (HV.out _).mono ?_
    rintro e w1 ⟨rfl, hb1⟩
    obtain ⟨hc1, hf1⟩ := bcell hb1
    have hy1 := hb1.size
    try simp at hy1
    first | (have hz1 : w.heap.size < w1.heap.size := by (have := hb1.size; (try simp at this); omega)) | skip
    have ho1_0 : w.heap.size < w1.heap.size := by (have := hb1.size; (try simp at this); omega)
    have hg1_0 := fun o => hc1 (w.heap.size) o (by first | (simp; done) | (simp; omega) | omega)
    have hk1_0 := fun o => hf1 (w.heap.size) o (by first | (simp; done) | (simp; omega) | omega)
    try simp [go_sem] at hg1_0
    try simp [go_sem] at hk1_0
    have ho1_1 : w.heap.size + 1 < w1.heap.size := by (have := hb1.size; (try simp at this); omega)
    have hg1_1 := fun o => hc1 (w.heap.size + 1) o (by first | (simp; done) | (simp; omega) | omega)
    have hk1_1 := fun o => hf1 (w.heap.size + 1) o (by first | (simp; done) | (simp; omega) | omega)
    try simp [go_sem] at hg1_1
    try simp [go_sem] at hk1_1
    go_wp2_with fail
    refine (HX.out _).mono ?_
    rintro e w2 ⟨rfl, hb2⟩
    obtain ⟨hc2, hf2⟩ := bcell hb2
    have hy2 := hb2.size
    try simp at hy2
    first | (have hz2 : w.heap.size < w2.heap.size := by (have := hb2.size; (try simp at this); omega)) | skip
    have ho2_0 : w.heap.size < w2.heap.size := by (have := hb2.size; (try simp at this); omega)
    have hg2_0 := fun o => hc2 (w.heap.size) o (by first | (simp; done) | (simp; omega) | omega)
    have hk2_0 := fun o => hf2 (w.heap.size) o (by first | (simp; done) | (simp; omega) | omega)
    try simp [go_sem] at hg2_0
    try simp [go_sem] at hk2_0
    have ho2_1 : w.heap.size + 1 < w2.heap.size := by (have := hb2.size; (try simp at this); omega)
    have hg2_1 := fun o => hc2 (w.heap.size + 1) o (by first | (simp; done) | (simp; omega) | omega)
    have hk2_1 := fun o => hf2 (w.heap.size + 1) o (by first | (simp; done) | (simp; omega) | omega)
    try simp [go_sem] at hg2_1
    try simp [go_sem] at hk2_1
    go_wp2_with fail
    refine wp_region_mixB (by kernel_rfl) (by kernel_rfl) ?_
    repeat (first
      | (refine mix_skip rfl ?_; refine mix_putK (fun K hK => ?_); go_simp; refine hK _ ?_; clear hK K)
      | (refine mix_readE rfl rfl rfl ?_; apply Exists.intro; refine ⟨fun w' hb' => ?_, ?_⟩; (obtain ⟨hc', hf'⟩ := Old.cells hb'; clear hb'; go_simp; try exact rfl); refine mix_putK (fun K hK => ?_); go_simp; refine hK _ ?_; clear hK K)
      | (refine mix_pureE rfl rfl ?_; apply Exists.intro; refine ⟨fun w' => ?_, ?_⟩; (go_simp; try exact rfl); refine mix_putK (fun K hK => ?_); go_simp; refine hK _ ?_; clear hK K)
      | (refine mix_eff rfl rfl ?_; go_wp2_with (first | (go_at_call 66; refine (wall_any _ _ _ _).mono ?_; rintro e w3 ⟨rfl, hb3⟩; obtain ⟨hc3, hf3⟩ := bcell hb3; have hy3 := hb3.size; (try simp at hy3); (first | (have hz3 : w.heap.size < w3.heap.size := by (have := hb3.size; (try simp at this); omega)) | skip); have ho3_0 : w.heap.size < w3.heap.size := (by (have := hb3.size; (try simp at this); omega)); have hg3_0 := fun o => hc3 (w.heap.size) o (by first | (simp; done) | (simp; omega) | omega); have hk3_0 := fun o => hf3 (w.heap.size) o (by first | (simp; done) | (simp; omega) | omega); (try simp [go_sem] at hg3_0); (try simp [go_sem] at hk3_0)) | (go_at_call 60; refine (wsince_any _ _ _ h7 h8 h1 h2).mono ?_; rintro e w4 ⟨rfl, hb4⟩; obtain ⟨hc4, hf4⟩ := bcell hb4; have hy4 := hb4.size; (try simp at hy4); (first | (have hz4 : w.heap.size < w4.heap.size := by (have := hb4.size; (try simp at this); omega)) | skip); have ho4_0 : w.heap.size < w4.heap.size := (by (have := hb4.size; (try simp at this); omega)); have hg4_0 := fun o => hc4 (w.heap.size) o (by first | (simp; done) | (simp; omega) | omega); have hk4_0 := fun o => hf4 (w.heap.size) o (by first | (simp; done) | (simp; omega) | omega); (try simp [go_sem] at hg4_0); (try simp [go_sem] at hk4_0)) | (go_at_call 65; refine (qdown_any _ _ _ (by omega) (by omega) (by omega) (by omega)).mono ?_; rintro e w' ⟨rfl, rfl⟩)); refine then_mix rfl ?_ ?_; (first | (intro h; have h2 : false = true := h; cases h2) | (intro _; refine Old.mk ?_; repeat (first | (with_reducible exact Below.refl _ _) | (with_reducible refine Bal ?_ _) | (with_reducible refine Below.drew ?_) | (with_reducible refine below_drewN ?_ _) | (with_reducible refine Bset ?_ ?_ _; (first | (with_reducible exact Nat.le_refl _) | (simp; done) | (simp; omega) | omega)) | (with_reducible refine Bt ?_ (by assumption)))))))
    refine mix_nil ?_
    go_wp2_with fail
    refine (media_any _ _ _ _).mono ?_
    rintro e w5 ⟨rfl, hb5⟩
    obtain ⟨hc5, hf5⟩ := bcell hb5
    have hy5 := hb5.size
    try simp at hy5
    first | (have hz5 : w.heap.size < w5.heap.size := by (have := hb5.size; (try simp at this); omega)) | skip
    have ho5_0 : w.heap.size < w5.heap.size := by (have := hb5.size; (try simp at this); omega)
    have hg5_0 := fun o => hc5 (w.heap.size) o (by first | (simp; done) | (simp; omega) | omega)
    have hk5_0 := fun o => hf5 (w.heap.size) o (by first | (simp; done) | (simp; omega) | omega)
    try simp [go_sem] at hg5_0
    try simp [go_sem] at hk5_0
    go_wp2_with fail
    refine (mlater_any _ _ _ h3 h4 q1 q2).mono ?_
    rintro e w6 ⟨rfl, hb6⟩
    obtain ⟨hc6, hf6⟩ := bcell hb6
    have hy6 := hb6.size
    try simp at hy6
    first | (have hz6 : w.heap.size < w6.heap.size := by (have := hb6.size; (try simp at this); omega)) | skip
    go_wp2_with fail
    go_ret2
    go_light
    refine ⟨ret_ib' H.out, ?_⟩
    repeat (first | (with_reducible exact Below.refl _ _) | (with_reducible refine Bal ?_ _) | (with_reducible refine Below.drew ?_) | (with_reducible refine below_drewN ?_ _) | (with_reducible refine Bset ?_ ?_ _; (first | (with_reducible exact Nat.le_refl _) | (simp; done) | (simp; omega) | omega)) | (with_reducible refine Bt ?_ (by assumption)))
  · have H := Lib.hid (cm_no h)
    have HO := Lib.hid ((cmO_eq W M R x).symm.trans (cm_no h).2)
    clear h
    cases hc : clkB W M R
    · simp only [hc] at hv
      have HV := Lib.hid hv
      clear hv hx hc
      go_enter Try.func37, Try.ntmps37
      go_wp2_with fail
      refine (HV.out _).mono ?_
      rintro e w1 ⟨rfl, hb1⟩
      obtain ⟨hc1, hf1⟩ := bcell hb1
      have hy1 := hb1.size
      try simp at hy1
      first | (have hz1 : w.heap.size < w1.heap.size := by (have := hb1.size; (try simp at this); omega)) | skip
      have ho1_0 : w.heap.size < w1.heap.size := by (have := hb1.size; (try simp at this); omega)
      have hg1_0 := fun o => hc1 (w.heap.size) o (by first | (simp; done) | (simp; omega) | omega)
      have hk1_0 := fun o => hf1 (w.heap.size) o (by first | (simp; done) | (simp; omega) | omega)
      try simp [go_sem] at hg1_0
      try simp [go_sem] at hk1_0
      have ho1_1 : w.heap.size + 1 < w1.heap.size := by (have := hb1.size; (try simp at this); omega)
      have hg1_1 := fun o => hc1 (w.heap.size + 1) o (by first | (simp; done) | (simp; omega) | omega)
      have hk1_1 := fun o => hf1 (w.heap.size + 1) o (by first | (simp; done) | (simp; omega) | omega)
      try simp [go_sem] at hg1_1
      try simp [go_sem] at hk1_1
      go_wp2_with fail
      go_ret2
      go_light
      refine ⟨ret_ib' H.out, ?_⟩
      repeat (first | (with_reducible exact Below.refl _ _) | (with_reducible refine Bal ?_ _) | (with_reducible refine Below.drew ?_) | (with_reducible refine below_drewN ?_ _) | (with_reducible refine Bset ?_ ?_ _; (first | (with_reducible exact Nat.le_refl _) | (simp; done) | (simp; omega) | omega)) | (with_reducible refine Bt ?_ (by assumption)))
    · have hi : inB x 0 999999 = false := by have := HO.out; rw [hc] at this; simpa using this
      simp only [hc] at hv
      simp only [hi] at hx
      have HV := Lib.hid hv
      have HX := Lib.hid hx
      clear hv hx hc hi
      go_enter Try.func37, Try.ntmps37
      go_wp2_with fail
      refine (HV.out _).mono ?_
      rintro e w1 ⟨rfl, hb1⟩
      obtain ⟨hc1, hf1⟩ := bcell hb1
      have hy1 := hb1.size
      try simp at hy1
      first | (have hz1 : w.heap.size < w1.heap.size := by (have := hb1.size; (try simp at this); omega)) | skip
      have ho1_0 : w.heap.size < w1.heap.size := by (have := hb1.size; (try simp at this); omega)
      have hg1_0 := fun o => hc1 (w.heap.size) o (by first | (simp; done) | (simp; omega) | omega)
      have hk1_0 := fun o => hf1 (w.heap.size) o (by first | (simp; done) | (simp; omega) | omega)
      try simp [go_sem] at hg1_0
      try simp [go_sem] at hk1_0
      have ho1_1 : w.heap.size + 1 < w1.heap.size := by (have := hb1.size; (try simp at this); omega)
      have hg1_1 := fun o => hc1 (w.heap.size + 1) o (by first | (simp; done) | (simp; omega) | omega)
      have hk1_1 := fun o => hf1 (w.heap.size + 1) o (by first | (simp; done) | (simp; omega) | omega)
      try simp [go_sem] at hg1_1
      try simp [go_sem] at hk1_1
      go_wp2_with fail
      refine (HX.out _).mono ?_
      rintro e w2 ⟨rfl, hb2⟩
      obtain ⟨hc2, hf2⟩ := bcell hb2
      have hy2 := hb2.size
      try simp at hy2
      first | (have hz2 : w.heap.size < w2.heap.size := by (have := hb2.size; (try simp at this); omega)) | skip
      have ho2_0 : w.heap.size < w2.heap.size := by (have := hb2.size; (try simp at this); omega)
      have hg2_0 := fun o => hc2 (w.heap.size) o (by first | (simp; done) | (simp; omega) | omega)
      have hk2_0 := fun o => hf2 (w.heap.size) o (by first | (simp; done) | (simp; omega) | omega)
      try simp [go_sem] at hg2_0
      try simp [go_sem] at hk2_0
      have ho2_1 : w.heap.size + 1 < w2.heap.size := by (have := hb2.size; (try simp at this); omega)
      have hg2_1 := fun o => hc2 (w.heap.size + 1) o (by first | (simp; done) | (simp; omega) | omega)
      have hk2_1 := fun o => hf2 (w.heap.size + 1) o (by first | (simp; done) | (simp; omega) | omega)
      try simp [go_sem] at hg2_1
      try simp [go_sem] at hk2_1
      go_wp2_with fail
      go_ret2
      go_light
      refine ⟨ret_ib' H.out, ?_⟩
      repeat (first | (with_reducible exact Below.refl _ _) | (with_reducible refine Bal ?_ _) | (with_reducible refine Below.drew ?_) | (with_reducible refine below_drewN ?_ _) | (with_reducible refine Bset ?_ ?_ _; (first | (with_reducible exact Nat.le_refl _) | (simp; done) | (simp; omega) | omega)) | (with_reducible refine Bt ?_ (by assumption)))
set_option maxHeartbeats 1000000 in
theorem icw_any (W M R x : Int) (w : World) :
    Calls Try.prog 40 #[.agg #[.int .i64 W, .int .i64 M, .int .i64 R], .int .i64 x] w fun e w' => e = .returned (.tuple #[.int .i64 (cwV W M R x), .bool (cmO W M R x)]) ∧ Below w.heap.size w w' := by
  have hv := fun V : World => iclk_any W M R V
  have hx := fun V : World => mvalid_any x V
  by_cases h : OkCM W M R x
  · have H := Lib.hid (cw_yes h)
    simp only [clkB_t h.1] at hv
    simp only [inB_t h.2.1 h.2.2] at hx
    have HV := Lib.hid hv
    have HX := Lib.hid hx
    clear hv hx
    obtain ⟨⟨⟨h1, h2⟩, ⟨h3, h4⟩, h5, h6⟩, h7, h8⟩ := h
    have p1 : -999999000 ≤ (x - M) * 1000 := by omega
    have p2 : (x - M) * 1000 ≤ 999999000 := by omega
    obtain ⟨q1, q2⟩ := div_bd (-((x - M) * 1000)) R (by omega) (by omega) (by omega)
    have hfd : ∀ (n : Int) (w : World), (Instr.field 68 (.agg #[.int .i64 n]) 0).run Try.prog w = .ok (.int .i64 n) w := fun _ _ => by kernel_rfl
    go_enter Try.func40, Try.ntmps40
    go_wp2_with fail
    refine (HV.out _).mono ?_
    rintro e w1 ⟨rfl, hb1⟩
    obtain ⟨hc1, hf1⟩ := bcell hb1
    have hy1 := hb1.size
    try simp at hy1
    first | (have hz1 : w.heap.size < w1.heap.size := by (have := hb1.size; (try simp at this); omega)) | skip
    have ho1_0 : w.heap.size < w1.heap.size := by (have := hb1.size; (try simp at this); omega)
    have hg1_0 := fun o => hc1 (w.heap.size) o (by first | (simp; done) | (simp; omega) | omega)
    have hk1_0 := fun o => hf1 (w.heap.size) o (by first | (simp; done) | (simp; omega) | omega)
    try simp [go_sem] at hg1_0
    try simp [go_sem] at hk1_0
    have ho1_1 : w.heap.size + 1 < w1.heap.size := by (have := hb1.size; (try simp at this); omega)
    have hg1_1 := fun o => hc1 (w.heap.size + 1) o (by first | (simp; done) | (simp; omega) | omega)
    have hk1_1 := fun o => hf1 (w.heap.size + 1) o (by first | (simp; done) | (simp; omega) | omega)
    try simp [go_sem] at hg1_1
    try simp [go_sem] at hk1_1
    go_wp2_with fail
    refine (HX.out _).mono ?_
    rintro e w2 ⟨rfl, hb2⟩
    obtain ⟨hc2, hf2⟩ := bcell hb2
    have hy2 := hb2.size
    try simp at hy2
    first | (have hz2 : w.heap.size < w2.heap.size := by (have := hb2.size; (try simp at this); omega)) | skip
    have ho2_0 : w.heap.size < w2.heap.size := by (have := hb2.size; (try simp at this); omega)
    have hg2_0 := fun o => hc2 (w.heap.size) o (by first | (simp; done) | (simp; omega) | omega)
    have hk2_0 := fun o => hf2 (w.heap.size) o (by first | (simp; done) | (simp; omega) | omega)
    try simp [go_sem] at hg2_0
    try simp [go_sem] at hk2_0
    have ho2_1 : w.heap.size + 1 < w2.heap.size := by (have := hb2.size; (try simp at this); omega)
    have hg2_1 := fun o => hc2 (w.heap.size + 1) o (by first | (simp; done) | (simp; omega) | omega)
    have hk2_1 := fun o => hf2 (w.heap.size + 1) o (by first | (simp; done) | (simp; omega) | omega)
    try simp [go_sem] at hg2_1
    try simp [go_sem] at hk2_1
    go_wp2_with fail
    refine wp_region_mixB (by kernel_rfl) (by kernel_rfl) ?_
    repeat (first
      | (refine mix_skip rfl ?_; refine mix_putK (fun K hK => ?_); go_simp; refine hK _ ?_; clear hK K)
      | (refine mix_readE rfl rfl rfl ?_; apply Exists.intro; refine ⟨fun w' hb' => ?_, ?_⟩; (obtain ⟨hc', hf'⟩ := Old.cells hb'; clear hb'; go_simp; try exact rfl); refine mix_putK (fun K hK => ?_); go_simp; refine hK _ ?_; clear hK K)
      | (refine mix_pureE rfl rfl ?_; apply Exists.intro; refine ⟨fun w' => ?_, ?_⟩; (go_simp; try exact rfl); refine mix_putK (fun K hK => ?_); go_simp; refine hK _ ?_; clear hK K)
      | (refine mix_eff rfl rfl ?_; go_wp2_with (first | (go_at_call 67; refine (media_any _ _ _ _).mono ?_; rintro e w3 ⟨rfl, hb3⟩; obtain ⟨hc3, hf3⟩ := bcell hb3; have hy3 := hb3.size; (try simp at hy3); (first | (have hz3 : w.heap.size < w3.heap.size := by (have := hb3.size; (try simp at this); omega)) | skip); have ho3_0 : w.heap.size < w3.heap.size := (by (have := hb3.size; (try simp at this); omega)); have hg3_0 := fun o => hc3 (w.heap.size) o (by first | (simp; done) | (simp; omega) | omega); have hk3_0 := fun o => hf3 (w.heap.size) o (by first | (simp; done) | (simp; omega) | omega); (try simp [go_sem] at hg3_0); (try simp [go_sem] at hk3_0)) | (go_at_call 61; refine (msince_any _ _ _ h7 h8 h3 h4).mono ?_; rintro e w4 ⟨rfl, hb4⟩; obtain ⟨hc4, hf4⟩ := bcell hb4; have hy4 := hb4.size; (try simp at hy4); (first | (have hz4 : w.heap.size < w4.heap.size := by (have := hb4.size; (try simp at this); omega)) | skip); have ho4_0 : w.heap.size < w4.heap.size := (by (have := hb4.size; (try simp at this); omega)); have hg4_0 := fun o => hc4 (w.heap.size) o (by first | (simp; done) | (simp; omega) | omega); have hk4_0 := fun o => hf4 (w.heap.size) o (by first | (simp; done) | (simp; omega) | omega); (try simp [go_sem] at hg4_0); (try simp [go_sem] at hk4_0)) | (go_at_call 70; refine (qup_any _ _ _ (by omega) (by omega) (by omega) (by omega)).mono ?_; rintro e w' ⟨rfl, rfl⟩)); refine then_mix rfl ?_ ?_; (first | (intro h; have h2 : false = true := h; cases h2) | (intro _; refine Old.mk ?_; repeat (first | (with_reducible exact Below.refl _ _) | (with_reducible refine Bal ?_ _) | (with_reducible refine Below.drew ?_) | (with_reducible refine below_drewN ?_ _) | (with_reducible refine Bset ?_ ?_ _; (first | (with_reducible exact Nat.le_refl _) | (simp; done) | (simp; omega) | omega)) | (with_reducible refine Bt ?_ (by assumption)))))))
    refine mix_nil ?_
    go_wp2_with fail
    refine (wall_any _ _ _ _).mono ?_
    rintro e w5 ⟨rfl, hb5⟩
    obtain ⟨hc5, hf5⟩ := bcell hb5
    have hy5 := hb5.size
    try simp at hy5
    first | (have hz5 : w.heap.size < w5.heap.size := by (have := hb5.size; (try simp at this); omega)) | skip
    have ho5_0 : w.heap.size < w5.heap.size := by (have := hb5.size; (try simp at this); omega)
    have hg5_0 := fun o => hc5 (w.heap.size) o (by first | (simp; done) | (simp; omega) | omega)
    have hk5_0 := fun o => hf5 (w.heap.size) o (by first | (simp; done) | (simp; omega) | omega)
    try simp [go_sem] at hg5_0
    try simp [go_sem] at hk5_0
    go_wp2_with fail
    refine (wlater_any _ _ _ h1 h2 (by omega) (by omega)).mono ?_
    rintro e w6 ⟨rfl, hb6⟩
    obtain ⟨hc6, hf6⟩ := bcell hb6
    have hy6 := hb6.size
    try simp at hy6
    first | (have hz6 : w.heap.size < w6.heap.size := by (have := hb6.size; (try simp at this); omega)) | skip
    go_wp2_with fail
    go_ret2
    go_light
    refine ⟨ret_ib' ⟨H.out.1.trans (cw_num W M R x).symm, H.out.2⟩, ?_⟩
    repeat (first | (with_reducible exact Below.refl _ _) | (with_reducible refine Bal ?_ _) | (with_reducible refine Below.drew ?_) | (with_reducible refine below_drewN ?_ _) | (with_reducible refine Bset ?_ ?_ _; (first | (with_reducible exact Nat.le_refl _) | (simp; done) | (simp; omega) | omega)) | (with_reducible refine Bt ?_ (by assumption)))
  · have H := Lib.hid (cw_no h)
    have HO := Lib.hid ((cmO_eq W M R x).symm.trans (cw_no h).2)
    clear h
    cases hc : clkB W M R
    · simp only [hc] at hv
      have HV := Lib.hid hv
      clear hv hx hc
      go_enter Try.func40, Try.ntmps40
      go_wp2_with fail
      refine (HV.out _).mono ?_
      rintro e w1 ⟨rfl, hb1⟩
      obtain ⟨hc1, hf1⟩ := bcell hb1
      have hy1 := hb1.size
      try simp at hy1
      first | (have hz1 : w.heap.size < w1.heap.size := by (have := hb1.size; (try simp at this); omega)) | skip
      have ho1_0 : w.heap.size < w1.heap.size := by (have := hb1.size; (try simp at this); omega)
      have hg1_0 := fun o => hc1 (w.heap.size) o (by first | (simp; done) | (simp; omega) | omega)
      have hk1_0 := fun o => hf1 (w.heap.size) o (by first | (simp; done) | (simp; omega) | omega)
      try simp [go_sem] at hg1_0
      try simp [go_sem] at hk1_0
      have ho1_1 : w.heap.size + 1 < w1.heap.size := by (have := hb1.size; (try simp at this); omega)
      have hg1_1 := fun o => hc1 (w.heap.size + 1) o (by first | (simp; done) | (simp; omega) | omega)
      have hk1_1 := fun o => hf1 (w.heap.size + 1) o (by first | (simp; done) | (simp; omega) | omega)
      try simp [go_sem] at hg1_1
      try simp [go_sem] at hk1_1
      go_wp2_with fail
      go_ret2
      go_light
      refine ⟨ret_ib' H.out, ?_⟩
      repeat (first | (with_reducible exact Below.refl _ _) | (with_reducible refine Bal ?_ _) | (with_reducible refine Below.drew ?_) | (with_reducible refine below_drewN ?_ _) | (with_reducible refine Bset ?_ ?_ _; (first | (with_reducible exact Nat.le_refl _) | (simp; done) | (simp; omega) | omega)) | (with_reducible refine Bt ?_ (by assumption)))
    · have hi : inB x 0 999999 = false := by have := HO.out; rw [hc] at this; simpa using this
      simp only [hc] at hv
      simp only [hi] at hx
      have HV := Lib.hid hv
      have HX := Lib.hid hx
      clear hv hx hc hi
      go_enter Try.func40, Try.ntmps40
      go_wp2_with fail
      refine (HV.out _).mono ?_
      rintro e w1 ⟨rfl, hb1⟩
      obtain ⟨hc1, hf1⟩ := bcell hb1
      have hy1 := hb1.size
      try simp at hy1
      first | (have hz1 : w.heap.size < w1.heap.size := by (have := hb1.size; (try simp at this); omega)) | skip
      have ho1_0 : w.heap.size < w1.heap.size := by (have := hb1.size; (try simp at this); omega)
      have hg1_0 := fun o => hc1 (w.heap.size) o (by first | (simp; done) | (simp; omega) | omega)
      have hk1_0 := fun o => hf1 (w.heap.size) o (by first | (simp; done) | (simp; omega) | omega)
      try simp [go_sem] at hg1_0
      try simp [go_sem] at hk1_0
      have ho1_1 : w.heap.size + 1 < w1.heap.size := by (have := hb1.size; (try simp at this); omega)
      have hg1_1 := fun o => hc1 (w.heap.size + 1) o (by first | (simp; done) | (simp; omega) | omega)
      have hk1_1 := fun o => hf1 (w.heap.size + 1) o (by first | (simp; done) | (simp; omega) | omega)
      try simp [go_sem] at hg1_1
      try simp [go_sem] at hk1_1
      go_wp2_with fail
      refine (HX.out _).mono ?_
      rintro e w2 ⟨rfl, hb2⟩
      obtain ⟨hc2, hf2⟩ := bcell hb2
      have hy2 := hb2.size
      try simp at hy2
      first | (have hz2 : w.heap.size < w2.heap.size := by (have := hb2.size; (try simp at this); omega)) | skip
      have ho2_0 : w.heap.size < w2.heap.size := by (have := hb2.size; (try simp at this); omega)
      have hg2_0 := fun o => hc2 (w.heap.size) o (by first | (simp; done) | (simp; omega) | omega)
      have hk2_0 := fun o => hf2 (w.heap.size) o (by first | (simp; done) | (simp; omega) | omega)
      try simp [go_sem] at hg2_0
      try simp [go_sem] at hk2_0
      have ho2_1 : w.heap.size + 1 < w2.heap.size := by (have := hb2.size; (try simp at this); omega)
      have hg2_1 := fun o => hc2 (w.heap.size + 1) o (by first | (simp; done) | (simp; omega) | omega)
      have hk2_1 := fun o => hf2 (w.heap.size + 1) o (by first | (simp; done) | (simp; omega) | omega)
      try simp [go_sem] at hg2_1
      try simp [go_sem] at hk2_1
      go_wp2_with fail
      go_ret2
      go_light
      refine ⟨ret_ib' H.out, ?_⟩
      repeat (first | (with_reducible exact Below.refl _ _) | (with_reducible refine Bal ?_ _) | (with_reducible refine Below.drew ?_) | (with_reducible refine below_drewN ?_ _) | (with_reducible refine Bset ?_ ?_ _; (first | (with_reducible exact Nat.le_refl _) | (simp; done) | (simp; omega) | omega)) | (with_reducible refine Bt ?_ (by assumption)))
end Go.Proofs.Ytlbnipcdkfonpaa
