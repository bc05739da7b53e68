/- Packets by value: when they are valid, and what the laws' helpers do with them. -/
import Derived.Test.YtegdogamenoaiaaInts
namespace Go.Proofs.Ytegdogamenoaiaa
open Go Go.RowKit
set_option linter.unusedVariables false
set_option linter.unusedSimpArgs false

structure Pk where
  w : Int
  t : Int
  l : Int
  s : Int
  k : Bool
  z : Bool
def PkV (p : Pk) : Value := .agg #[.int .i64 p.w, .int .i64 p.t, .int .i64 p.l, .int .i64 p.s, .bool p.k, .bool p.z]
def PkOk (p : Pk) : Prop := (0 ≤ p.w ∧ p.w ≤ 999999) ∧ (0 ≤ p.t ∧ p.t ≤ 99999) ∧ (0 ≤ p.l ∧ p.l ≤ 2) ∧ 1 ≤ p.s ∧ p.s ≤ 1500
instance (p : Pk) : Decidable (PkOk p) := inferInstanceAs (Decidable (_ ∧ _))
def pkB (p : Pk) : Bool := decide (PkOk p)
theorem timeV_any (n : Int) (w : World) : Calls Try.prog 57 #[.int .i64 n] w fun e w' => e = .returned (.bool (inB n 0 99999)) ∧ w = w' := by
  by_cases h1 : 0 ≤ n
  · by_cases h2 : n ≤ 99999
    · go_enter Try.func57, Try.ntmps57
      go_wp2
      go_ret
      exact ⟨ret_bool (inB_t h1 h2).symm, rfl⟩
    · go_enter Try.func57, Try.ntmps57
      go_wp2
      go_ret
      exact ⟨ret_bool (inB_f2 (by omega)).symm, rfl⟩
  · go_enter Try.func57, Try.ntmps57
    go_wp2
    go_ret
    exact ⟨ret_bool (inB_f1 (by omega)).symm, rfl⟩
set_option maxHeartbeats 1000000 in
theorem toPk_any (a b c d : Int) (k z : Bool) (w : World) :
    Calls Try.prog 25 #[.agg #[.int .i64 a, .int .i64 b, .int .i64 c, .int .i64 d, .bool k, .bool z]] w fun e w' => e = .returned (.agg #[.int .i64 a, .int .i64 b, .int .i64 c, .int .i64 d, .bool k, .bool z]) ∧ Below w.heap.size w w' := by
  go_enter Try.func25, Try.ntmps25
  go_wp2
  refine bodyPost_ret (v := .agg #[.int .i64 a, .int .i64 b, .int .i64 c, .int .i64 d, .bool k, .bool z]) (by simp [results, Try.results25, go_sem]) rfl ⟨rfl, ?_⟩
  go_light
  repeat (first | (with_reducible exact Below.refl _ _) | (with_reducible refine Bal ?_ _) | (with_reducible refine Below.drew ?_) | (with_reducible refine below_drewN ?_ _) | (with_reducible refine Bset ?_ ?_ _; focus (first | (with_reducible exact Nat.le_refl _) | (simp; done) | (simp; omega) | omega)) | (with_reducible refine Bt ?_ (by assumption)) | (with_reducible refine Bp (g := g) ?_ (by assumption) (by assumption)))
set_option maxHeartbeats 4000000 in
theorem ipv_any (a b c d : Int) (k z : Bool) (w : World) :
    Calls Try.prog 56 #[.agg #[.int .i64 a, .int .i64 b, .int .i64 c, .int .i64 d, .bool k, .bool z]] w fun e w' => e = .returned (.bool (pkB ⟨a, b, c, d, k, z⟩)) ∧ Below w.heap.size w w' := by
  by_cases h1 : inB a 0 999999 = true
  · by_cases h2 : inB b 0 99999 = true
    · by_cases h3 : 0 ≤ c
      · by_cases h4 : c ≤ 2
        · by_cases h5 : 1 ≤ d
          · by_cases h6 : d ≤ 1500
            · go_enter Try.func56, Try.ntmps56
              go_wp2_with (first | (go_at_call 68; refine (wideValid_any _ _).mono ?_; rintro e w' ⟨rfl, rfl⟩) | (go_at_call 57; refine (timeV_any _ _).mono ?_; rintro e w' ⟨rfl, rfl⟩))
              go_ret
              go_light
              refine ⟨ret_bool ?_, Ba _ _⟩
              exact (decide_eq_true (show PkOk ⟨a, b, c, d, k, z⟩ by (try simp [inB] at h1 h2); unfold PkOk; simp; omega)).symm
            · go_enter Try.func56, Try.ntmps56
              go_wp2_with (first | (go_at_call 68; refine (wideValid_any _ _).mono ?_; rintro e w' ⟨rfl, rfl⟩) | (go_at_call 57; refine (timeV_any _ _).mono ?_; rintro e w' ⟨rfl, rfl⟩))
              go_ret
              go_light
              refine ⟨ret_bool ?_, Ba _ _⟩
              (rw [show pkB ⟨a, b, c, d, k, z⟩ = false from decide_eq_false (show ¬ PkOk ⟨a, b, c, d, k, z⟩ by (try simp [inB] at h6); unfold PkOk; simp; omega)]; try (first | rfl | (simp; omega)))
          · go_enter Try.func56, Try.ntmps56
            go_wp2_with (first | (go_at_call 68; refine (wideValid_any _ _).mono ?_; rintro e w' ⟨rfl, rfl⟩) | (go_at_call 57; refine (timeV_any _ _).mono ?_; rintro e w' ⟨rfl, rfl⟩))
            go_ret
            go_light
            refine ⟨ret_bool ?_, Ba _ _⟩
            (rw [show pkB ⟨a, b, c, d, k, z⟩ = false from decide_eq_false (show ¬ PkOk ⟨a, b, c, d, k, z⟩ by (try simp [inB] at h5); unfold PkOk; simp; omega)]; try (first | rfl | (simp; omega)))
        · go_enter Try.func56, Try.ntmps56
          go_wp2_with (first | (go_at_call 68; refine (wideValid_any _ _).mono ?_; rintro e w' ⟨rfl, rfl⟩) | (go_at_call 57; refine (timeV_any _ _).mono ?_; rintro e w' ⟨rfl, rfl⟩))
          go_ret
          go_light
          refine ⟨ret_bool ?_, Ba _ _⟩
          (rw [show pkB ⟨a, b, c, d, k, z⟩ = false from decide_eq_false (show ¬ PkOk ⟨a, b, c, d, k, z⟩ by (try simp [inB] at h4); unfold PkOk; simp; omega)]; try (first | rfl | (simp; omega)))
      · go_enter Try.func56, Try.ntmps56
        go_wp2_with (first | (go_at_call 68; refine (wideValid_any _ _).mono ?_; rintro e w' ⟨rfl, rfl⟩) | (go_at_call 57; refine (timeV_any _ _).mono ?_; rintro e w' ⟨rfl, rfl⟩))
        go_ret
        go_light
        refine ⟨ret_bool ?_, Ba _ _⟩
        (rw [show pkB ⟨a, b, c, d, k, z⟩ = false from decide_eq_false (show ¬ PkOk ⟨a, b, c, d, k, z⟩ by (try simp [inB] at h3); unfold PkOk; simp; omega)]; try (first | rfl | (simp; omega)))
    · have h2 : inB b 0 99999 = false := by simpa using h2
      go_enter Try.func56, Try.ntmps56
      go_wp2_with (first | (go_at_call 68; refine (wideValid_any _ _).mono ?_; rintro e w' ⟨rfl, rfl⟩) | (go_at_call 57; refine (timeV_any _ _).mono ?_; rintro e w' ⟨rfl, rfl⟩))
      go_ret
      go_light
      refine ⟨ret_bool ?_, Ba _ _⟩
      (rw [show pkB ⟨a, b, c, d, k, z⟩ = false from decide_eq_false (show ¬ PkOk ⟨a, b, c, d, k, z⟩ by (try simp [inB] at h2); unfold PkOk; simp; omega)]; try (first | rfl | (simp; omega)))
  · have h1 : inB a 0 999999 = false := by simpa using h1
    go_enter Try.func56, Try.ntmps56
    go_wp2_with (first | (go_at_call 68; refine (wideValid_any _ _).mono ?_; rintro e w' ⟨rfl, rfl⟩) | (go_at_call 57; refine (timeV_any _ _).mono ?_; rintro e w' ⟨rfl, rfl⟩))
    go_ret
    go_light
    refine ⟨ret_bool ?_, Ba _ _⟩
    (rw [show pkB ⟨a, b, c, d, k, z⟩ = false from decide_eq_false (show ¬ PkOk ⟨a, b, c, d, k, z⟩ by (try simp [inB] at h1); unfold PkOk; simp; omega)]; try (first | rfl | (simp; omega)))
set_option maxHeartbeats 4000000 in
theorem spv_any (a b c d : Int) (k z : Bool) (w : World) :
    Calls Try.prog 54 #[.agg #[.int .i64 a, .int .i64 b, .int .i64 c, .int .i64 d, .bool k, .bool z]] w fun e w' => e = .returned (.bool (pkB ⟨a, b, c, d, k, z⟩)) ∧ Below w.heap.size w w' := by
  by_cases h1 : inB a 0 999999 = true
  · by_cases h2 : inB b 0 99999 = true
    · by_cases h3 : inB c 0 2 = true
      · by_cases h4 : inB d 1 1500 = true
        · go_enter Try.func54, Try.ntmps54
          go_wp2_with (go_at_call 43; refine (l6In_any _ _ _ _).mono ?_; rintro e w' ⟨rfl, rfl⟩)
          go_ret
          go_light
          refine ⟨ret_bool ?_, Ba _ _⟩
          exact (decide_eq_true (show PkOk ⟨a, b, c, d, k, z⟩ by (try simp [inB] at h1 h2 h3 h4); unfold PkOk; simp; omega)).symm
        · have h4 : inB d 1 1500 = false := by simpa using h4
          go_enter Try.func54, Try.ntmps54
          go_wp2_with (go_at_call 43; refine (l6In_any _ _ _ _).mono ?_; rintro e w' ⟨rfl, rfl⟩)
          go_ret
          go_light
          refine ⟨ret_bool ?_, Ba _ _⟩
          (rw [show pkB ⟨a, b, c, d, k, z⟩ = false from decide_eq_false (show ¬ PkOk ⟨a, b, c, d, k, z⟩ by (try simp [inB] at h4); unfold PkOk; simp; omega)]; try (first | rfl | (simp; omega)))
      · have h3 : inB c 0 2 = false := by simpa using h3
        go_enter Try.func54, Try.ntmps54
        go_wp2_with (go_at_call 43; refine (l6In_any _ _ _ _).mono ?_; rintro e w' ⟨rfl, rfl⟩)
        go_ret
        go_light
        refine ⟨ret_bool ?_, Ba _ _⟩
        (rw [show pkB ⟨a, b, c, d, k, z⟩ = false from decide_eq_false (show ¬ PkOk ⟨a, b, c, d, k, z⟩ by (try simp [inB] at h3); unfold PkOk; simp; omega)]; try (first | rfl | (simp; omega)))
    · have h2 : inB b 0 99999 = false := by simpa using h2
      go_enter Try.func54, Try.ntmps54
      go_wp2_with (go_at_call 43; refine (l6In_any _ _ _ _).mono ?_; rintro e w' ⟨rfl, rfl⟩)
      go_ret
      go_light
      refine ⟨ret_bool ?_, Ba _ _⟩
      (rw [show pkB ⟨a, b, c, d, k, z⟩ = false from decide_eq_false (show ¬ PkOk ⟨a, b, c, d, k, z⟩ by (try simp [inB] at h2); unfold PkOk; simp; omega)]; try (first | rfl | (simp; omega)))
  · have h1 : inB a 0 999999 = false := by simpa using h1
    go_enter Try.func54, Try.ntmps54
    go_wp2_with (go_at_call 43; refine (l6In_any _ _ _ _).mono ?_; rintro e w' ⟨rfl, rfl⟩)
    go_ret
    go_light
    refine ⟨ret_bool ?_, Ba _ _⟩
    (rw [show pkB ⟨a, b, c, d, k, z⟩ = false from decide_eq_false (show ¬ PkOk ⟨a, b, c, d, k, z⟩ by (try simp [inB] at h1); unfold PkOk; simp; omega)]; try (first | rfl | (simp; omega)))
end Go.Proofs.Ytegdogamenoaiaa
