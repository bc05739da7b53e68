/- ClockOf: the program's and the reference's. -/
import Derived.Test.YtiljiiifalhggaaClk
import Derived.Test.YtiljiiifalhggaaClkS
namespace Go.Proofs.Ytiljiiifalhggaa
open Go.RowKit
set_option linter.unusedVariables false
set_option linter.unusedSimpArgs false

def coR (a m b n : Int) : Int := 1000 * (n - m) / (b - a)
def OkCO (a m b n : Int) : Prop := ((0 ≤ a ∧ a ≤ 999999) ∧ (0 ≤ b ∧ b ≤ 999999) ∧ (0 ≤ m ∧ m ≤ 999999) ∧ (0 ≤ n ∧ n ≤ 999999)) ∧ (a < b ∧ m ≤ n) ∧ 1 ≤ coR a m b n ∧ coR a m b n ≤ 999999
instance (a b c d : Int) : Decidable (OkCO a b c d) := inferInstanceAs (Decidable (_ ∧ _))
def coI (a m b n x : Int) : Int := if OkCO a m b n then x else 0
def coV (a m b n : Int) : Value := .agg #[.int .i64 (coI a m b n a), .int .i64 (coI a m b n m), .int .i64 (coI a m b n (coR a m b n))]
def coO (a m b n : Int) : Bool := decide (OkCO a m b n)
theorem co_yes {a m b n : Int} (h : OkCO a m b n) : coV a m b n = .agg #[.int .i64 a, .int .i64 m, .int .i64 (1000 * (n - m) / (b - a))] ∧ coO a m b n = true := by
  unfold coV coI coO; rw [if_pos h, if_pos h, if_pos h]; exact ⟨rfl, decide_eq_true h⟩
theorem co_no {a m b n : Int} (h : ¬ OkCO a m b n) : coV a m b n = .agg #[.int .i64 0, .int .i64 0, .int .i64 0] ∧ coO a m b n = false := by
  unfold coV coI coO; rw [if_neg h, if_neg h, if_neg h]; exact ⟨rfl, decide_eq_false h⟩
theorem ret_vb2 {u v : Value} {x y : Bool} (h : u = v ∧ x = y) : Ending.returned (.tuple #[v, .bool y]) = .returned (.tuple #[u, .bool x]) := by rw [h.1, h.2]

set_option maxHeartbeats 1000000 in
theorem ico_bad0 (a m b n : Int) (w : World)  (f0 : inB a 0 999999 = false) (hN : ¬ OkCO a m b n) :
    Calls Try.prog 11 #[.int .i64 a, .int .i64 m, .int .i64 b, .int .i64 n] w fun e w' => e = .returned (.tuple #[coV a m b n, .bool (coO a m b n)]) ∧ Below w.heap.size w w' := by
  have H := Lib.hid (co_no hN)
  have h0 := fun V : World => wvalid_any a V
  simp only [f0] at h0
  have H0 := Lib.hid h0
  clear hN h0  f0
  go_enter Try.func11, Try.ntmps11
  go_wp2_with fail
  refine (H0.out _).mono ?_
  rintro e w0 ⟨rfl, hb0⟩
  obtain ⟨hc0, hf0⟩ := bcell hb0
  have hy0 := hb0.size
  try simp at hy0
  first | (have hz0 : w.heap.size < w0.heap.size := by (have := hb0.size; (try simp at this); omega)) | skip
  have ho0_0 : w.heap.size < w0.heap.size := by (have := hb0.size; (try simp at this); omega)
  have hg0_0 := fun o => hc0 (w.heap.size) o (by first | (simp; done) | (simp; omega) | omega)
  have hk0_0 := fun o => hf0 (w.heap.size) o (by first | (simp; done) | (simp; omega) | omega)
  try simp [go_sem] at hg0_0
  try simp [go_sem] at hk0_0
  have ho0_1 : w.heap.size + 1 < w0.heap.size := by (have := hb0.size; (try simp at this); omega)
  have hg0_1 := fun o => hc0 (w.heap.size + 1) o (by first | (simp; done) | (simp; omega) | omega)
  have hk0_1 := fun o => hf0 (w.heap.size + 1) o (by first | (simp; done) | (simp; omega) | omega)
  try simp [go_sem] at hg0_1
  try simp [go_sem] at hk0_1
  have ho0_2 : w.heap.size + 2 < w0.heap.size := by (have := hb0.size; (try simp at this); omega)
  have hg0_2 := fun o => hc0 (w.heap.size + 2) o (by first | (simp; done) | (simp; omega) | omega)
  have hk0_2 := fun o => hf0 (w.heap.size + 2) o (by first | (simp; done) | (simp; omega) | omega)
  try simp [go_sem] at hg0_2
  try simp [go_sem] at hk0_2
  have ho0_3 : w.heap.size + 3 < w0.heap.size := by (have := hb0.size; (try simp at this); omega)
  have hg0_3 := fun o => hc0 (w.heap.size + 3) o (by first | (simp; done) | (simp; omega) | omega)
  have hk0_3 := fun o => hf0 (w.heap.size + 3) o (by first | (simp; done) | (simp; omega) | omega)
  try simp [go_sem] at hg0_3
  try simp [go_sem] at hk0_3
  have ho0_4 : w.heap.size + 4 < w0.heap.size := by (have := hb0.size; (try simp at this); omega)
  have hg0_4 := fun o => hc0 (w.heap.size + 4) o (by first | (simp; done) | (simp; omega) | omega)
  have hk0_4 := fun o => hf0 (w.heap.size + 4) o (by first | (simp; done) | (simp; omega) | omega)
  try simp [go_sem] at hg0_4
  try simp [go_sem] at hk0_4
  go_wp2_with fail
  refine bodyPost_ret (v := .tuple #[.agg #[.int .i64 0, .int .i64 0, .int .i64 0], .bool false]) ?_ rfl ?_
  · simp only [results, Try.results11]
    go_simp
  refine ⟨?_, ?_⟩
  · exact ret_vb2 H.out
  go_light
  repeat (first | (with_reducible exact Below.refl _ _) | (with_reducible refine Bal ?_ _) | (with_reducible refine Below.drew ?_) | (with_reducible refine below_drewN ?_ _) | (with_reducible refine Bset ?_ ?_ _; focus (first | (with_reducible exact Nat.le_refl _) | (simp; done) | (simp; omega) | omega)) | (with_reducible refine Bt ?_ (by assumption)) | (with_reducible refine Bp (g := g) ?_ (by assumption) (by assumption)))
set_option maxHeartbeats 1000000 in
theorem ico_bad1 (a m b n : Int) (w : World) (t0 : inB a 0 999999 = true) (f1 : inB b 0 999999 = false) (hN : ¬ OkCO a m b n) :
    Calls Try.prog 11 #[.int .i64 a, .int .i64 m, .int .i64 b, .int .i64 n] w fun e w' => e = .returned (.tuple #[coV a m b n, .bool (coO a m b n)]) ∧ Below w.heap.size w w' := by
  have H := Lib.hid (co_no hN)
  have h0 := fun V : World => wvalid_any a V
  simp only [t0] at h0
  have H0 := Lib.hid h0
  have h1 := fun V : World => wvalid_any b V
  simp only [f1] at h1
  have H1 := Lib.hid h1
  clear hN h0 h1 t0 f1
  go_enter Try.func11, Try.ntmps11
  go_wp2_with fail
  refine (H0.out _).mono ?_
  rintro e w0 ⟨rfl, hb0⟩
  obtain ⟨hc0, hf0⟩ := bcell hb0
  have hy0 := hb0.size
  try simp at hy0
  first | (have hz0 : w.heap.size < w0.heap.size := by (have := hb0.size; (try simp at this); omega)) | skip
  have ho0_0 : w.heap.size < w0.heap.size := by (have := hb0.size; (try simp at this); omega)
  have hg0_0 := fun o => hc0 (w.heap.size) o (by first | (simp; done) | (simp; omega) | omega)
  have hk0_0 := fun o => hf0 (w.heap.size) o (by first | (simp; done) | (simp; omega) | omega)
  try simp [go_sem] at hg0_0
  try simp [go_sem] at hk0_0
  have ho0_1 : w.heap.size + 1 < w0.heap.size := by (have := hb0.size; (try simp at this); omega)
  have hg0_1 := fun o => hc0 (w.heap.size + 1) o (by first | (simp; done) | (simp; omega) | omega)
  have hk0_1 := fun o => hf0 (w.heap.size + 1) o (by first | (simp; done) | (simp; omega) | omega)
  try simp [go_sem] at hg0_1
  try simp [go_sem] at hk0_1
  have ho0_2 : w.heap.size + 2 < w0.heap.size := by (have := hb0.size; (try simp at this); omega)
  have hg0_2 := fun o => hc0 (w.heap.size + 2) o (by first | (simp; done) | (simp; omega) | omega)
  have hk0_2 := fun o => hf0 (w.heap.size + 2) o (by first | (simp; done) | (simp; omega) | omega)
  try simp [go_sem] at hg0_2
  try simp [go_sem] at hk0_2
  have ho0_3 : w.heap.size + 3 < w0.heap.size := by (have := hb0.size; (try simp at this); omega)
  have hg0_3 := fun o => hc0 (w.heap.size + 3) o (by first | (simp; done) | (simp; omega) | omega)
  have hk0_3 := fun o => hf0 (w.heap.size + 3) o (by first | (simp; done) | (simp; omega) | omega)
  try simp [go_sem] at hg0_3
  try simp [go_sem] at hk0_3
  have ho0_4 : w.heap.size + 4 < w0.heap.size := by (have := hb0.size; (try simp at this); omega)
  have hg0_4 := fun o => hc0 (w.heap.size + 4) o (by first | (simp; done) | (simp; omega) | omega)
  have hk0_4 := fun o => hf0 (w.heap.size + 4) o (by first | (simp; done) | (simp; omega) | omega)
  try simp [go_sem] at hg0_4
  try simp [go_sem] at hk0_4
  go_wp2_with fail
  refine (H1.out _).mono ?_
  rintro e w1 ⟨rfl, hb1⟩
  obtain ⟨hc1, hf1⟩ := bcell hb1
  have hy1 := hb1.size
  try simp at hy1
  first | (have hz1 : w.heap.size < w1.heap.size := by (have := hb1.size; (try simp at this); omega)) | skip
  have ho1_0 : w.heap.size < w1.heap.size := by (have := hb1.size; (try simp at this); omega)
  have hg1_0 := fun o => hc1 (w.heap.size) o (by first | (simp; done) | (simp; omega) | omega)
  have hk1_0 := fun o => hf1 (w.heap.size) o (by first | (simp; done) | (simp; omega) | omega)
  try simp [go_sem] at hg1_0
  try simp [go_sem] at hk1_0
  have ho1_1 : w.heap.size + 1 < w1.heap.size := by (have := hb1.size; (try simp at this); omega)
  have hg1_1 := fun o => hc1 (w.heap.size + 1) o (by first | (simp; done) | (simp; omega) | omega)
  have hk1_1 := fun o => hf1 (w.heap.size + 1) o (by first | (simp; done) | (simp; omega) | omega)
  try simp [go_sem] at hg1_1
  try simp [go_sem] at hk1_1
  have ho1_2 : w.heap.size + 2 < w1.heap.size := by (have := hb1.size; (try simp at this); omega)
  have hg1_2 := fun o => hc1 (w.heap.size + 2) o (by first | (simp; done) | (simp; omega) | omega)
  have hk1_2 := fun o => hf1 (w.heap.size + 2) o (by first | (simp; done) | (simp; omega) | omega)
  try simp [go_sem] at hg1_2
  try simp [go_sem] at hk1_2
  have ho1_3 : w.heap.size + 3 < w1.heap.size := by (have := hb1.size; (try simp at this); omega)
  have hg1_3 := fun o => hc1 (w.heap.size + 3) o (by first | (simp; done) | (simp; omega) | omega)
  have hk1_3 := fun o => hf1 (w.heap.size + 3) o (by first | (simp; done) | (simp; omega) | omega)
  try simp [go_sem] at hg1_3
  try simp [go_sem] at hk1_3
  have ho1_4 : w.heap.size + 4 < w1.heap.size := by (have := hb1.size; (try simp at this); omega)
  have hg1_4 := fun o => hc1 (w.heap.size + 4) o (by first | (simp; done) | (simp; omega) | omega)
  have hk1_4 := fun o => hf1 (w.heap.size + 4) o (by first | (simp; done) | (simp; omega) | omega)
  try simp [go_sem] at hg1_4
  try simp [go_sem] at hk1_4
  go_wp2_with fail
  refine bodyPost_ret (v := .tuple #[.agg #[.int .i64 0, .int .i64 0, .int .i64 0], .bool false]) ?_ rfl ?_
  · simp only [results, Try.results11]
    go_simp
  refine ⟨?_, ?_⟩
  · exact ret_vb2 H.out
  go_light
  repeat (first | (with_reducible exact Below.refl _ _) | (with_reducible refine Bal ?_ _) | (with_reducible refine Below.drew ?_) | (with_reducible refine below_drewN ?_ _) | (with_reducible refine Bset ?_ ?_ _; focus (first | (with_reducible exact Nat.le_refl _) | (simp; done) | (simp; omega) | omega)) | (with_reducible refine Bt ?_ (by assumption)) | (with_reducible refine Bp (g := g) ?_ (by assumption) (by assumption)))
set_option maxHeartbeats 1000000 in
theorem ico_bad2 (a m b n : Int) (w : World) (t0 : inB a 0 999999 = true) (t1 : inB b 0 999999 = true) (f2 : inB m 0 999999 = false) (hN : ¬ OkCO a m b n) :
    Calls Try.prog 11 #[.int .i64 a, .int .i64 m, .int .i64 b, .int .i64 n] w fun e w' => e = .returned (.tuple #[coV a m b n, .bool (coO a m b n)]) ∧ Below w.heap.size w w' := by
  have H := Lib.hid (co_no hN)
  have h0 := fun V : World => wvalid_any a V
  simp only [t0] at h0
  have H0 := Lib.hid h0
  have h1 := fun V : World => wvalid_any b V
  simp only [t1] at h1
  have H1 := Lib.hid h1
  have h2 := fun V : World => mvalid_any m V
  simp only [f2] at h2
  have H2 := Lib.hid h2
  clear hN h0 h1 h2 t0 t1 f2
  go_enter Try.func11, Try.ntmps11
  go_wp2_with fail
  refine (H0.out _).mono ?_
  rintro e w0 ⟨rfl, hb0⟩
  obtain ⟨hc0, hf0⟩ := bcell hb0
  have hy0 := hb0.size
  try simp at hy0
  first | (have hz0 : w.heap.size < w0.heap.size := by (have := hb0.size; (try simp at this); omega)) | skip
  have ho0_0 : w.heap.size < w0.heap.size := by (have := hb0.size; (try simp at this); omega)
  have hg0_0 := fun o => hc0 (w.heap.size) o (by first | (simp; done) | (simp; omega) | omega)
  have hk0_0 := fun o => hf0 (w.heap.size) o (by first | (simp; done) | (simp; omega) | omega)
  try simp [go_sem] at hg0_0
  try simp [go_sem] at hk0_0
  have ho0_1 : w.heap.size + 1 < w0.heap.size := by (have := hb0.size; (try simp at this); omega)
  have hg0_1 := fun o => hc0 (w.heap.size + 1) o (by first | (simp; done) | (simp; omega) | omega)
  have hk0_1 := fun o => hf0 (w.heap.size + 1) o (by first | (simp; done) | (simp; omega) | omega)
  try simp [go_sem] at hg0_1
  try simp [go_sem] at hk0_1
  have ho0_2 : w.heap.size + 2 < w0.heap.size := by (have := hb0.size; (try simp at this); omega)
  have hg0_2 := fun o => hc0 (w.heap.size + 2) o (by first | (simp; done) | (simp; omega) | omega)
  have hk0_2 := fun o => hf0 (w.heap.size + 2) o (by first | (simp; done) | (simp; omega) | omega)
  try simp [go_sem] at hg0_2
  try simp [go_sem] at hk0_2
  have ho0_3 : w.heap.size + 3 < w0.heap.size := by (have := hb0.size; (try simp at this); omega)
  have hg0_3 := fun o => hc0 (w.heap.size + 3) o (by first | (simp; done) | (simp; omega) | omega)
  have hk0_3 := fun o => hf0 (w.heap.size + 3) o (by first | (simp; done) | (simp; omega) | omega)
  try simp [go_sem] at hg0_3
  try simp [go_sem] at hk0_3
  have ho0_4 : w.heap.size + 4 < w0.heap.size := by (have := hb0.size; (try simp at this); omega)
  have hg0_4 := fun o => hc0 (w.heap.size + 4) o (by first | (simp; done) | (simp; omega) | omega)
  have hk0_4 := fun o => hf0 (w.heap.size + 4) o (by first | (simp; done) | (simp; omega) | omega)
  try simp [go_sem] at hg0_4
  try simp [go_sem] at hk0_4
  go_wp2_with fail
  refine (H1.out _).mono ?_
  rintro e w1 ⟨rfl, hb1⟩
  obtain ⟨hc1, hf1⟩ := bcell hb1
  have hy1 := hb1.size
  try simp at hy1
  first | (have hz1 : w.heap.size < w1.heap.size := by (have := hb1.size; (try simp at this); omega)) | skip
  have ho1_0 : w.heap.size < w1.heap.size := by (have := hb1.size; (try simp at this); omega)
  have hg1_0 := fun o => hc1 (w.heap.size) o (by first | (simp; done) | (simp; omega) | omega)
  have hk1_0 := fun o => hf1 (w.heap.size) o (by first | (simp; done) | (simp; omega) | omega)
  try simp [go_sem] at hg1_0
  try simp [go_sem] at hk1_0
  have ho1_1 : w.heap.size + 1 < w1.heap.size := by (have := hb1.size; (try simp at this); omega)
  have hg1_1 := fun o => hc1 (w.heap.size + 1) o (by first | (simp; done) | (simp; omega) | omega)
  have hk1_1 := fun o => hf1 (w.heap.size + 1) o (by first | (simp; done) | (simp; omega) | omega)
  try simp [go_sem] at hg1_1
  try simp [go_sem] at hk1_1
  have ho1_2 : w.heap.size + 2 < w1.heap.size := by (have := hb1.size; (try simp at this); omega)
  have hg1_2 := fun o => hc1 (w.heap.size + 2) o (by first | (simp; done) | (simp; omega) | omega)
  have hk1_2 := fun o => hf1 (w.heap.size + 2) o (by first | (simp; done) | (simp; omega) | omega)
  try simp [go_sem] at hg1_2
  try simp [go_sem] at hk1_2
  have ho1_3 : w.heap.size + 3 < w1.heap.size := by (have := hb1.size; (try simp at this); omega)
  have hg1_3 := fun o => hc1 (w.heap.size + 3) o (by first | (simp; done) | (simp; omega) | omega)
  have hk1_3 := fun o => hf1 (w.heap.size + 3) o (by first | (simp; done) | (simp; omega) | omega)
  try simp [go_sem] at hg1_3
  try simp [go_sem] at hk1_3
  have ho1_4 : w.heap.size + 4 < w1.heap.size := by (have := hb1.size; (try simp at this); omega)
  have hg1_4 := fun o => hc1 (w.heap.size + 4) o (by first | (simp; done) | (simp; omega) | omega)
  have hk1_4 := fun o => hf1 (w.heap.size + 4) o (by first | (simp; done) | (simp; omega) | omega)
  try simp [go_sem] at hg1_4
  try simp [go_sem] at hk1_4
  go_wp2_with fail
  refine (H2.out _).mono ?_
  rintro e w2 ⟨rfl, hb2⟩
  obtain ⟨hc2, hf2⟩ := bcell hb2
  have hy2 := hb2.size
  try simp at hy2
  first | (have hz2 : w.heap.size < w2.heap.size := by (have := hb2.size; (try simp at this); omega)) | skip
  have ho2_0 : w.heap.size < w2.heap.size := by (have := hb2.size; (try simp at this); omega)
  have hg2_0 := fun o => hc2 (w.heap.size) o (by first | (simp; done) | (simp; omega) | omega)
  have hk2_0 := fun o => hf2 (w.heap.size) o (by first | (simp; done) | (simp; omega) | omega)
  try simp [go_sem] at hg2_0
  try simp [go_sem] at hk2_0
  have ho2_1 : w.heap.size + 1 < w2.heap.size := by (have := hb2.size; (try simp at this); omega)
  have hg2_1 := fun o => hc2 (w.heap.size + 1) o (by first | (simp; done) | (simp; omega) | omega)
  have hk2_1 := fun o => hf2 (w.heap.size + 1) o (by first | (simp; done) | (simp; omega) | omega)
  try simp [go_sem] at hg2_1
  try simp [go_sem] at hk2_1
  have ho2_2 : w.heap.size + 2 < w2.heap.size := by (have := hb2.size; (try simp at this); omega)
  have hg2_2 := fun o => hc2 (w.heap.size + 2) o (by first | (simp; done) | (simp; omega) | omega)
  have hk2_2 := fun o => hf2 (w.heap.size + 2) o (by first | (simp; done) | (simp; omega) | omega)
  try simp [go_sem] at hg2_2
  try simp [go_sem] at hk2_2
  have ho2_3 : w.heap.size + 3 < w2.heap.size := by (have := hb2.size; (try simp at this); omega)
  have hg2_3 := fun o => hc2 (w.heap.size + 3) o (by first | (simp; done) | (simp; omega) | omega)
  have hk2_3 := fun o => hf2 (w.heap.size + 3) o (by first | (simp; done) | (simp; omega) | omega)
  try simp [go_sem] at hg2_3
  try simp [go_sem] at hk2_3
  have ho2_4 : w.heap.size + 4 < w2.heap.size := by (have := hb2.size; (try simp at this); omega)
  have hg2_4 := fun o => hc2 (w.heap.size + 4) o (by first | (simp; done) | (simp; omega) | omega)
  have hk2_4 := fun o => hf2 (w.heap.size + 4) o (by first | (simp; done) | (simp; omega) | omega)
  try simp [go_sem] at hg2_4
  try simp [go_sem] at hk2_4
  go_wp2_with fail
  refine bodyPost_ret (v := .tuple #[.agg #[.int .i64 0, .int .i64 0, .int .i64 0], .bool false]) ?_ rfl ?_
  · simp only [results, Try.results11]
    go_simp
  refine ⟨?_, ?_⟩
  · exact ret_vb2 H.out
  go_light
  repeat (first | (with_reducible exact Below.refl _ _) | (with_reducible refine Bal ?_ _) | (with_reducible refine Below.drew ?_) | (with_reducible refine below_drewN ?_ _) | (with_reducible refine Bset ?_ ?_ _; focus (first | (with_reducible exact Nat.le_refl _) | (simp; done) | (simp; omega) | omega)) | (with_reducible refine Bt ?_ (by assumption)) | (with_reducible refine Bp (g := g) ?_ (by assumption) (by assumption)))
set_option maxHeartbeats 1000000 in
theorem ico_bad3 (a m b n : Int) (w : World) (t0 : inB a 0 999999 = true) (t1 : inB b 0 999999 = true) (t2 : inB m 0 999999 = true) (f3 : inB n 0 999999 = false) (hN : ¬ OkCO a m b n) :
    Calls Try.prog 11 #[.int .i64 a, .int .i64 m, .int .i64 b, .int .i64 n] w fun e w' => e = .returned (.tuple #[coV a m b n, .bool (coO a m b n)]) ∧ Below w.heap.size w w' := by
  have H := Lib.hid (co_no hN)
  have h0 := fun V : World => wvalid_any a V
  simp only [t0] at h0
  have H0 := Lib.hid h0
  have h1 := fun V : World => wvalid_any b V
  simp only [t1] at h1
  have H1 := Lib.hid h1
  have h2 := fun V : World => mvalid_any m V
  simp only [t2] at h2
  have H2 := Lib.hid h2
  have h3 := fun V : World => mvalid_any n V
  simp only [f3] at h3
  have H3 := Lib.hid h3
  clear hN h0 h1 h2 h3 t0 t1 t2 f3
  go_enter Try.func11, Try.ntmps11
  go_wp2_with fail
  refine (H0.out _).mono ?_
  rintro e w0 ⟨rfl, hb0⟩
  obtain ⟨hc0, hf0⟩ := bcell hb0
  have hy0 := hb0.size
  try simp at hy0
  first | (have hz0 : w.heap.size < w0.heap.size := by (have := hb0.size; (try simp at this); omega)) | skip
  have ho0_0 : w.heap.size < w0.heap.size := by (have := hb0.size; (try simp at this); omega)
  have hg0_0 := fun o => hc0 (w.heap.size) o (by first | (simp; done) | (simp; omega) | omega)
  have hk0_0 := fun o => hf0 (w.heap.size) o (by first | (simp; done) | (simp; omega) | omega)
  try simp [go_sem] at hg0_0
  try simp [go_sem] at hk0_0
  have ho0_1 : w.heap.size + 1 < w0.heap.size := by (have := hb0.size; (try simp at this); omega)
  have hg0_1 := fun o => hc0 (w.heap.size + 1) o (by first | (simp; done) | (simp; omega) | omega)
  have hk0_1 := fun o => hf0 (w.heap.size + 1) o (by first | (simp; done) | (simp; omega) | omega)
  try simp [go_sem] at hg0_1
  try simp [go_sem] at hk0_1
  have ho0_2 : w.heap.size + 2 < w0.heap.size := by (have := hb0.size; (try simp at this); omega)
  have hg0_2 := fun o => hc0 (w.heap.size + 2) o (by first | (simp; done) | (simp; omega) | omega)
  have hk0_2 := fun o => hf0 (w.heap.size + 2) o (by first | (simp; done) | (simp; omega) | omega)
  try simp [go_sem] at hg0_2
  try simp [go_sem] at hk0_2
  have ho0_3 : w.heap.size + 3 < w0.heap.size := by (have := hb0.size; (try simp at this); omega)
  have hg0_3 := fun o => hc0 (w.heap.size + 3) o (by first | (simp; done) | (simp; omega) | omega)
  have hk0_3 := fun o => hf0 (w.heap.size + 3) o (by first | (simp; done) | (simp; omega) | omega)
  try simp [go_sem] at hg0_3
  try simp [go_sem] at hk0_3
  have ho0_4 : w.heap.size + 4 < w0.heap.size := by (have := hb0.size; (try simp at this); omega)
  have hg0_4 := fun o => hc0 (w.heap.size + 4) o (by first | (simp; done) | (simp; omega) | omega)
  have hk0_4 := fun o => hf0 (w.heap.size + 4) o (by first | (simp; done) | (simp; omega) | omega)
  try simp [go_sem] at hg0_4
  try simp [go_sem] at hk0_4
  go_wp2_with fail
  refine (H1.out _).mono ?_
  rintro e w1 ⟨rfl, hb1⟩
  obtain ⟨hc1, hf1⟩ := bcell hb1
  have hy1 := hb1.size
  try simp at hy1
  first | (have hz1 : w.heap.size < w1.heap.size := by (have := hb1.size; (try simp at this); omega)) | skip
  have ho1_0 : w.heap.size < w1.heap.size := by (have := hb1.size; (try simp at this); omega)
  have hg1_0 := fun o => hc1 (w.heap.size) o (by first | (simp; done) | (simp; omega) | omega)
  have hk1_0 := fun o => hf1 (w.heap.size) o (by first | (simp; done) | (simp; omega) | omega)
  try simp [go_sem] at hg1_0
  try simp [go_sem] at hk1_0
  have ho1_1 : w.heap.size + 1 < w1.heap.size := by (have := hb1.size; (try simp at this); omega)
  have hg1_1 := fun o => hc1 (w.heap.size + 1) o (by first | (simp; done) | (simp; omega) | omega)
  have hk1_1 := fun o => hf1 (w.heap.size + 1) o (by first | (simp; done) | (simp; omega) | omega)
  try simp [go_sem] at hg1_1
  try simp [go_sem] at hk1_1
  have ho1_2 : w.heap.size + 2 < w1.heap.size := by (have := hb1.size; (try simp at this); omega)
  have hg1_2 := fun o => hc1 (w.heap.size + 2) o (by first | (simp; done) | (simp; omega) | omega)
  have hk1_2 := fun o => hf1 (w.heap.size + 2) o (by first | (simp; done) | (simp; omega) | omega)
  try simp [go_sem] at hg1_2
  try simp [go_sem] at hk1_2
  have ho1_3 : w.heap.size + 3 < w1.heap.size := by (have := hb1.size; (try simp at this); omega)
  have hg1_3 := fun o => hc1 (w.heap.size + 3) o (by first | (simp; done) | (simp; omega) | omega)
  have hk1_3 := fun o => hf1 (w.heap.size + 3) o (by first | (simp; done) | (simp; omega) | omega)
  try simp [go_sem] at hg1_3
  try simp [go_sem] at hk1_3
  have ho1_4 : w.heap.size + 4 < w1.heap.size := by (have := hb1.size; (try simp at this); omega)
  have hg1_4 := fun o => hc1 (w.heap.size + 4) o (by first | (simp; done) | (simp; omega) | omega)
  have hk1_4 := fun o => hf1 (w.heap.size + 4) o (by first | (simp; done) | (simp; omega) | omega)
  try simp [go_sem] at hg1_4
  try simp [go_sem] at hk1_4
  go_wp2_with fail
  refine (H2.out _).mono ?_
  rintro e w2 ⟨rfl, hb2⟩
  obtain ⟨hc2, hf2⟩ := bcell hb2
  have hy2 := hb2.size
  try simp at hy2
  first | (have hz2 : w.heap.size < w2.heap.size := by (have := hb2.size; (try simp at this); omega)) | skip
  have ho2_0 : w.heap.size < w2.heap.size := by (have := hb2.size; (try simp at this); omega)
  have hg2_0 := fun o => hc2 (w.heap.size) o (by first | (simp; done) | (simp; omega) | omega)
  have hk2_0 := fun o => hf2 (w.heap.size) o (by first | (simp; done) | (simp; omega) | omega)
  try simp [go_sem] at hg2_0
  try simp [go_sem] at hk2_0
  have ho2_1 : w.heap.size + 1 < w2.heap.size := by (have := hb2.size; (try simp at this); omega)
  have hg2_1 := fun o => hc2 (w.heap.size + 1) o (by first | (simp; done) | (simp; omega) | omega)
  have hk2_1 := fun o => hf2 (w.heap.size + 1) o (by first | (simp; done) | (simp; omega) | omega)
  try simp [go_sem] at hg2_1
  try simp [go_sem] at hk2_1
  have ho2_2 : w.heap.size + 2 < w2.heap.size := by (have := hb2.size; (try simp at this); omega)
  have hg2_2 := fun o => hc2 (w.heap.size + 2) o (by first | (simp; done) | (simp; omega) | omega)
  have hk2_2 := fun o => hf2 (w.heap.size + 2) o (by first | (simp; done) | (simp; omega) | omega)
  try simp [go_sem] at hg2_2
  try simp [go_sem] at hk2_2
  have ho2_3 : w.heap.size + 3 < w2.heap.size := by (have := hb2.size; (try simp at this); omega)
  have hg2_3 := fun o => hc2 (w.heap.size + 3) o (by first | (simp; done) | (simp; omega) | omega)
  have hk2_3 := fun o => hf2 (w.heap.size + 3) o (by first | (simp; done) | (simp; omega) | omega)
  try simp [go_sem] at hg2_3
  try simp [go_sem] at hk2_3
  have ho2_4 : w.heap.size + 4 < w2.heap.size := by (have := hb2.size; (try simp at this); omega)
  have hg2_4 := fun o => hc2 (w.heap.size + 4) o (by first | (simp; done) | (simp; omega) | omega)
  have hk2_4 := fun o => hf2 (w.heap.size + 4) o (by first | (simp; done) | (simp; omega) | omega)
  try simp [go_sem] at hg2_4
  try simp [go_sem] at hk2_4
  go_wp2_with fail
  refine (H3.out _).mono ?_
  rintro e w3 ⟨rfl, hb3⟩
  obtain ⟨hc3, hf3⟩ := bcell hb3
  have hy3 := hb3.size
  try simp at hy3
  first | (have hz3 : w.heap.size < w3.heap.size := by (have := hb3.size; (try simp at this); omega)) | skip
  have ho3_0 : w.heap.size < w3.heap.size := by (have := hb3.size; (try simp at this); omega)
  have hg3_0 := fun o => hc3 (w.heap.size) o (by first | (simp; done) | (simp; omega) | omega)
  have hk3_0 := fun o => hf3 (w.heap.size) o (by first | (simp; done) | (simp; omega) | omega)
  try simp [go_sem] at hg3_0
  try simp [go_sem] at hk3_0
  have ho3_1 : w.heap.size + 1 < w3.heap.size := by (have := hb3.size; (try simp at this); omega)
  have hg3_1 := fun o => hc3 (w.heap.size + 1) o (by first | (simp; done) | (simp; omega) | omega)
  have hk3_1 := fun o => hf3 (w.heap.size + 1) o (by first | (simp; done) | (simp; omega) | omega)
  try simp [go_sem] at hg3_1
  try simp [go_sem] at hk3_1
  have ho3_2 : w.heap.size + 2 < w3.heap.size := by (have := hb3.size; (try simp at this); omega)
  have hg3_2 := fun o => hc3 (w.heap.size + 2) o (by first | (simp; done) | (simp; omega) | omega)
  have hk3_2 := fun o => hf3 (w.heap.size + 2) o (by first | (simp; done) | (simp; omega) | omega)
  try simp [go_sem] at hg3_2
  try simp [go_sem] at hk3_2
  have ho3_3 : w.heap.size + 3 < w3.heap.size := by (have := hb3.size; (try simp at this); omega)
  have hg3_3 := fun o => hc3 (w.heap.size + 3) o (by first | (simp; done) | (simp; omega) | omega)
  have hk3_3 := fun o => hf3 (w.heap.size + 3) o (by first | (simp; done) | (simp; omega) | omega)
  try simp [go_sem] at hg3_3
  try simp [go_sem] at hk3_3
  have ho3_4 : w.heap.size + 4 < w3.heap.size := by (have := hb3.size; (try simp at this); omega)
  have hg3_4 := fun o => hc3 (w.heap.size + 4) o (by first | (simp; done) | (simp; omega) | omega)
  have hk3_4 := fun o => hf3 (w.heap.size + 4) o (by first | (simp; done) | (simp; omega) | omega)
  try simp [go_sem] at hg3_4
  try simp [go_sem] at hk3_4
  go_wp2_with fail
  refine bodyPost_ret (v := .tuple #[.agg #[.int .i64 0, .int .i64 0, .int .i64 0], .bool false]) ?_ rfl ?_
  · simp only [results, Try.results11]
    go_simp
  refine ⟨?_, ?_⟩
  · exact ret_vb2 H.out
  go_light
  repeat (first | (with_reducible exact Below.refl _ _) | (with_reducible refine Bal ?_ _) | (with_reducible refine Below.drew ?_) | (with_reducible refine below_drewN ?_ _) | (with_reducible refine Bset ?_ ?_ _; focus (first | (with_reducible exact Nat.le_refl _) | (simp; done) | (simp; omega) | omega)) | (with_reducible refine Bt ?_ (by assumption)) | (with_reducible refine Bp (g := g) ?_ (by assumption) (by assumption)))
set_option maxHeartbeats 1000000 in
theorem ico_bad4 (a m b n : Int) (w : World) (g0 : 0 ≤ a ∧ a ≤ 999999) (g1 : 0 ≤ b ∧ b ≤ 999999) (g2 : 0 ≤ m ∧ m ≤ 999999) (g3 : 0 ≤ n ∧ n ≤ 999999) (hab : b ≤ a) (hN : ¬ OkCO a m b n) :
    Calls Try.prog 11 #[.int .i64 a, .int .i64 m, .int .i64 b, .int .i64 n] w fun e w' => e = .returned (.tuple #[coV a m b n, .bool (coO a m b n)]) ∧ Below w.heap.size w w' := by
  have H := Lib.hid (co_no hN)
  have h0 := fun V : World => wvalid_any a V
  simp only [inB_t g0.1 g0.2] at h0
  have H0 := Lib.hid h0
  have h1 := fun V : World => wvalid_any b V
  simp only [inB_t g1.1 g1.2] at h1
  have H1 := Lib.hid h1
  have h2 := fun V : World => mvalid_any m V
  simp only [inB_t g2.1 g2.2] at h2
  have H2 := Lib.hid h2
  have h3 := fun V : World => mvalid_any n V
  simp only [inB_t g3.1 g3.2] at h3
  have H3 := Lib.hid h3
  clear h0 h1 h2 h3
  clear hN
  obtain ⟨a1, a2⟩ := g0
  obtain ⟨b1, b2⟩ := g1
  obtain ⟨m1, m2⟩ := g2
  obtain ⟨n1, n2⟩ := g3
  go_enter Try.func11, Try.ntmps11
  go_wp2_with fail
  refine (H0.out _).mono ?_
  rintro e w0 ⟨rfl, hb0⟩
  obtain ⟨hc0, hf0⟩ := bcell hb0
  have hy0 := hb0.size
  try simp at hy0
  first | (have hz0 : w.heap.size < w0.heap.size := by (have := hb0.size; (try simp at this); omega)) | skip
  have ho0_0 : w.heap.size < w0.heap.size := by (have := hb0.size; (try simp at this); omega)
  have hg0_0 := fun o => hc0 (w.heap.size) o (by first | (simp; done) | (simp; omega) | omega)
  have hk0_0 := fun o => hf0 (w.heap.size) o (by first | (simp; done) | (simp; omega) | omega)
  try simp [go_sem] at hg0_0
  try simp [go_sem] at hk0_0
  have ho0_1 : w.heap.size + 1 < w0.heap.size := by (have := hb0.size; (try simp at this); omega)
  have hg0_1 := fun o => hc0 (w.heap.size + 1) o (by first | (simp; done) | (simp; omega) | omega)
  have hk0_1 := fun o => hf0 (w.heap.size + 1) o (by first | (simp; done) | (simp; omega) | omega)
  try simp [go_sem] at hg0_1
  try simp [go_sem] at hk0_1
  have ho0_2 : w.heap.size + 2 < w0.heap.size := by (have := hb0.size; (try simp at this); omega)
  have hg0_2 := fun o => hc0 (w.heap.size + 2) o (by first | (simp; done) | (simp; omega) | omega)
  have hk0_2 := fun o => hf0 (w.heap.size + 2) o (by first | (simp; done) | (simp; omega) | omega)
  try simp [go_sem] at hg0_2
  try simp [go_sem] at hk0_2
  have ho0_3 : w.heap.size + 3 < w0.heap.size := by (have := hb0.size; (try simp at this); omega)
  have hg0_3 := fun o => hc0 (w.heap.size + 3) o (by first | (simp; done) | (simp; omega) | omega)
  have hk0_3 := fun o => hf0 (w.heap.size + 3) o (by first | (simp; done) | (simp; omega) | omega)
  try simp [go_sem] at hg0_3
  try simp [go_sem] at hk0_3
  have ho0_4 : w.heap.size + 4 < w0.heap.size := by (have := hb0.size; (try simp at this); omega)
  have hg0_4 := fun o => hc0 (w.heap.size + 4) o (by first | (simp; done) | (simp; omega) | omega)
  have hk0_4 := fun o => hf0 (w.heap.size + 4) o (by first | (simp; done) | (simp; omega) | omega)
  try simp [go_sem] at hg0_4
  try simp [go_sem] at hk0_4
  go_wp2_with fail
  refine (H1.out _).mono ?_
  rintro e w1 ⟨rfl, hb1⟩
  obtain ⟨hc1, hf1⟩ := bcell hb1
  have hy1 := hb1.size
  try simp at hy1
  first | (have hz1 : w.heap.size < w1.heap.size := by (have := hb1.size; (try simp at this); omega)) | skip
  have ho1_0 : w.heap.size < w1.heap.size := by (have := hb1.size; (try simp at this); omega)
  have hg1_0 := fun o => hc1 (w.heap.size) o (by first | (simp; done) | (simp; omega) | omega)
  have hk1_0 := fun o => hf1 (w.heap.size) o (by first | (simp; done) | (simp; omega) | omega)
  try simp [go_sem] at hg1_0
  try simp [go_sem] at hk1_0
  have ho1_1 : w.heap.size + 1 < w1.heap.size := by (have := hb1.size; (try simp at this); omega)
  have hg1_1 := fun o => hc1 (w.heap.size + 1) o (by first | (simp; done) | (simp; omega) | omega)
  have hk1_1 := fun o => hf1 (w.heap.size + 1) o (by first | (simp; done) | (simp; omega) | omega)
  try simp [go_sem] at hg1_1
  try simp [go_sem] at hk1_1
  have ho1_2 : w.heap.size + 2 < w1.heap.size := by (have := hb1.size; (try simp at this); omega)
  have hg1_2 := fun o => hc1 (w.heap.size + 2) o (by first | (simp; done) | (simp; omega) | omega)
  have hk1_2 := fun o => hf1 (w.heap.size + 2) o (by first | (simp; done) | (simp; omega) | omega)
  try simp [go_sem] at hg1_2
  try simp [go_sem] at hk1_2
  have ho1_3 : w.heap.size + 3 < w1.heap.size := by (have := hb1.size; (try simp at this); omega)
  have hg1_3 := fun o => hc1 (w.heap.size + 3) o (by first | (simp; done) | (simp; omega) | omega)
  have hk1_3 := fun o => hf1 (w.heap.size + 3) o (by first | (simp; done) | (simp; omega) | omega)
  try simp [go_sem] at hg1_3
  try simp [go_sem] at hk1_3
  have ho1_4 : w.heap.size + 4 < w1.heap.size := by (have := hb1.size; (try simp at this); omega)
  have hg1_4 := fun o => hc1 (w.heap.size + 4) o (by first | (simp; done) | (simp; omega) | omega)
  have hk1_4 := fun o => hf1 (w.heap.size + 4) o (by first | (simp; done) | (simp; omega) | omega)
  try simp [go_sem] at hg1_4
  try simp [go_sem] at hk1_4
  go_wp2_with fail
  refine (H2.out _).mono ?_
  rintro e w2 ⟨rfl, hb2⟩
  obtain ⟨hc2, hf2⟩ := bcell hb2
  have hy2 := hb2.size
  try simp at hy2
  first | (have hz2 : w.heap.size < w2.heap.size := by (have := hb2.size; (try simp at this); omega)) | skip
  have ho2_0 : w.heap.size < w2.heap.size := by (have := hb2.size; (try simp at this); omega)
  have hg2_0 := fun o => hc2 (w.heap.size) o (by first | (simp; done) | (simp; omega) | omega)
  have hk2_0 := fun o => hf2 (w.heap.size) o (by first | (simp; done) | (simp; omega) | omega)
  try simp [go_sem] at hg2_0
  try simp [go_sem] at hk2_0
  have ho2_1 : w.heap.size + 1 < w2.heap.size := by (have := hb2.size; (try simp at this); omega)
  have hg2_1 := fun o => hc2 (w.heap.size + 1) o (by first | (simp; done) | (simp; omega) | omega)
  have hk2_1 := fun o => hf2 (w.heap.size + 1) o (by first | (simp; done) | (simp; omega) | omega)
  try simp [go_sem] at hg2_1
  try simp [go_sem] at hk2_1
  have ho2_2 : w.heap.size + 2 < w2.heap.size := by (have := hb2.size; (try simp at this); omega)
  have hg2_2 := fun o => hc2 (w.heap.size + 2) o (by first | (simp; done) | (simp; omega) | omega)
  have hk2_2 := fun o => hf2 (w.heap.size + 2) o (by first | (simp; done) | (simp; omega) | omega)
  try simp [go_sem] at hg2_2
  try simp [go_sem] at hk2_2
  have ho2_3 : w.heap.size + 3 < w2.heap.size := by (have := hb2.size; (try simp at this); omega)
  have hg2_3 := fun o => hc2 (w.heap.size + 3) o (by first | (simp; done) | (simp; omega) | omega)
  have hk2_3 := fun o => hf2 (w.heap.size + 3) o (by first | (simp; done) | (simp; omega) | omega)
  try simp [go_sem] at hg2_3
  try simp [go_sem] at hk2_3
  have ho2_4 : w.heap.size + 4 < w2.heap.size := by (have := hb2.size; (try simp at this); omega)
  have hg2_4 := fun o => hc2 (w.heap.size + 4) o (by first | (simp; done) | (simp; omega) | omega)
  have hk2_4 := fun o => hf2 (w.heap.size + 4) o (by first | (simp; done) | (simp; omega) | omega)
  try simp [go_sem] at hg2_4
  try simp [go_sem] at hk2_4
  go_wp2_with fail
  refine (H3.out _).mono ?_
  rintro e w3 ⟨rfl, hb3⟩
  obtain ⟨hc3, hf3⟩ := bcell hb3
  have hy3 := hb3.size
  try simp at hy3
  first | (have hz3 : w.heap.size < w3.heap.size := by (have := hb3.size; (try simp at this); omega)) | skip
  have ho3_0 : w.heap.size < w3.heap.size := by (have := hb3.size; (try simp at this); omega)
  have hg3_0 := fun o => hc3 (w.heap.size) o (by first | (simp; done) | (simp; omega) | omega)
  have hk3_0 := fun o => hf3 (w.heap.size) o (by first | (simp; done) | (simp; omega) | omega)
  try simp [go_sem] at hg3_0
  try simp [go_sem] at hk3_0
  have ho3_1 : w.heap.size + 1 < w3.heap.size := by (have := hb3.size; (try simp at this); omega)
  have hg3_1 := fun o => hc3 (w.heap.size + 1) o (by first | (simp; done) | (simp; omega) | omega)
  have hk3_1 := fun o => hf3 (w.heap.size + 1) o (by first | (simp; done) | (simp; omega) | omega)
  try simp [go_sem] at hg3_1
  try simp [go_sem] at hk3_1
  have ho3_2 : w.heap.size + 2 < w3.heap.size := by (have := hb3.size; (try simp at this); omega)
  have hg3_2 := fun o => hc3 (w.heap.size + 2) o (by first | (simp; done) | (simp; omega) | omega)
  have hk3_2 := fun o => hf3 (w.heap.size + 2) o (by first | (simp; done) | (simp; omega) | omega)
  try simp [go_sem] at hg3_2
  try simp [go_sem] at hk3_2
  have ho3_3 : w.heap.size + 3 < w3.heap.size := by (have := hb3.size; (try simp at this); omega)
  have hg3_3 := fun o => hc3 (w.heap.size + 3) o (by first | (simp; done) | (simp; omega) | omega)
  have hk3_3 := fun o => hf3 (w.heap.size + 3) o (by first | (simp; done) | (simp; omega) | omega)
  try simp [go_sem] at hg3_3
  try simp [go_sem] at hk3_3
  have ho3_4 : w.heap.size + 4 < w3.heap.size := by (have := hb3.size; (try simp at this); omega)
  have hg3_4 := fun o => hc3 (w.heap.size + 4) o (by first | (simp; done) | (simp; omega) | omega)
  have hk3_4 := fun o => hf3 (w.heap.size + 4) o (by first | (simp; done) | (simp; omega) | omega)
  try simp [go_sem] at hg3_4
  try simp [go_sem] at hk3_4
  go_wp2_with fail
  refine wp_region_mixB (by kernel_rfl) (by kernel_rfl) ?_
  repeat (first
    | (refine mix_skip rfl ?_; refine mix_putK (fun K hK => ?_); go_simp; refine hK _ ?_; clear hK K)
    | (refine mix_readE rfl rfl rfl ?_; apply Exists.intro; refine ⟨fun w' hb' => ?_, ?_⟩; (obtain ⟨hc', hf'⟩ := Old.cells hb'; clear hb'; go_simp; try exact rfl); refine mix_putK (fun K hK => ?_); go_simp; refine hK _ ?_; clear hK K)
    | (refine mix_pureE rfl rfl ?_; apply Exists.intro; refine ⟨fun w' => ?_, ?_⟩; (go_simp; try exact rfl); refine mix_putK (fun K hK => ?_); go_simp; refine hK _ ?_; clear hK K)
    | (refine mix_eff rfl rfl ?_; go_wp2_with (first | (go_at_call 22; refine (wsince_any _ _ _ b1 b2 a1 a2).mono ?_; rintro e w5 ⟨rfl, hb5⟩; obtain ⟨hc5, hf5⟩ := bcell hb5; have hy5 := hb5.size; (try simp at hy5); (first | (have hz5 : w.heap.size < w5.heap.size := by (have := hb5.size; (try simp at this); omega)) | skip); have ho5_0 : w.heap.size < w5.heap.size := (by (have := hb5.size; (try simp at this); omega)); have hg5_0 := fun o => hc5 (w.heap.size) o (by first | (simp; done) | (simp; omega) | omega); have hk5_0 := fun o => hf5 (w.heap.size) o (by first | (simp; done) | (simp; omega) | omega); (try simp [go_sem] at hg5_0); (try simp [go_sem] at hk5_0); have ho5_1 : w.heap.size + 1 < w5.heap.size := (by (have := hb5.size; (try simp at this); omega)); have hg5_1 := fun o => hc5 (w.heap.size + 1) o (by first | (simp; done) | (simp; omega) | omega); have hk5_1 := fun o => hf5 (w.heap.size + 1) o (by first | (simp; done) | (simp; omega) | omega); (try simp [go_sem] at hg5_1); (try simp [go_sem] at hk5_1); have ho5_2 : w.heap.size + 2 < w5.heap.size := (by (have := hb5.size; (try simp at this); omega)); have hg5_2 := fun o => hc5 (w.heap.size + 2) o (by first | (simp; done) | (simp; omega) | omega); have hk5_2 := fun o => hf5 (w.heap.size + 2) o (by first | (simp; done) | (simp; omega) | omega); (try simp [go_sem] at hg5_2); (try simp [go_sem] at hk5_2); have ho5_3 : w.heap.size + 3 < w5.heap.size := (by (have := hb5.size; (try simp at this); omega)); have hg5_3 := fun o => hc5 (w.heap.size + 3) o (by first | (simp; done) | (simp; omega) | omega); have hk5_3 := fun o => hf5 (w.heap.size + 3) o (by first | (simp; done) | (simp; omega) | omega); (try simp [go_sem] at hg5_3); (try simp [go_sem] at hk5_3); have ho5_4 : w.heap.size + 4 < w5.heap.size := (by (have := hb5.size; (try simp at this); omega)); have hg5_4 := fun o => hc5 (w.heap.size + 4) o (by first | (simp; done) | (simp; omega) | omega); have hk5_4 := fun o => hf5 (w.heap.size + 4) o (by first | (simp; done) | (simp; omega) | omega); (try simp [go_sem] at hg5_4); (try simp [go_sem] at hk5_4)) | (go_at_call 23; refine (msince_any _ _ _ n1 n2 m1 m2).mono ?_; rintro e w6 ⟨rfl, hb6⟩; obtain ⟨hc6, hf6⟩ := bcell hb6; have hy6 := hb6.size; (try simp at hy6); (first | (have hz6 : w.heap.size < w6.heap.size := by (have := hb6.size; (try simp at this); omega)) | skip); have ho6_0 : w.heap.size < w6.heap.size := (by (have := hb6.size; (try simp at this); omega)); have hg6_0 := fun o => hc6 (w.heap.size) o (by first | (simp; done) | (simp; omega) | omega); have hk6_0 := fun o => hf6 (w.heap.size) o (by first | (simp; done) | (simp; omega) | omega); (try simp [go_sem] at hg6_0); (try simp [go_sem] at hk6_0); have ho6_1 : w.heap.size + 1 < w6.heap.size := (by (have := hb6.size; (try simp at this); omega)); have hg6_1 := fun o => hc6 (w.heap.size + 1) o (by first | (simp; done) | (simp; omega) | omega); have hk6_1 := fun o => hf6 (w.heap.size + 1) o (by first | (simp; done) | (simp; omega) | omega); (try simp [go_sem] at hg6_1); (try simp [go_sem] at hk6_1); have ho6_2 : w.heap.size + 2 < w6.heap.size := (by (have := hb6.size; (try simp at this); omega)); have hg6_2 := fun o => hc6 (w.heap.size + 2) o (by first | (simp; done) | (simp; omega) | omega); have hk6_2 := fun o => hf6 (w.heap.size + 2) o (by first | (simp; done) | (simp; omega) | omega); (try simp [go_sem] at hg6_2); (try simp [go_sem] at hk6_2); have ho6_3 : w.heap.size + 3 < w6.heap.size := (by (have := hb6.size; (try simp at this); omega)); have hg6_3 := fun o => hc6 (w.heap.size + 3) o (by first | (simp; done) | (simp; omega) | omega); have hk6_3 := fun o => hf6 (w.heap.size + 3) o (by first | (simp; done) | (simp; omega) | omega); (try simp [go_sem] at hg6_3); (try simp [go_sem] at hk6_3); have ho6_4 : w.heap.size + 4 < w6.heap.size := (by (have := hb6.size; (try simp at this); omega)); have hg6_4 := fun o => hc6 (w.heap.size + 4) o (by first | (simp; done) | (simp; omega) | omega); have hk6_4 := fun o => hf6 (w.heap.size + 4) o (by first | (simp; done) | (simp; omega) | omega); (try simp [go_sem] at hg6_4); (try simp [go_sem] at hk6_4))); refine then_mix rfl ?_ ?_; (first | (intro h; have h2 : false = true := h; cases h2) | (intro _; refine Old.mk ?_; repeat (first | (with_reducible exact Below.refl _ _) | (with_reducible refine Bal ?_ _) | (with_reducible refine Below.drew ?_) | (with_reducible refine below_drewN ?_ _) | (with_reducible refine Bset ?_ ?_ _; focus (first | (with_reducible exact Nat.le_refl _) | (simp; done) | (simp; omega) | omega)) | (with_reducible refine Bt ?_ (by assumption)) | (with_reducible refine Bp (g := g) ?_ (by assumption) (by assumption)))))))
  refine mix_nil ?_
  go_wp2_with fail
  refine bodyPost_ret (v := .tuple #[.agg #[.int .i64 0, .int .i64 0, .int .i64 0], .bool false]) ?_ rfl ?_
  · simp only [results, Try.results11]
    go_simp
  refine ⟨?_, ?_⟩
  · exact ret_vb2 H.out
  go_light
  repeat (first | (with_reducible exact Below.refl _ _) | (with_reducible refine Bal ?_ _) | (with_reducible refine Below.drew ?_) | (with_reducible refine below_drewN ?_ _) | (with_reducible refine Bset ?_ ?_ _; focus (first | (with_reducible exact Nat.le_refl _) | (simp; done) | (simp; omega) | omega)) | (with_reducible refine Bt ?_ (by assumption)) | (with_reducible refine Bp (g := g) ?_ (by assumption) (by assumption)))
set_option maxHeartbeats 1000000 in
theorem ico_bad5 (a m b n : Int) (w : World) (g0 : 0 ≤ a ∧ a ≤ 999999) (g1 : 0 ≤ b ∧ b ≤ 999999) (g2 : 0 ≤ m ∧ m ≤ 999999) (g3 : 0 ≤ n ∧ n ≤ 999999) (hab : a < b) (hmn : n < m) (hN : ¬ OkCO a m b n) :
    Calls Try.prog 11 #[.int .i64 a, .int .i64 m, .int .i64 b, .int .i64 n] w fun e w' => e = .returned (.tuple #[coV a m b n, .bool (coO a m b n)]) ∧ Below w.heap.size w w' := by
  have H := Lib.hid (co_no hN)
  have h0 := fun V : World => wvalid_any a V
  simp only [inB_t g0.1 g0.2] at h0
  have H0 := Lib.hid h0
  have h1 := fun V : World => wvalid_any b V
  simp only [inB_t g1.1 g1.2] at h1
  have H1 := Lib.hid h1
  have h2 := fun V : World => mvalid_any m V
  simp only [inB_t g2.1 g2.2] at h2
  have H2 := Lib.hid h2
  have h3 := fun V : World => mvalid_any n V
  simp only [inB_t g3.1 g3.2] at h3
  have H3 := Lib.hid h3
  clear h0 h1 h2 h3
  clear hN
  obtain ⟨a1, a2⟩ := g0
  obtain ⟨b1, b2⟩ := g1
  obtain ⟨m1, m2⟩ := g2
  obtain ⟨n1, n2⟩ := g3
  go_enter Try.func11, Try.ntmps11
  go_wp2_with fail
  refine (H0.out _).mono ?_
  rintro e w0 ⟨rfl, hb0⟩
  obtain ⟨hc0, hf0⟩ := bcell hb0
  have hy0 := hb0.size
  try simp at hy0
  first | (have hz0 : w.heap.size < w0.heap.size := by (have := hb0.size; (try simp at this); omega)) | skip
  have ho0_0 : w.heap.size < w0.heap.size := by (have := hb0.size; (try simp at this); omega)
  have hg0_0 := fun o => hc0 (w.heap.size) o (by first | (simp; done) | (simp; omega) | omega)
  have hk0_0 := fun o => hf0 (w.heap.size) o (by first | (simp; done) | (simp; omega) | omega)
  try simp [go_sem] at hg0_0
  try simp [go_sem] at hk0_0
  have ho0_1 : w.heap.size + 1 < w0.heap.size := by (have := hb0.size; (try simp at this); omega)
  have hg0_1 := fun o => hc0 (w.heap.size + 1) o (by first | (simp; done) | (simp; omega) | omega)
  have hk0_1 := fun o => hf0 (w.heap.size + 1) o (by first | (simp; done) | (simp; omega) | omega)
  try simp [go_sem] at hg0_1
  try simp [go_sem] at hk0_1
  have ho0_2 : w.heap.size + 2 < w0.heap.size := by (have := hb0.size; (try simp at this); omega)
  have hg0_2 := fun o => hc0 (w.heap.size + 2) o (by first | (simp; done) | (simp; omega) | omega)
  have hk0_2 := fun o => hf0 (w.heap.size + 2) o (by first | (simp; done) | (simp; omega) | omega)
  try simp [go_sem] at hg0_2
  try simp [go_sem] at hk0_2
  have ho0_3 : w.heap.size + 3 < w0.heap.size := by (have := hb0.size; (try simp at this); omega)
  have hg0_3 := fun o => hc0 (w.heap.size + 3) o (by first | (simp; done) | (simp; omega) | omega)
  have hk0_3 := fun o => hf0 (w.heap.size + 3) o (by first | (simp; done) | (simp; omega) | omega)
  try simp [go_sem] at hg0_3
  try simp [go_sem] at hk0_3
  have ho0_4 : w.heap.size + 4 < w0.heap.size := by (have := hb0.size; (try simp at this); omega)
  have hg0_4 := fun o => hc0 (w.heap.size + 4) o (by first | (simp; done) | (simp; omega) | omega)
  have hk0_4 := fun o => hf0 (w.heap.size + 4) o (by first | (simp; done) | (simp; omega) | omega)
  try simp [go_sem] at hg0_4
  try simp [go_sem] at hk0_4
  go_wp2_with fail
  refine (H1.out _).mono ?_
  rintro e w1 ⟨rfl, hb1⟩
  obtain ⟨hc1, hf1⟩ := bcell hb1
  have hy1 := hb1.size
  try simp at hy1
  first | (have hz1 : w.heap.size < w1.heap.size := by (have := hb1.size; (try simp at this); omega)) | skip
  have ho1_0 : w.heap.size < w1.heap.size := by (have := hb1.size; (try simp at this); omega)
  have hg1_0 := fun o => hc1 (w.heap.size) o (by first | (simp; done) | (simp; omega) | omega)
  have hk1_0 := fun o => hf1 (w.heap.size) o (by first | (simp; done) | (simp; omega) | omega)
  try simp [go_sem] at hg1_0
  try simp [go_sem] at hk1_0
  have ho1_1 : w.heap.size + 1 < w1.heap.size := by (have := hb1.size; (try simp at this); omega)
  have hg1_1 := fun o => hc1 (w.heap.size + 1) o (by first | (simp; done) | (simp; omega) | omega)
  have hk1_1 := fun o => hf1 (w.heap.size + 1) o (by first | (simp; done) | (simp; omega) | omega)
  try simp [go_sem] at hg1_1
  try simp [go_sem] at hk1_1
  have ho1_2 : w.heap.size + 2 < w1.heap.size := by (have := hb1.size; (try simp at this); omega)
  have hg1_2 := fun o => hc1 (w.heap.size + 2) o (by first | (simp; done) | (simp; omega) | omega)
  have hk1_2 := fun o => hf1 (w.heap.size + 2) o (by first | (simp; done) | (simp; omega) | omega)
  try simp [go_sem] at hg1_2
  try simp [go_sem] at hk1_2
  have ho1_3 : w.heap.size + 3 < w1.heap.size := by (have := hb1.size; (try simp at this); omega)
  have hg1_3 := fun o => hc1 (w.heap.size + 3) o (by first | (simp; done) | (simp; omega) | omega)
  have hk1_3 := fun o => hf1 (w.heap.size + 3) o (by first | (simp; done) | (simp; omega) | omega)
  try simp [go_sem] at hg1_3
  try simp [go_sem] at hk1_3
  have ho1_4 : w.heap.size + 4 < w1.heap.size := by (have := hb1.size; (try simp at this); omega)
  have hg1_4 := fun o => hc1 (w.heap.size + 4) o (by first | (simp; done) | (simp; omega) | omega)
  have hk1_4 := fun o => hf1 (w.heap.size + 4) o (by first | (simp; done) | (simp; omega) | omega)
  try simp [go_sem] at hg1_4
  try simp [go_sem] at hk1_4
  go_wp2_with fail
  refine (H2.out _).mono ?_
  rintro e w2 ⟨rfl, hb2⟩
  obtain ⟨hc2, hf2⟩ := bcell hb2
  have hy2 := hb2.size
  try simp at hy2
  first | (have hz2 : w.heap.size < w2.heap.size := by (have := hb2.size; (try simp at this); omega)) | skip
  have ho2_0 : w.heap.size < w2.heap.size := by (have := hb2.size; (try simp at this); omega)
  have hg2_0 := fun o => hc2 (w.heap.size) o (by first | (simp; done) | (simp; omega) | omega)
  have hk2_0 := fun o => hf2 (w.heap.size) o (by first | (simp; done) | (simp; omega) | omega)
  try simp [go_sem] at hg2_0
  try simp [go_sem] at hk2_0
  have ho2_1 : w.heap.size + 1 < w2.heap.size := by (have := hb2.size; (try simp at this); omega)
  have hg2_1 := fun o => hc2 (w.heap.size + 1) o (by first | (simp; done) | (simp; omega) | omega)
  have hk2_1 := fun o => hf2 (w.heap.size + 1) o (by first | (simp; done) | (simp; omega) | omega)
  try simp [go_sem] at hg2_1
  try simp [go_sem] at hk2_1
  have ho2_2 : w.heap.size + 2 < w2.heap.size := by (have := hb2.size; (try simp at this); omega)
  have hg2_2 := fun o => hc2 (w.heap.size + 2) o (by first | (simp; done) | (simp; omega) | omega)
  have hk2_2 := fun o => hf2 (w.heap.size + 2) o (by first | (simp; done) | (simp; omega) | omega)
  try simp [go_sem] at hg2_2
  try simp [go_sem] at hk2_2
  have ho2_3 : w.heap.size + 3 < w2.heap.size := by (have := hb2.size; (try simp at this); omega)
  have hg2_3 := fun o => hc2 (w.heap.size + 3) o (by first | (simp; done) | (simp; omega) | omega)
  have hk2_3 := fun o => hf2 (w.heap.size + 3) o (by first | (simp; done) | (simp; omega) | omega)
  try simp [go_sem] at hg2_3
  try simp [go_sem] at hk2_3
  have ho2_4 : w.heap.size + 4 < w2.heap.size := by (have := hb2.size; (try simp at this); omega)
  have hg2_4 := fun o => hc2 (w.heap.size + 4) o (by first | (simp; done) | (simp; omega) | omega)
  have hk2_4 := fun o => hf2 (w.heap.size + 4) o (by first | (simp; done) | (simp; omega) | omega)
  try simp [go_sem] at hg2_4
  try simp [go_sem] at hk2_4
  go_wp2_with fail
  refine (H3.out _).mono ?_
  rintro e w3 ⟨rfl, hb3⟩
  obtain ⟨hc3, hf3⟩ := bcell hb3
  have hy3 := hb3.size
  try simp at hy3
  first | (have hz3 : w.heap.size < w3.heap.size := by (have := hb3.size; (try simp at this); omega)) | skip
  have ho3_0 : w.heap.size < w3.heap.size := by (have := hb3.size; (try simp at this); omega)
  have hg3_0 := fun o => hc3 (w.heap.size) o (by first | (simp; done) | (simp; omega) | omega)
  have hk3_0 := fun o => hf3 (w.heap.size) o (by first | (simp; done) | (simp; omega) | omega)
  try simp [go_sem] at hg3_0
  try simp [go_sem] at hk3_0
  have ho3_1 : w.heap.size + 1 < w3.heap.size := by (have := hb3.size; (try simp at this); omega)
  have hg3_1 := fun o => hc3 (w.heap.size + 1) o (by first | (simp; done) | (simp; omega) | omega)
  have hk3_1 := fun o => hf3 (w.heap.size + 1) o (by first | (simp; done) | (simp; omega) | omega)
  try simp [go_sem] at hg3_1
  try simp [go_sem] at hk3_1
  have ho3_2 : w.heap.size + 2 < w3.heap.size := by (have := hb3.size; (try simp at this); omega)
  have hg3_2 := fun o => hc3 (w.heap.size + 2) o (by first | (simp; done) | (simp; omega) | omega)
  have hk3_2 := fun o => hf3 (w.heap.size + 2) o (by first | (simp; done) | (simp; omega) | omega)
  try simp [go_sem] at hg3_2
  try simp [go_sem] at hk3_2
  have ho3_3 : w.heap.size + 3 < w3.heap.size := by (have := hb3.size; (try simp at this); omega)
  have hg3_3 := fun o => hc3 (w.heap.size + 3) o (by first | (simp; done) | (simp; omega) | omega)
  have hk3_3 := fun o => hf3 (w.heap.size + 3) o (by first | (simp; done) | (simp; omega) | omega)
  try simp [go_sem] at hg3_3
  try simp [go_sem] at hk3_3
  have ho3_4 : w.heap.size + 4 < w3.heap.size := by (have := hb3.size; (try simp at this); omega)
  have hg3_4 := fun o => hc3 (w.heap.size + 4) o (by first | (simp; done) | (simp; omega) | omega)
  have hk3_4 := fun o => hf3 (w.heap.size + 4) o (by first | (simp; done) | (simp; omega) | omega)
  try simp [go_sem] at hg3_4
  try simp [go_sem] at hk3_4
  go_wp2_with fail
  refine wp_region_mixB (by kernel_rfl) (by kernel_rfl) ?_
  repeat (first
    | (refine mix_skip rfl ?_; refine mix_putK (fun K hK => ?_); go_simp; refine hK _ ?_; clear hK K)
    | (refine mix_readE rfl rfl rfl ?_; apply Exists.intro; refine ⟨fun w' hb' => ?_, ?_⟩; (obtain ⟨hc', hf'⟩ := Old.cells hb'; clear hb'; go_simp; try exact rfl); refine mix_putK (fun K hK => ?_); go_simp; refine hK _ ?_; clear hK K)
    | (refine mix_pureE rfl rfl ?_; apply Exists.intro; refine ⟨fun w' => ?_, ?_⟩; (go_simp; try exact rfl); refine mix_putK (fun K hK => ?_); go_simp; refine hK _ ?_; clear hK K)
    | (refine mix_eff rfl rfl ?_; go_wp2_with (first | (go_at_call 22; refine (wsince_any _ _ _ b1 b2 a1 a2).mono ?_; rintro e w5 ⟨rfl, hb5⟩; obtain ⟨hc5, hf5⟩ := bcell hb5; have hy5 := hb5.size; (try simp at hy5); (first | (have hz5 : w.heap.size < w5.heap.size := by (have := hb5.size; (try simp at this); omega)) | skip); have ho5_0 : w.heap.size < w5.heap.size := (by (have := hb5.size; (try simp at this); omega)); have hg5_0 := fun o => hc5 (w.heap.size) o (by first | (simp; done) | (simp; omega) | omega); have hk5_0 := fun o => hf5 (w.heap.size) o (by first | (simp; done) | (simp; omega) | omega); (try simp [go_sem] at hg5_0); (try simp [go_sem] at hk5_0); have ho5_1 : w.heap.size + 1 < w5.heap.size := (by (have := hb5.size; (try simp at this); omega)); have hg5_1 := fun o => hc5 (w.heap.size + 1) o (by first | (simp; done) | (simp; omega) | omega); have hk5_1 := fun o => hf5 (w.heap.size + 1) o (by first | (simp; done) | (simp; omega) | omega); (try simp [go_sem] at hg5_1); (try simp [go_sem] at hk5_1); have ho5_2 : w.heap.size + 2 < w5.heap.size := (by (have := hb5.size; (try simp at this); omega)); have hg5_2 := fun o => hc5 (w.heap.size + 2) o (by first | (simp; done) | (simp; omega) | omega); have hk5_2 := fun o => hf5 (w.heap.size + 2) o (by first | (simp; done) | (simp; omega) | omega); (try simp [go_sem] at hg5_2); (try simp [go_sem] at hk5_2); have ho5_3 : w.heap.size + 3 < w5.heap.size := (by (have := hb5.size; (try simp at this); omega)); have hg5_3 := fun o => hc5 (w.heap.size + 3) o (by first | (simp; done) | (simp; omega) | omega); have hk5_3 := fun o => hf5 (w.heap.size + 3) o (by first | (simp; done) | (simp; omega) | omega); (try simp [go_sem] at hg5_3); (try simp [go_sem] at hk5_3); have ho5_4 : w.heap.size + 4 < w5.heap.size := (by (have := hb5.size; (try simp at this); omega)); have hg5_4 := fun o => hc5 (w.heap.size + 4) o (by first | (simp; done) | (simp; omega) | omega); have hk5_4 := fun o => hf5 (w.heap.size + 4) o (by first | (simp; done) | (simp; omega) | omega); (try simp [go_sem] at hg5_4); (try simp [go_sem] at hk5_4)) | (go_at_call 23; refine (msince_any _ _ _ n1 n2 m1 m2).mono ?_; rintro e w6 ⟨rfl, hb6⟩; obtain ⟨hc6, hf6⟩ := bcell hb6; have hy6 := hb6.size; (try simp at hy6); (first | (have hz6 : w.heap.size < w6.heap.size := by (have := hb6.size; (try simp at this); omega)) | skip); have ho6_0 : w.heap.size < w6.heap.size := (by (have := hb6.size; (try simp at this); omega)); have hg6_0 := fun o => hc6 (w.heap.size) o (by first | (simp; done) | (simp; omega) | omega); have hk6_0 := fun o => hf6 (w.heap.size) o (by first | (simp; done) | (simp; omega) | omega); (try simp [go_sem] at hg6_0); (try simp [go_sem] at hk6_0); have ho6_1 : w.heap.size + 1 < w6.heap.size := (by (have := hb6.size; (try simp at this); omega)); have hg6_1 := fun o => hc6 (w.heap.size + 1) o (by first | (simp; done) | (simp; omega) | omega); have hk6_1 := fun o => hf6 (w.heap.size + 1) o (by first | (simp; done) | (simp; omega) | omega); (try simp [go_sem] at hg6_1); (try simp [go_sem] at hk6_1); have ho6_2 : w.heap.size + 2 < w6.heap.size := (by (have := hb6.size; (try simp at this); omega)); have hg6_2 := fun o => hc6 (w.heap.size + 2) o (by first | (simp; done) | (simp; omega) | omega); have hk6_2 := fun o => hf6 (w.heap.size + 2) o (by first | (simp; done) | (simp; omega) | omega); (try simp [go_sem] at hg6_2); (try simp [go_sem] at hk6_2); have ho6_3 : w.heap.size + 3 < w6.heap.size := (by (have := hb6.size; (try simp at this); omega)); have hg6_3 := fun o => hc6 (w.heap.size + 3) o (by first | (simp; done) | (simp; omega) | omega); have hk6_3 := fun o => hf6 (w.heap.size + 3) o (by first | (simp; done) | (simp; omega) | omega); (try simp [go_sem] at hg6_3); (try simp [go_sem] at hk6_3); have ho6_4 : w.heap.size + 4 < w6.heap.size := (by (have := hb6.size; (try simp at this); omega)); have hg6_4 := fun o => hc6 (w.heap.size + 4) o (by first | (simp; done) | (simp; omega) | omega); have hk6_4 := fun o => hf6 (w.heap.size + 4) o (by first | (simp; done) | (simp; omega) | omega); (try simp [go_sem] at hg6_4); (try simp [go_sem] at hk6_4))); refine then_mix rfl ?_ ?_; (first | (intro h; have h2 : false = true := h; cases h2) | (intro _; refine Old.mk ?_; repeat (first | (with_reducible exact Below.refl _ _) | (with_reducible refine Bal ?_ _) | (with_reducible refine Below.drew ?_) | (with_reducible refine below_drewN ?_ _) | (with_reducible refine Bset ?_ ?_ _; focus (first | (with_reducible exact Nat.le_refl _) | (simp; done) | (simp; omega) | omega)) | (with_reducible refine Bt ?_ (by assumption)) | (with_reducible refine Bp (g := g) ?_ (by assumption) (by assumption)))))))
  refine mix_nil ?_
  go_wp2_with fail
  refine bodyPost_ret (v := .tuple #[.agg #[.int .i64 0, .int .i64 0, .int .i64 0], .bool false]) ?_ rfl ?_
  · simp only [results, Try.results11]
    go_simp
  refine ⟨?_, ?_⟩
  · exact ret_vb2 H.out
  go_light
  repeat (first | (with_reducible exact Below.refl _ _) | (with_reducible refine Bal ?_ _) | (with_reducible refine Below.drew ?_) | (with_reducible refine below_drewN ?_ _) | (with_reducible refine Bset ?_ ?_ _; focus (first | (with_reducible exact Nat.le_refl _) | (simp; done) | (simp; omega) | omega)) | (with_reducible refine Bt ?_ (by assumption)) | (with_reducible refine Bp (g := g) ?_ (by assumption) (by assumption)))
set_option maxHeartbeats 1000000 in
theorem ico_bad6 (a m b n : Int) (w : World) (g0 : 0 ≤ a ∧ a ≤ 999999) (g1 : 0 ≤ b ∧ b ≤ 999999) (g2 : 0 ≤ m ∧ m ≤ 999999) (g3 : 0 ≤ n ∧ n ≤ 999999) (hab : a < b) (hmn : m ≤ n) (hN : ¬ OkCO a m b n) :
    Calls Try.prog 11 #[.int .i64 a, .int .i64 m, .int .i64 b, .int .i64 n] w fun e w' => e = .returned (.tuple #[coV a m b n, .bool (coO a m b n)]) ∧ Below w.heap.size w w' := by
  have H := Lib.hid (co_no hN)
  have h0 := fun V : World => wvalid_any a V
  simp only [inB_t g0.1 g0.2] at h0
  have H0 := Lib.hid h0
  have h1 := fun V : World => wvalid_any b V
  simp only [inB_t g1.1 g1.2] at h1
  have H1 := Lib.hid h1
  have h2 := fun V : World => mvalid_any m V
  simp only [inB_t g2.1 g2.2] at h2
  have H2 := Lib.hid h2
  have h3 := fun V : World => mvalid_any n V
  simp only [inB_t g3.1 g3.2] at h3
  have H3 := Lib.hid h3
  clear h0 h1 h2 h3
  have hk : clkB a m (1000 * (n - m) / (b - a)) = false := clkB_f (fun q => hN ⟨⟨g0, g1, g2, g3⟩, ⟨hab, hmn⟩, q.2.2⟩)
  have h4 := fun V : World => iclk_any a m (1000 * (n - m) / (b - a)) V
  simp only [hk] at h4
  have H4 := Lib.hid h4
  clear h4 hk hN
  obtain ⟨a1, a2⟩ := g0
  obtain ⟨b1, b2⟩ := g1
  obtain ⟨m1, m2⟩ := g2
  obtain ⟨n1, n2⟩ := g3
  obtain ⟨q1, q2⟩ := div_bd (1000 * (n - m)) (b - a) (by omega) (by omega) (by omega)
  have hne : (b - a == 0) = false := by simp; omega
  go_enter Try.func11, Try.ntmps11
  go_wp2_with fail
  refine (H0.out _).mono ?_
  rintro e w0 ⟨rfl, hb0⟩
  obtain ⟨hc0, hf0⟩ := bcell hb0
  have hy0 := hb0.size
  try simp at hy0
  first | (have hz0 : w.heap.size < w0.heap.size := by (have := hb0.size; (try simp at this); omega)) | skip
  have ho0_0 : w.heap.size < w0.heap.size := by (have := hb0.size; (try simp at this); omega)
  have hg0_0 := fun o => hc0 (w.heap.size) o (by first | (simp; done) | (simp; omega) | omega)
  have hk0_0 := fun o => hf0 (w.heap.size) o (by first | (simp; done) | (simp; omega) | omega)
  try simp [go_sem] at hg0_0
  try simp [go_sem] at hk0_0
  have ho0_1 : w.heap.size + 1 < w0.heap.size := by (have := hb0.size; (try simp at this); omega)
  have hg0_1 := fun o => hc0 (w.heap.size + 1) o (by first | (simp; done) | (simp; omega) | omega)
  have hk0_1 := fun o => hf0 (w.heap.size + 1) o (by first | (simp; done) | (simp; omega) | omega)
  try simp [go_sem] at hg0_1
  try simp [go_sem] at hk0_1
  have ho0_2 : w.heap.size + 2 < w0.heap.size := by (have := hb0.size; (try simp at this); omega)
  have hg0_2 := fun o => hc0 (w.heap.size + 2) o (by first | (simp; done) | (simp; omega) | omega)
  have hk0_2 := fun o => hf0 (w.heap.size + 2) o (by first | (simp; done) | (simp; omega) | omega)
  try simp [go_sem] at hg0_2
  try simp [go_sem] at hk0_2
  have ho0_3 : w.heap.size + 3 < w0.heap.size := by (have := hb0.size; (try simp at this); omega)
  have hg0_3 := fun o => hc0 (w.heap.size + 3) o (by first | (simp; done) | (simp; omega) | omega)
  have hk0_3 := fun o => hf0 (w.heap.size + 3) o (by first | (simp; done) | (simp; omega) | omega)
  try simp [go_sem] at hg0_3
  try simp [go_sem] at hk0_3
  have ho0_4 : w.heap.size + 4 < w0.heap.size := by (have := hb0.size; (try simp at this); omega)
  have hg0_4 := fun o => hc0 (w.heap.size + 4) o (by first | (simp; done) | (simp; omega) | omega)
  have hk0_4 := fun o => hf0 (w.heap.size + 4) o (by first | (simp; done) | (simp; omega) | omega)
  try simp [go_sem] at hg0_4
  try simp [go_sem] at hk0_4
  go_wp2_with fail
  refine (H1.out _).mono ?_
  rintro e w1 ⟨rfl, hb1⟩
  obtain ⟨hc1, hf1⟩ := bcell hb1
  have hy1 := hb1.size
  try simp at hy1
  first | (have hz1 : w.heap.size < w1.heap.size := by (have := hb1.size; (try simp at this); omega)) | skip
  have ho1_0 : w.heap.size < w1.heap.size := by (have := hb1.size; (try simp at this); omega)
  have hg1_0 := fun o => hc1 (w.heap.size) o (by first | (simp; done) | (simp; omega) | omega)
  have hk1_0 := fun o => hf1 (w.heap.size) o (by first | (simp; done) | (simp; omega) | omega)
  try simp [go_sem] at hg1_0
  try simp [go_sem] at hk1_0
  have ho1_1 : w.heap.size + 1 < w1.heap.size := by (have := hb1.size; (try simp at this); omega)
  have hg1_1 := fun o => hc1 (w.heap.size + 1) o (by first | (simp; done) | (simp; omega) | omega)
  have hk1_1 := fun o => hf1 (w.heap.size + 1) o (by first | (simp; done) | (simp; omega) | omega)
  try simp [go_sem] at hg1_1
  try simp [go_sem] at hk1_1
  have ho1_2 : w.heap.size + 2 < w1.heap.size := by (have := hb1.size; (try simp at this); omega)
  have hg1_2 := fun o => hc1 (w.heap.size + 2) o (by first | (simp; done) | (simp; omega) | omega)
  have hk1_2 := fun o => hf1 (w.heap.size + 2) o (by first | (simp; done) | (simp; omega) | omega)
  try simp [go_sem] at hg1_2
  try simp [go_sem] at hk1_2
  have ho1_3 : w.heap.size + 3 < w1.heap.size := by (have := hb1.size; (try simp at this); omega)
  have hg1_3 := fun o => hc1 (w.heap.size + 3) o (by first | (simp; done) | (simp; omega) | omega)
  have hk1_3 := fun o => hf1 (w.heap.size + 3) o (by first | (simp; done) | (simp; omega) | omega)
  try simp [go_sem] at hg1_3
  try simp [go_sem] at hk1_3
  have ho1_4 : w.heap.size + 4 < w1.heap.size := by (have := hb1.size; (try simp at this); omega)
  have hg1_4 := fun o => hc1 (w.heap.size + 4) o (by first | (simp; done) | (simp; omega) | omega)
  have hk1_4 := fun o => hf1 (w.heap.size + 4) o (by first | (simp; done) | (simp; omega) | omega)
  try simp [go_sem] at hg1_4
  try simp [go_sem] at hk1_4
  go_wp2_with fail
  refine (H2.out _).mono ?_
  rintro e w2 ⟨rfl, hb2⟩
  obtain ⟨hc2, hf2⟩ := bcell hb2
  have hy2 := hb2.size
  try simp at hy2
  first | (have hz2 : w.heap.size < w2.heap.size := by (have := hb2.size; (try simp at this); omega)) | skip
  have ho2_0 : w.heap.size < w2.heap.size := by (have := hb2.size; (try simp at this); omega)
  have hg2_0 := fun o => hc2 (w.heap.size) o (by first | (simp; done) | (simp; omega) | omega)
  have hk2_0 := fun o => hf2 (w.heap.size) o (by first | (simp; done) | (simp; omega) | omega)
  try simp [go_sem] at hg2_0
  try simp [go_sem] at hk2_0
  have ho2_1 : w.heap.size + 1 < w2.heap.size := by (have := hb2.size; (try simp at this); omega)
  have hg2_1 := fun o => hc2 (w.heap.size + 1) o (by first | (simp; done) | (simp; omega) | omega)
  have hk2_1 := fun o => hf2 (w.heap.size + 1) o (by first | (simp; done) | (simp; omega) | omega)
  try simp [go_sem] at hg2_1
  try simp [go_sem] at hk2_1
  have ho2_2 : w.heap.size + 2 < w2.heap.size := by (have := hb2.size; (try simp at this); omega)
  have hg2_2 := fun o => hc2 (w.heap.size + 2) o (by first | (simp; done) | (simp; omega) | omega)
  have hk2_2 := fun o => hf2 (w.heap.size + 2) o (by first | (simp; done) | (simp; omega) | omega)
  try simp [go_sem] at hg2_2
  try simp [go_sem] at hk2_2
  have ho2_3 : w.heap.size + 3 < w2.heap.size := by (have := hb2.size; (try simp at this); omega)
  have hg2_3 := fun o => hc2 (w.heap.size + 3) o (by first | (simp; done) | (simp; omega) | omega)
  have hk2_3 := fun o => hf2 (w.heap.size + 3) o (by first | (simp; done) | (simp; omega) | omega)
  try simp [go_sem] at hg2_3
  try simp [go_sem] at hk2_3
  have ho2_4 : w.heap.size + 4 < w2.heap.size := by (have := hb2.size; (try simp at this); omega)
  have hg2_4 := fun o => hc2 (w.heap.size + 4) o (by first | (simp; done) | (simp; omega) | omega)
  have hk2_4 := fun o => hf2 (w.heap.size + 4) o (by first | (simp; done) | (simp; omega) | omega)
  try simp [go_sem] at hg2_4
  try simp [go_sem] at hk2_4
  go_wp2_with fail
  refine (H3.out _).mono ?_
  rintro e w3 ⟨rfl, hb3⟩
  obtain ⟨hc3, hf3⟩ := bcell hb3
  have hy3 := hb3.size
  try simp at hy3
  first | (have hz3 : w.heap.size < w3.heap.size := by (have := hb3.size; (try simp at this); omega)) | skip
  have ho3_0 : w.heap.size < w3.heap.size := by (have := hb3.size; (try simp at this); omega)
  have hg3_0 := fun o => hc3 (w.heap.size) o (by first | (simp; done) | (simp; omega) | omega)
  have hk3_0 := fun o => hf3 (w.heap.size) o (by first | (simp; done) | (simp; omega) | omega)
  try simp [go_sem] at hg3_0
  try simp [go_sem] at hk3_0
  have ho3_1 : w.heap.size + 1 < w3.heap.size := by (have := hb3.size; (try simp at this); omega)
  have hg3_1 := fun o => hc3 (w.heap.size + 1) o (by first | (simp; done) | (simp; omega) | omega)
  have hk3_1 := fun o => hf3 (w.heap.size + 1) o (by first | (simp; done) | (simp; omega) | omega)
  try simp [go_sem] at hg3_1
  try simp [go_sem] at hk3_1
  have ho3_2 : w.heap.size + 2 < w3.heap.size := by (have := hb3.size; (try simp at this); omega)
  have hg3_2 := fun o => hc3 (w.heap.size + 2) o (by first | (simp; done) | (simp; omega) | omega)
  have hk3_2 := fun o => hf3 (w.heap.size + 2) o (by first | (simp; done) | (simp; omega) | omega)
  try simp [go_sem] at hg3_2
  try simp [go_sem] at hk3_2
  have ho3_3 : w.heap.size + 3 < w3.heap.size := by (have := hb3.size; (try simp at this); omega)
  have hg3_3 := fun o => hc3 (w.heap.size + 3) o (by first | (simp; done) | (simp; omega) | omega)
  have hk3_3 := fun o => hf3 (w.heap.size + 3) o (by first | (simp; done) | (simp; omega) | omega)
  try simp [go_sem] at hg3_3
  try simp [go_sem] at hk3_3
  have ho3_4 : w.heap.size + 4 < w3.heap.size := by (have := hb3.size; (try simp at this); omega)
  have hg3_4 := fun o => hc3 (w.heap.size + 4) o (by first | (simp; done) | (simp; omega) | omega)
  have hk3_4 := fun o => hf3 (w.heap.size + 4) o (by first | (simp; done) | (simp; omega) | omega)
  try simp [go_sem] at hg3_4
  try simp [go_sem] at hk3_4
  go_wp2_with fail
  refine wp_region_mixB (by kernel_rfl) (by kernel_rfl) ?_
  repeat (first
    | (refine mix_skip rfl ?_; refine mix_putK (fun K hK => ?_); go_simp; refine hK _ ?_; clear hK K)
    | (refine mix_readE rfl rfl rfl ?_; apply Exists.intro; refine ⟨fun w' hb' => ?_, ?_⟩; (obtain ⟨hc', hf'⟩ := Old.cells hb'; clear hb'; go_simp; try exact rfl); refine mix_putK (fun K hK => ?_); go_simp; refine hK _ ?_; clear hK K)
    | (refine mix_pureE rfl rfl ?_; apply Exists.intro; refine ⟨fun w' => ?_, ?_⟩; (go_simp; try exact rfl); refine mix_putK (fun K hK => ?_); go_simp; refine hK _ ?_; clear hK K)
    | (refine mix_eff rfl rfl ?_; go_wp2_with (first | (go_at_call 22; refine (wsince_any _ _ _ b1 b2 a1 a2).mono ?_; rintro e w5 ⟨rfl, hb5⟩; obtain ⟨hc5, hf5⟩ := bcell hb5; have hy5 := hb5.size; (try simp at hy5); (first | (have hz5 : w.heap.size < w5.heap.size := by (have := hb5.size; (try simp at this); omega)) | skip); have ho5_0 : w.heap.size < w5.heap.size := (by (have := hb5.size; (try simp at this); omega)); have hg5_0 := fun o => hc5 (w.heap.size) o (by first | (simp; done) | (simp; omega) | omega); have hk5_0 := fun o => hf5 (w.heap.size) o (by first | (simp; done) | (simp; omega) | omega); (try simp [go_sem] at hg5_0); (try simp [go_sem] at hk5_0); have ho5_1 : w.heap.size + 1 < w5.heap.size := (by (have := hb5.size; (try simp at this); omega)); have hg5_1 := fun o => hc5 (w.heap.size + 1) o (by first | (simp; done) | (simp; omega) | omega); have hk5_1 := fun o => hf5 (w.heap.size + 1) o (by first | (simp; done) | (simp; omega) | omega); (try simp [go_sem] at hg5_1); (try simp [go_sem] at hk5_1); have ho5_2 : w.heap.size + 2 < w5.heap.size := (by (have := hb5.size; (try simp at this); omega)); have hg5_2 := fun o => hc5 (w.heap.size + 2) o (by first | (simp; done) | (simp; omega) | omega); have hk5_2 := fun o => hf5 (w.heap.size + 2) o (by first | (simp; done) | (simp; omega) | omega); (try simp [go_sem] at hg5_2); (try simp [go_sem] at hk5_2); have ho5_3 : w.heap.size + 3 < w5.heap.size := (by (have := hb5.size; (try simp at this); omega)); have hg5_3 := fun o => hc5 (w.heap.size + 3) o (by first | (simp; done) | (simp; omega) | omega); have hk5_3 := fun o => hf5 (w.heap.size + 3) o (by first | (simp; done) | (simp; omega) | omega); (try simp [go_sem] at hg5_3); (try simp [go_sem] at hk5_3); have ho5_4 : w.heap.size + 4 < w5.heap.size := (by (have := hb5.size; (try simp at this); omega)); have hg5_4 := fun o => hc5 (w.heap.size + 4) o (by first | (simp; done) | (simp; omega) | omega); have hk5_4 := fun o => hf5 (w.heap.size + 4) o (by first | (simp; done) | (simp; omega) | omega); (try simp [go_sem] at hg5_4); (try simp [go_sem] at hk5_4)) | (go_at_call 23; refine (msince_any _ _ _ n1 n2 m1 m2).mono ?_; rintro e w6 ⟨rfl, hb6⟩; obtain ⟨hc6, hf6⟩ := bcell hb6; have hy6 := hb6.size; (try simp at hy6); (first | (have hz6 : w.heap.size < w6.heap.size := by (have := hb6.size; (try simp at this); omega)) | skip); have ho6_0 : w.heap.size < w6.heap.size := (by (have := hb6.size; (try simp at this); omega)); have hg6_0 := fun o => hc6 (w.heap.size) o (by first | (simp; done) | (simp; omega) | omega); have hk6_0 := fun o => hf6 (w.heap.size) o (by first | (simp; done) | (simp; omega) | omega); (try simp [go_sem] at hg6_0); (try simp [go_sem] at hk6_0); have ho6_1 : w.heap.size + 1 < w6.heap.size := (by (have := hb6.size; (try simp at this); omega)); have hg6_1 := fun o => hc6 (w.heap.size + 1) o (by first | (simp; done) | (simp; omega) | omega); have hk6_1 := fun o => hf6 (w.heap.size + 1) o (by first | (simp; done) | (simp; omega) | omega); (try simp [go_sem] at hg6_1); (try simp [go_sem] at hk6_1); have ho6_2 : w.heap.size + 2 < w6.heap.size := (by (have := hb6.size; (try simp at this); omega)); have hg6_2 := fun o => hc6 (w.heap.size + 2) o (by first | (simp; done) | (simp; omega) | omega); have hk6_2 := fun o => hf6 (w.heap.size + 2) o (by first | (simp; done) | (simp; omega) | omega); (try simp [go_sem] at hg6_2); (try simp [go_sem] at hk6_2); have ho6_3 : w.heap.size + 3 < w6.heap.size := (by (have := hb6.size; (try simp at this); omega)); have hg6_3 := fun o => hc6 (w.heap.size + 3) o (by first | (simp; done) | (simp; omega) | omega); have hk6_3 := fun o => hf6 (w.heap.size + 3) o (by first | (simp; done) | (simp; omega) | omega); (try simp [go_sem] at hg6_3); (try simp [go_sem] at hk6_3); have ho6_4 : w.heap.size + 4 < w6.heap.size := (by (have := hb6.size; (try simp at this); omega)); have hg6_4 := fun o => hc6 (w.heap.size + 4) o (by first | (simp; done) | (simp; omega) | omega); have hk6_4 := fun o => hf6 (w.heap.size + 4) o (by first | (simp; done) | (simp; omega) | omega); (try simp [go_sem] at hg6_4); (try simp [go_sem] at hk6_4))); refine then_mix rfl ?_ ?_; (first | (intro h; have h2 : false = true := h; cases h2) | (intro _; refine Old.mk ?_; repeat (first | (with_reducible exact Below.refl _ _) | (with_reducible refine Bal ?_ _) | (with_reducible refine Below.drew ?_) | (with_reducible refine below_drewN ?_ _) | (with_reducible refine Bset ?_ ?_ _; focus (first | (with_reducible exact Nat.le_refl _) | (simp; done) | (simp; omega) | omega)) | (with_reducible refine Bt ?_ (by assumption)) | (with_reducible refine Bp (g := g) ?_ (by assumption) (by assumption)))))))
  refine mix_nil ?_
  go_wp2_with fail
  refine (H4.out _).mono ?_
  rintro e w7 ⟨rfl, hb7⟩
  obtain ⟨hc7, hf7⟩ := bcell hb7
  have hy7 := hb7.size
  try simp at hy7
  first | (have hz7 : w.heap.size < w7.heap.size := by (have := hb7.size; (try simp at this); omega)) | skip
  have ho7_0 : w.heap.size < w7.heap.size := by (have := hb7.size; (try simp at this); omega)
  have hg7_0 := fun o => hc7 (w.heap.size) o (by first | (simp; done) | (simp; omega) | omega)
  have hk7_0 := fun o => hf7 (w.heap.size) o (by first | (simp; done) | (simp; omega) | omega)
  try simp [go_sem] at hg7_0
  try simp [go_sem] at hk7_0
  have ho7_1 : w6.heap.size < w7.heap.size := by (have := hb7.size; (try simp at this); omega)
  have hg7_1 := fun o => hc7 (w6.heap.size) o (by first | (simp; done) | (simp; omega) | omega)
  have hk7_1 := fun o => hf7 (w6.heap.size) o (by first | (simp; done) | (simp; omega) | omega)
  try simp [go_sem] at hg7_1
  try simp [go_sem] at hk7_1
  go_wp2_with fail
  refine bodyPost_ret (v := .tuple #[.agg #[.int .i64 0, .int .i64 0, .int .i64 0], .bool false]) ?_ rfl ?_
  · simp only [results, Try.results11]
    go_simp
  refine ⟨?_, ?_⟩
  · exact ret_vb2 H.out
  go_light
  repeat (first | (with_reducible exact Below.refl _ _) | (with_reducible refine Bal ?_ _) | (with_reducible refine Below.drew ?_) | (with_reducible refine below_drewN ?_ _) | (with_reducible refine Bset ?_ ?_ _; focus (first | (with_reducible exact Nat.le_refl _) | (simp; done) | (simp; omega) | omega)) | (with_reducible refine Bt ?_ (by assumption)) | (with_reducible refine Bp (g := g) ?_ (by assumption) (by assumption)))
set_option maxHeartbeats 1000000 in
theorem ico_good (a m b n : Int) (w : World) (g0 : 0 ≤ a ∧ a ≤ 999999) (g1 : 0 ≤ b ∧ b ≤ 999999) (g2 : 0 ≤ m ∧ m ≤ 999999) (g3 : 0 ≤ n ∧ n ≤ 999999) (hab : a < b) (hmn : m ≤ n) (hN :  OkCO a m b n) :
    Calls Try.prog 11 #[.int .i64 a, .int .i64 m, .int .i64 b, .int .i64 n] w fun e w' => e = .returned (.tuple #[coV a m b n, .bool (coO a m b n)]) ∧ Below w.heap.size w w' := by
  have H := Lib.hid (co_yes hN)
  have h0 := fun V : World => wvalid_any a V
  simp only [inB_t g0.1 g0.2] at h0
  have H0 := Lib.hid h0
  have h1 := fun V : World => wvalid_any b V
  simp only [inB_t g1.1 g1.2] at h1
  have H1 := Lib.hid h1
  have h2 := fun V : World => mvalid_any m V
  simp only [inB_t g2.1 g2.2] at h2
  have H2 := Lib.hid h2
  have h3 := fun V : World => mvalid_any n V
  simp only [inB_t g3.1 g3.2] at h3
  have H3 := Lib.hid h3
  clear h0 h1 h2 h3
  have hk : clkB a m (1000 * (n - m) / (b - a)) = true := clkB_t ⟨g0, g2, hN.2.2⟩
  have h4 := fun V : World => iclk_any a m (1000 * (n - m) / (b - a)) V
  simp only [hk] at h4
  have H4 := Lib.hid h4
  clear h4 hk hN
  obtain ⟨a1, a2⟩ := g0
  obtain ⟨b1, b2⟩ := g1
  obtain ⟨m1, m2⟩ := g2
  obtain ⟨n1, n2⟩ := g3
  obtain ⟨q1, q2⟩ := div_bd (1000 * (n - m)) (b - a) (by omega) (by omega) (by omega)
  have hne : (b - a == 0) = false := by simp; omega
  go_enter Try.func11, Try.ntmps11
  go_wp2_with fail
  refine (H0.out _).mono ?_
  rintro e w0 ⟨rfl, hb0⟩
  obtain ⟨hc0, hf0⟩ := bcell hb0
  have hy0 := hb0.size
  try simp at hy0
  first | (have hz0 : w.heap.size < w0.heap.size := by (have := hb0.size; (try simp at this); omega)) | skip
  have ho0_0 : w.heap.size < w0.heap.size := by (have := hb0.size; (try simp at this); omega)
  have hg0_0 := fun o => hc0 (w.heap.size) o (by first | (simp; done) | (simp; omega) | omega)
  have hk0_0 := fun o => hf0 (w.heap.size) o (by first | (simp; done) | (simp; omega) | omega)
  try simp [go_sem] at hg0_0
  try simp [go_sem] at hk0_0
  have ho0_1 : w.heap.size + 1 < w0.heap.size := by (have := hb0.size; (try simp at this); omega)
  have hg0_1 := fun o => hc0 (w.heap.size + 1) o (by first | (simp; done) | (simp; omega) | omega)
  have hk0_1 := fun o => hf0 (w.heap.size + 1) o (by first | (simp; done) | (simp; omega) | omega)
  try simp [go_sem] at hg0_1
  try simp [go_sem] at hk0_1
  have ho0_2 : w.heap.size + 2 < w0.heap.size := by (have := hb0.size; (try simp at this); omega)
  have hg0_2 := fun o => hc0 (w.heap.size + 2) o (by first | (simp; done) | (simp; omega) | omega)
  have hk0_2 := fun o => hf0 (w.heap.size + 2) o (by first | (simp; done) | (simp; omega) | omega)
  try simp [go_sem] at hg0_2
  try simp [go_sem] at hk0_2
  have ho0_3 : w.heap.size + 3 < w0.heap.size := by (have := hb0.size; (try simp at this); omega)
  have hg0_3 := fun o => hc0 (w.heap.size + 3) o (by first | (simp; done) | (simp; omega) | omega)
  have hk0_3 := fun o => hf0 (w.heap.size + 3) o (by first | (simp; done) | (simp; omega) | omega)
  try simp [go_sem] at hg0_3
  try simp [go_sem] at hk0_3
  have ho0_4 : w.heap.size + 4 < w0.heap.size := by (have := hb0.size; (try simp at this); omega)
  have hg0_4 := fun o => hc0 (w.heap.size + 4) o (by first | (simp; done) | (simp; omega) | omega)
  have hk0_4 := fun o => hf0 (w.heap.size + 4) o (by first | (simp; done) | (simp; omega) | omega)
  try simp [go_sem] at hg0_4
  try simp [go_sem] at hk0_4
  go_wp2_with fail
  refine (H1.out _).mono ?_
  rintro e w1 ⟨rfl, hb1⟩
  obtain ⟨hc1, hf1⟩ := bcell hb1
  have hy1 := hb1.size
  try simp at hy1
  first | (have hz1 : w.heap.size < w1.heap.size := by (have := hb1.size; (try simp at this); omega)) | skip
  have ho1_0 : w.heap.size < w1.heap.size := by (have := hb1.size; (try simp at this); omega)
  have hg1_0 := fun o => hc1 (w.heap.size) o (by first | (simp; done) | (simp; omega) | omega)
  have hk1_0 := fun o => hf1 (w.heap.size) o (by first | (simp; done) | (simp; omega) | omega)
  try simp [go_sem] at hg1_0
  try simp [go_sem] at hk1_0
  have ho1_1 : w.heap.size + 1 < w1.heap.size := by (have := hb1.size; (try simp at this); omega)
  have hg1_1 := fun o => hc1 (w.heap.size + 1) o (by first | (simp; done) | (simp; omega) | omega)
  have hk1_1 := fun o => hf1 (w.heap.size + 1) o (by first | (simp; done) | (simp; omega) | omega)
  try simp [go_sem] at hg1_1
  try simp [go_sem] at hk1_1
  have ho1_2 : w.heap.size + 2 < w1.heap.size := by (have := hb1.size; (try simp at this); omega)
  have hg1_2 := fun o => hc1 (w.heap.size + 2) o (by first | (simp; done) | (simp; omega) | omega)
  have hk1_2 := fun o => hf1 (w.heap.size + 2) o (by first | (simp; done) | (simp; omega) | omega)
  try simp [go_sem] at hg1_2
  try simp [go_sem] at hk1_2
  have ho1_3 : w.heap.size + 3 < w1.heap.size := by (have := hb1.size; (try simp at this); omega)
  have hg1_3 := fun o => hc1 (w.heap.size + 3) o (by first | (simp; done) | (simp; omega) | omega)
  have hk1_3 := fun o => hf1 (w.heap.size + 3) o (by first | (simp; done) | (simp; omega) | omega)
  try simp [go_sem] at hg1_3
  try simp [go_sem] at hk1_3
  have ho1_4 : w.heap.size + 4 < w1.heap.size := by (have := hb1.size; (try simp at this); omega)
  have hg1_4 := fun o => hc1 (w.heap.size + 4) o (by first | (simp; done) | (simp; omega) | omega)
  have hk1_4 := fun o => hf1 (w.heap.size + 4) o (by first | (simp; done) | (simp; omega) | omega)
  try simp [go_sem] at hg1_4
  try simp [go_sem] at hk1_4
  go_wp2_with fail
  refine (H2.out _).mono ?_
  rintro e w2 ⟨rfl, hb2⟩
  obtain ⟨hc2, hf2⟩ := bcell hb2
  have hy2 := hb2.size
  try simp at hy2
  first | (have hz2 : w.heap.size < w2.heap.size := by (have := hb2.size; (try simp at this); omega)) | skip
  have ho2_0 : w.heap.size < w2.heap.size := by (have := hb2.size; (try simp at this); omega)
  have hg2_0 := fun o => hc2 (w.heap.size) o (by first | (simp; done) | (simp; omega) | omega)
  have hk2_0 := fun o => hf2 (w.heap.size) o (by first | (simp; done) | (simp; omega) | omega)
  try simp [go_sem] at hg2_0
  try simp [go_sem] at hk2_0
  have ho2_1 : w.heap.size + 1 < w2.heap.size := by (have := hb2.size; (try simp at this); omega)
  have hg2_1 := fun o => hc2 (w.heap.size + 1) o (by first | (simp; done) | (simp; omega) | omega)
  have hk2_1 := fun o => hf2 (w.heap.size + 1) o (by first | (simp; done) | (simp; omega) | omega)
  try simp [go_sem] at hg2_1
  try simp [go_sem] at hk2_1
  have ho2_2 : w.heap.size + 2 < w2.heap.size := by (have := hb2.size; (try simp at this); omega)
  have hg2_2 := fun o => hc2 (w.heap.size + 2) o (by first | (simp; done) | (simp; omega) | omega)
  have hk2_2 := fun o => hf2 (w.heap.size + 2) o (by first | (simp; done) | (simp; omega) | omega)
  try simp [go_sem] at hg2_2
  try simp [go_sem] at hk2_2
  have ho2_3 : w.heap.size + 3 < w2.heap.size := by (have := hb2.size; (try simp at this); omega)
  have hg2_3 := fun o => hc2 (w.heap.size + 3) o (by first | (simp; done) | (simp; omega) | omega)
  have hk2_3 := fun o => hf2 (w.heap.size + 3) o (by first | (simp; done) | (simp; omega) | omega)
  try simp [go_sem] at hg2_3
  try simp [go_sem] at hk2_3
  have ho2_4 : w.heap.size + 4 < w2.heap.size := by (have := hb2.size; (try simp at this); omega)
  have hg2_4 := fun o => hc2 (w.heap.size + 4) o (by first | (simp; done) | (simp; omega) | omega)
  have hk2_4 := fun o => hf2 (w.heap.size + 4) o (by first | (simp; done) | (simp; omega) | omega)
  try simp [go_sem] at hg2_4
  try simp [go_sem] at hk2_4
  go_wp2_with fail
  refine (H3.out _).mono ?_
  rintro e w3 ⟨rfl, hb3⟩
  obtain ⟨hc3, hf3⟩ := bcell hb3
  have hy3 := hb3.size
  try simp at hy3
  first | (have hz3 : w.heap.size < w3.heap.size := by (have := hb3.size; (try simp at this); omega)) | skip
  have ho3_0 : w.heap.size < w3.heap.size := by (have := hb3.size; (try simp at this); omega)
  have hg3_0 := fun o => hc3 (w.heap.size) o (by first | (simp; done) | (simp; omega) | omega)
  have hk3_0 := fun o => hf3 (w.heap.size) o (by first | (simp; done) | (simp; omega) | omega)
  try simp [go_sem] at hg3_0
  try simp [go_sem] at hk3_0
  have ho3_1 : w.heap.size + 1 < w3.heap.size := by (have := hb3.size; (try simp at this); omega)
  have hg3_1 := fun o => hc3 (w.heap.size + 1) o (by first | (simp; done) | (simp; omega) | omega)
  have hk3_1 := fun o => hf3 (w.heap.size + 1) o (by first | (simp; done) | (simp; omega) | omega)
  try simp [go_sem] at hg3_1
  try simp [go_sem] at hk3_1
  have ho3_2 : w.heap.size + 2 < w3.heap.size := by (have := hb3.size; (try simp at this); omega)
  have hg3_2 := fun o => hc3 (w.heap.size + 2) o (by first | (simp; done) | (simp; omega) | omega)
  have hk3_2 := fun o => hf3 (w.heap.size + 2) o (by first | (simp; done) | (simp; omega) | omega)
  try simp [go_sem] at hg3_2
  try simp [go_sem] at hk3_2
  have ho3_3 : w.heap.size + 3 < w3.heap.size := by (have := hb3.size; (try simp at this); omega)
  have hg3_3 := fun o => hc3 (w.heap.size + 3) o (by first | (simp; done) | (simp; omega) | omega)
  have hk3_3 := fun o => hf3 (w.heap.size + 3) o (by first | (simp; done) | (simp; omega) | omega)
  try simp [go_sem] at hg3_3
  try simp [go_sem] at hk3_3
  have ho3_4 : w.heap.size + 4 < w3.heap.size := by (have := hb3.size; (try simp at this); omega)
  have hg3_4 := fun o => hc3 (w.heap.size + 4) o (by first | (simp; done) | (simp; omega) | omega)
  have hk3_4 := fun o => hf3 (w.heap.size + 4) o (by first | (simp; done) | (simp; omega) | omega)
  try simp [go_sem] at hg3_4
  try simp [go_sem] at hk3_4
  go_wp2_with fail
  refine wp_region_mixB (by kernel_rfl) (by kernel_rfl) ?_
  repeat (first
    | (refine mix_skip rfl ?_; refine mix_putK (fun K hK => ?_); go_simp; refine hK _ ?_; clear hK K)
    | (refine mix_readE rfl rfl rfl ?_; apply Exists.intro; refine ⟨fun w' hb' => ?_, ?_⟩; (obtain ⟨hc', hf'⟩ := Old.cells hb'; clear hb'; go_simp; try exact rfl); refine mix_putK (fun K hK => ?_); go_simp; refine hK _ ?_; clear hK K)
    | (refine mix_pureE rfl rfl ?_; apply Exists.intro; refine ⟨fun w' => ?_, ?_⟩; (go_simp; try exact rfl); refine mix_putK (fun K hK => ?_); go_simp; refine hK _ ?_; clear hK K)
    | (refine mix_eff rfl rfl ?_; go_wp2_with (first | (go_at_call 22; refine (wsince_any _ _ _ b1 b2 a1 a2).mono ?_; rintro e w5 ⟨rfl, hb5⟩; obtain ⟨hc5, hf5⟩ := bcell hb5; have hy5 := hb5.size; (try simp at hy5); (first | (have hz5 : w.heap.size < w5.heap.size := by (have := hb5.size; (try simp at this); omega)) | skip); have ho5_0 : w.heap.size < w5.heap.size := (by (have := hb5.size; (try simp at this); omega)); have hg5_0 := fun o => hc5 (w.heap.size) o (by first | (simp; done) | (simp; omega) | omega); have hk5_0 := fun o => hf5 (w.heap.size) o (by first | (simp; done) | (simp; omega) | omega); (try simp [go_sem] at hg5_0); (try simp [go_sem] at hk5_0); have ho5_1 : w.heap.size + 1 < w5.heap.size := (by (have := hb5.size; (try simp at this); omega)); have hg5_1 := fun o => hc5 (w.heap.size + 1) o (by first | (simp; done) | (simp; omega) | omega); have hk5_1 := fun o => hf5 (w.heap.size + 1) o (by first | (simp; done) | (simp; omega) | omega); (try simp [go_sem] at hg5_1); (try simp [go_sem] at hk5_1); have ho5_2 : w.heap.size + 2 < w5.heap.size := (by (have := hb5.size; (try simp at this); omega)); have hg5_2 := fun o => hc5 (w.heap.size + 2) o (by first | (simp; done) | (simp; omega) | omega); have hk5_2 := fun o => hf5 (w.heap.size + 2) o (by first | (simp; done) | (simp; omega) | omega); (try simp [go_sem] at hg5_2); (try simp [go_sem] at hk5_2); have ho5_3 : w.heap.size + 3 < w5.heap.size := (by (have := hb5.size; (try simp at this); omega)); have hg5_3 := fun o => hc5 (w.heap.size + 3) o (by first | (simp; done) | (simp; omega) | omega); have hk5_3 := fun o => hf5 (w.heap.size + 3) o (by first | (simp; done) | (simp; omega) | omega); (try simp [go_sem] at hg5_3); (try simp [go_sem] at hk5_3); have ho5_4 : w.heap.size + 4 < w5.heap.size := (by (have := hb5.size; (try simp at this); omega)); have hg5_4 := fun o => hc5 (w.heap.size + 4) o (by first | (simp; done) | (simp; omega) | omega); have hk5_4 := fun o => hf5 (w.heap.size + 4) o (by first | (simp; done) | (simp; omega) | omega); (try simp [go_sem] at hg5_4); (try simp [go_sem] at hk5_4)) | (go_at_call 23; refine (msince_any _ _ _ n1 n2 m1 m2).mono ?_; rintro e w6 ⟨rfl, hb6⟩; obtain ⟨hc6, hf6⟩ := bcell hb6; have hy6 := hb6.size; (try simp at hy6); (first | (have hz6 : w.heap.size < w6.heap.size := by (have := hb6.size; (try simp at this); omega)) | skip); have ho6_0 : w.heap.size < w6.heap.size := (by (have := hb6.size; (try simp at this); omega)); have hg6_0 := fun o => hc6 (w.heap.size) o (by first | (simp; done) | (simp; omega) | omega); have hk6_0 := fun o => hf6 (w.heap.size) o (by first | (simp; done) | (simp; omega) | omega); (try simp [go_sem] at hg6_0); (try simp [go_sem] at hk6_0); have ho6_1 : w.heap.size + 1 < w6.heap.size := (by (have := hb6.size; (try simp at this); omega)); have hg6_1 := fun o => hc6 (w.heap.size + 1) o (by first | (simp; done) | (simp; omega) | omega); have hk6_1 := fun o => hf6 (w.heap.size + 1) o (by first | (simp; done) | (simp; omega) | omega); (try simp [go_sem] at hg6_1); (try simp [go_sem] at hk6_1); have ho6_2 : w.heap.size + 2 < w6.heap.size := (by (have := hb6.size; (try simp at this); omega)); have hg6_2 := fun o => hc6 (w.heap.size + 2) o (by first | (simp; done) | (simp; omega) | omega); have hk6_2 := fun o => hf6 (w.heap.size + 2) o (by first | (simp; done) | (simp; omega) | omega); (try simp [go_sem] at hg6_2); (try simp [go_sem] at hk6_2); have ho6_3 : w.heap.size + 3 < w6.heap.size := (by (have := hb6.size; (try simp at this); omega)); have hg6_3 := fun o => hc6 (w.heap.size + 3) o (by first | (simp; done) | (simp; omega) | omega); have hk6_3 := fun o => hf6 (w.heap.size + 3) o (by first | (simp; done) | (simp; omega) | omega); (try simp [go_sem] at hg6_3); (try simp [go_sem] at hk6_3); have ho6_4 : w.heap.size + 4 < w6.heap.size := (by (have := hb6.size; (try simp at this); omega)); have hg6_4 := fun o => hc6 (w.heap.size + 4) o (by first | (simp; done) | (simp; omega) | omega); have hk6_4 := fun o => hf6 (w.heap.size + 4) o (by first | (simp; done) | (simp; omega) | omega); (try simp [go_sem] at hg6_4); (try simp [go_sem] at hk6_4))); refine then_mix rfl ?_ ?_; (first | (intro h; have h2 : false = true := h; cases h2) | (intro _; refine Old.mk ?_; repeat (first | (with_reducible exact Below.refl _ _) | (with_reducible refine Bal ?_ _) | (with_reducible refine Below.drew ?_) | (with_reducible refine below_drewN ?_ _) | (with_reducible refine Bset ?_ ?_ _; focus (first | (with_reducible exact Nat.le_refl _) | (simp; done) | (simp; omega) | omega)) | (with_reducible refine Bt ?_ (by assumption)) | (with_reducible refine Bp (g := g) ?_ (by assumption) (by assumption)))))))
  refine mix_nil ?_
  go_wp2_with fail
  refine (H4.out _).mono ?_
  rintro e w7 ⟨rfl, hb7⟩
  obtain ⟨hc7, hf7⟩ := bcell hb7
  have hy7 := hb7.size
  try simp at hy7
  first | (have hz7 : w.heap.size < w7.heap.size := by (have := hb7.size; (try simp at this); omega)) | skip
  have ho7_0 : w.heap.size < w7.heap.size := by (have := hb7.size; (try simp at this); omega)
  have hg7_0 := fun o => hc7 (w.heap.size) o (by first | (simp; done) | (simp; omega) | omega)
  have hk7_0 := fun o => hf7 (w.heap.size) o (by first | (simp; done) | (simp; omega) | omega)
  try simp [go_sem] at hg7_0
  try simp [go_sem] at hk7_0
  have ho7_1 : w6.heap.size < w7.heap.size := by (have := hb7.size; (try simp at this); omega)
  have hg7_1 := fun o => hc7 (w6.heap.size) o (by first | (simp; done) | (simp; omega) | omega)
  have hk7_1 := fun o => hf7 (w6.heap.size) o (by first | (simp; done) | (simp; omega) | omega)
  try simp [go_sem] at hg7_1
  try simp [go_sem] at hk7_1
  go_wp2_with fail
  refine bodyPost_ret (v := .tuple #[.agg #[.int .i64 a, .int .i64 m, .int .i64 (1000 * (n - m) / (b - a))], .bool true]) ?_ rfl ?_
  · simp only [results, Try.results11]
    go_simp
  refine ⟨?_, ?_⟩
  · exact ret_vb2 H.out
  go_light
  repeat (first | (with_reducible exact Below.refl _ _) | (with_reducible refine Bal ?_ _) | (with_reducible refine Below.drew ?_) | (with_reducible refine below_drewN ?_ _) | (with_reducible refine Bset ?_ ?_ _; focus (first | (with_reducible exact Nat.le_refl _) | (simp; done) | (simp; omega) | omega)) | (with_reducible refine Bt ?_ (by assumption)) | (with_reducible refine Bp (g := g) ?_ (by assumption) (by assumption)))
theorem ico_any (a m b n : Int) (w : World) :
    Calls Try.prog 11 #[.int .i64 a, .int .i64 m, .int .i64 b, .int .i64 n] w fun e w' => e = .returned (.tuple #[coV a m b n, .bool (coO a m b n)]) ∧ Below w.heap.size w w' := by
  by_cases h : OkCO a m b n
  · obtain ⟨⟨g0, g1, g2, g3⟩, ⟨hab, hmn⟩, hr⟩ := h
    exact ico_good a m b n w g0 g1 g2 g3 hab hmn ⟨⟨g0, g1, g2, g3⟩, ⟨hab, hmn⟩, hr⟩
  · cases t0 : inB a 0 999999
    · exact ico_bad0 a m b n w t0 h
    cases t1 : inB b 0 999999
    · exact ico_bad1 a m b n w t0 t1 h
    cases t2 : inB m 0 999999
    · exact ico_bad2 a m b n w t0 t1 t2 h
    cases t3 : inB n 0 999999
    · exact ico_bad3 a m b n w t0 t1 t2 t3 h
    simp only [inB, Bool.and_eq_true, decide_eq_true_eq] at t0 t1 t2 t3
    rcases Int.lt_or_le a b with hab | hab
    · rcases Int.lt_or_le n m with hmn | hmn
      · exact ico_bad5 a m b n w t0 t1 t2 t3 hab hmn h
      · exact ico_bad6 a m b n w t0 t1 t2 t3 hab hmn h
    · exact ico_bad4 a m b n w t0 t1 t2 t3 hab h
set_option maxHeartbeats 1000000 in
theorem sco_bad0 (a m b n : Int) (w : World)  (f0 : inB a 0 999999 = false) (hN : ¬ OkCO a m b n) :
    Calls Try.prog 12 #[.int .i64 a, .int .i64 m, .int .i64 b, .int .i64 n] w fun e w' => e = .returned (.tuple #[coV a m b n, .bool (coO a m b n)]) ∧ Below w.heap.size w w' := by
  have H := Lib.hid (co_no hN)
  have h0 := fun V : World => l6In_any a 0 999999 V
  simp only [f0] at h0
  have H0 := Lib.hid h0
  clear hN h0  f0
  go_enter Try.func12, Try.ntmps12
  go_wp2_with fail
  refine (H0.out _).mono ?_
  rintro e w' ⟨rfl, rfl⟩
  go_wp2_with fail
  refine bodyPost_ret (v := .tuple #[.agg #[.int .i64 0, .int .i64 0, .int .i64 0], .bool false]) ?_ rfl ?_
  · simp only [results, Try.results12]
    go_simp
  refine ⟨?_, ?_⟩
  · exact ret_vb2 H.out
  go_light
  repeat (first | (with_reducible exact Below.refl _ _) | (with_reducible refine Bal ?_ _) | (with_reducible refine Below.drew ?_) | (with_reducible refine below_drewN ?_ _) | (with_reducible refine Bset ?_ ?_ _; focus (first | (with_reducible exact Nat.le_refl _) | (simp; done) | (simp; omega) | omega)) | (with_reducible refine Bt ?_ (by assumption)) | (with_reducible refine Bp (g := g) ?_ (by assumption) (by assumption)))
set_option maxHeartbeats 1000000 in
theorem sco_bad1 (a m b n : Int) (w : World) (t0 : inB a 0 999999 = true) (f1 : inB m 0 999999 = false) (hN : ¬ OkCO a m b n) :
    Calls Try.prog 12 #[.int .i64 a, .int .i64 m, .int .i64 b, .int .i64 n] w fun e w' => e = .returned (.tuple #[coV a m b n, .bool (coO a m b n)]) ∧ Below w.heap.size w w' := by
  have H := Lib.hid (co_no hN)
  have hb0 : 0 ≤ a ∧ a ≤ 999999 := by simpa [inB] using t0
  have h0 := fun V : World => l6In_any a 0 999999 V
  simp only [t0] at h0
  have H0 := Lib.hid h0
  have h1 := fun V : World => l6In_any m 0 999999 V
  simp only [f1] at h1
  have H1 := Lib.hid h1
  clear hN h0 h1 t0 f1
  obtain ⟨a1, a2⟩ := hb0
  go_enter Try.func12, Try.ntmps12
  go_wp2_with fail
  refine (H0.out _).mono ?_
  rintro e w' ⟨rfl, rfl⟩
  go_wp2_with fail
  refine (H1.out _).mono ?_
  rintro e w' ⟨rfl, rfl⟩
  go_wp2_with fail
  refine bodyPost_ret (v := .tuple #[.agg #[.int .i64 0, .int .i64 0, .int .i64 0], .bool false]) ?_ rfl ?_
  · simp only [results, Try.results12]
    go_simp
  refine ⟨?_, ?_⟩
  · exact ret_vb2 H.out
  go_light
  repeat (first | (with_reducible exact Below.refl _ _) | (with_reducible refine Bal ?_ _) | (with_reducible refine Below.drew ?_) | (with_reducible refine below_drewN ?_ _) | (with_reducible refine Bset ?_ ?_ _; focus (first | (with_reducible exact Nat.le_refl _) | (simp; done) | (simp; omega) | omega)) | (with_reducible refine Bt ?_ (by assumption)) | (with_reducible refine Bp (g := g) ?_ (by assumption) (by assumption)))
set_option maxHeartbeats 1000000 in
theorem sco_bad2 (a m b n : Int) (w : World) (t0 : inB a 0 999999 = true) (t1 : inB m 0 999999 = true) (f2 : inB b (a + 1) 999999 = false) (hN : ¬ OkCO a m b n) :
    Calls Try.prog 12 #[.int .i64 a, .int .i64 m, .int .i64 b, .int .i64 n] w fun e w' => e = .returned (.tuple #[coV a m b n, .bool (coO a m b n)]) ∧ Below w.heap.size w w' := by
  have H := Lib.hid (co_no hN)
  have hb0 : 0 ≤ a ∧ a ≤ 999999 := by simpa [inB] using t0
  have h0 := fun V : World => l6In_any a 0 999999 V
  simp only [t0] at h0
  have H0 := Lib.hid h0
  have h1 := fun V : World => l6In_any m 0 999999 V
  simp only [t1] at h1
  have H1 := Lib.hid h1
  have h2 := fun V : World => l6In_any b (a + 1) 999999 V
  simp only [f2] at h2
  have H2 := Lib.hid h2
  clear hN h0 h1 h2 t0 t1 f2
  obtain ⟨a1, a2⟩ := hb0
  go_enter Try.func12, Try.ntmps12
  go_wp2_with fail
  refine (H0.out _).mono ?_
  rintro e w' ⟨rfl, rfl⟩
  go_wp2_with fail
  refine (H1.out _).mono ?_
  rintro e w' ⟨rfl, rfl⟩
  go_wp2_with fail
  refine (H2.out _).mono ?_
  rintro e w' ⟨rfl, rfl⟩
  go_wp2_with fail
  refine bodyPost_ret (v := .tuple #[.agg #[.int .i64 0, .int .i64 0, .int .i64 0], .bool false]) ?_ rfl ?_
  · simp only [results, Try.results12]
    go_simp
  refine ⟨?_, ?_⟩
  · exact ret_vb2 H.out
  go_light
  repeat (first | (with_reducible exact Below.refl _ _) | (with_reducible refine Bal ?_ _) | (with_reducible refine Below.drew ?_) | (with_reducible refine below_drewN ?_ _) | (with_reducible refine Bset ?_ ?_ _; focus (first | (with_reducible exact Nat.le_refl _) | (simp; done) | (simp; omega) | omega)) | (with_reducible refine Bt ?_ (by assumption)) | (with_reducible refine Bp (g := g) ?_ (by assumption) (by assumption)))
set_option maxHeartbeats 1000000 in
theorem sco_bad3 (a m b n : Int) (w : World) (t0 : inB a 0 999999 = true) (t1 : inB m 0 999999 = true) (t2 : inB b (a + 1) 999999 = true) (f3 : inB n m 999999 = false) (hN : ¬ OkCO a m b n) :
    Calls Try.prog 12 #[.int .i64 a, .int .i64 m, .int .i64 b, .int .i64 n] w fun e w' => e = .returned (.tuple #[coV a m b n, .bool (coO a m b n)]) ∧ Below w.heap.size w w' := by
  have H := Lib.hid (co_no hN)
  have hb0 : 0 ≤ a ∧ a ≤ 999999 := by simpa [inB] using t0
  have h0 := fun V : World => l6In_any a 0 999999 V
  simp only [t0] at h0
  have H0 := Lib.hid h0
  have h1 := fun V : World => l6In_any m 0 999999 V
  simp only [t1] at h1
  have H1 := Lib.hid h1
  have h2 := fun V : World => l6In_any b (a + 1) 999999 V
  simp only [t2] at h2
  have H2 := Lib.hid h2
  have h3 := fun V : World => l6In_any n m 999999 V
  simp only [f3] at h3
  have H3 := Lib.hid h3
  clear hN h0 h1 h2 h3 t0 t1 t2 f3
  obtain ⟨a1, a2⟩ := hb0
  go_enter Try.func12, Try.ntmps12
  go_wp2_with fail
  refine (H0.out _).mono ?_
  rintro e w' ⟨rfl, rfl⟩
  go_wp2_with fail
  refine (H1.out _).mono ?_
  rintro e w' ⟨rfl, rfl⟩
  go_wp2_with fail
  refine (H2.out _).mono ?_
  rintro e w' ⟨rfl, rfl⟩
  go_wp2_with fail
  refine (H3.out _).mono ?_
  rintro e w' ⟨rfl, rfl⟩
  go_wp2_with fail
  refine bodyPost_ret (v := .tuple #[.agg #[.int .i64 0, .int .i64 0, .int .i64 0], .bool false]) ?_ rfl ?_
  · simp only [results, Try.results12]
    go_simp
  refine ⟨?_, ?_⟩
  · exact ret_vb2 H.out
  go_light
  repeat (first | (with_reducible exact Below.refl _ _) | (with_reducible refine Bal ?_ _) | (with_reducible refine Below.drew ?_) | (with_reducible refine below_drewN ?_ _) | (with_reducible refine Bset ?_ ?_ _; focus (first | (with_reducible exact Nat.le_refl _) | (simp; done) | (simp; omega) | omega)) | (with_reducible refine Bt ?_ (by assumption)) | (with_reducible refine Bp (g := g) ?_ (by assumption) (by assumption)))
set_option maxHeartbeats 1000000 in
theorem sco_bad4 (a m b n : Int) (w : World) (g0 : 0 ≤ a ∧ a ≤ 999999) (g1 : 0 ≤ b ∧ b ≤ 999999) (g2 : 0 ≤ m ∧ m ≤ 999999) (g3 : 0 ≤ n ∧ n ≤ 999999) (hab : a < b) (hmn : m ≤ n) (hN : ¬ OkCO a m b n) :
    Calls Try.prog 12 #[.int .i64 a, .int .i64 m, .int .i64 b, .int .i64 n] w fun e w' => e = .returned (.tuple #[coV a m b n, .bool (coO a m b n)]) ∧ Below w.heap.size w w' := by
  have H := Lib.hid (co_no hN)
  have h0 := fun V : World => l6In_any a 0 999999 V
  simp only [inB_t (n := a) (lo := 0) (hi := 999999) g0.1 g0.2] at h0
  have H0 := Lib.hid h0
  have h1 := fun V : World => l6In_any m 0 999999 V
  simp only [inB_t (n := m) (lo := 0) (hi := 999999) g2.1 g2.2] at h1
  have H1 := Lib.hid h1
  have h2 := fun V : World => l6In_any b (a + 1) 999999 V
  simp only [inB_t (n := b) (lo := (a + 1)) (hi := 999999) (by omega) g1.2] at h2
  have H2 := Lib.hid h2
  have h3 := fun V : World => l6In_any n m 999999 V
  simp only [inB_t (n := n) (lo := m) (hi := 999999) hmn g3.2] at h3
  have H3 := Lib.hid h3
  clear h0 h1 h2 h3
  have hk : clkB a m (1000 * (n - m) / (b - a)) = false := clkB_f (fun q => hN ⟨⟨g0, g1, g2, g3⟩, ⟨hab, hmn⟩, q.2.2⟩)
  have h4 := fun V : World => sclk_any a m (1000 * (n - m) / (b - a)) V
  simp only [hk] at h4
  have hcm : (n - m) * 1000 = 1000 * (n - m) := Int.mul_comm _ _
  rw [← hcm] at h4
  have H4 := Lib.hid h4
  clear h4 hk hN
  obtain ⟨a1, a2⟩ := g0
  obtain ⟨b1, b2⟩ := g1
  obtain ⟨m1, m2⟩ := g2
  obtain ⟨n1, n2⟩ := g3
  obtain ⟨q1, q2⟩ := div_bd ((n - m) * 1000) (b - a) (by omega) (by omega) (by omega)
  have hne : (b - a == 0) = false := by simp; omega
  clear hcm
  go_enter Try.func12, Try.ntmps12
  go_wp2_with fail
  refine (H0.out _).mono ?_
  rintro e w' ⟨rfl, rfl⟩
  go_wp2_with fail
  refine (H1.out _).mono ?_
  rintro e w' ⟨rfl, rfl⟩
  go_wp2_with fail
  refine (H2.out _).mono ?_
  rintro e w' ⟨rfl, rfl⟩
  go_wp2_with fail
  refine (H3.out _).mono ?_
  rintro e w' ⟨rfl, rfl⟩
  go_wp2_with fail
  refine (H4.out _).mono ?_
  rintro e w7 ⟨rfl, hb7⟩
  obtain ⟨hc7, hf7⟩ := bcell hb7
  have hy7 := hb7.size
  try simp at hy7
  first | (have hz7 : w.heap.size < w7.heap.size := by (have := hb7.size; (try simp at this); omega)) | skip
  have ho7_0 : w.heap.size < w7.heap.size := by (have := hb7.size; (try simp at this); omega)
  have hg7_0 := fun o => hc7 (w.heap.size) o (by first | (simp; done) | (simp; omega) | omega)
  have hk7_0 := fun o => hf7 (w.heap.size) o (by first | (simp; done) | (simp; omega) | omega)
  try simp [go_sem] at hg7_0
  try simp [go_sem] at hk7_0
  have ho7_1 : w.heap.size + 1 < w7.heap.size := by (have := hb7.size; (try simp at this); omega)
  have hg7_1 := fun o => hc7 (w.heap.size + 1) o (by first | (simp; done) | (simp; omega) | omega)
  have hk7_1 := fun o => hf7 (w.heap.size + 1) o (by first | (simp; done) | (simp; omega) | omega)
  try simp [go_sem] at hg7_1
  try simp [go_sem] at hk7_1
  go_wp2_with fail
  refine bodyPost_ret (v := .tuple #[.agg #[.int .i64 0, .int .i64 0, .int .i64 0], .bool false]) ?_ rfl ?_
  · simp only [results, Try.results12]
    go_simp
  refine ⟨?_, ?_⟩
  · exact ret_vb2 H.out
  go_light
  repeat (first | (with_reducible exact Below.refl _ _) | (with_reducible refine Bal ?_ _) | (with_reducible refine Below.drew ?_) | (with_reducible refine below_drewN ?_ _) | (with_reducible refine Bset ?_ ?_ _; focus (first | (with_reducible exact Nat.le_refl _) | (simp; done) | (simp; omega) | omega)) | (with_reducible refine Bt ?_ (by assumption)) | (with_reducible refine Bp (g := g) ?_ (by assumption) (by assumption)))
set_option maxHeartbeats 1000000 in
theorem sco_good (a m b n : Int) (w : World) (g0 : 0 ≤ a ∧ a ≤ 999999) (g1 : 0 ≤ b ∧ b ≤ 999999) (g2 : 0 ≤ m ∧ m ≤ 999999) (g3 : 0 ≤ n ∧ n ≤ 999999) (hab : a < b) (hmn : m ≤ n) (hN :  OkCO a m b n) :
    Calls Try.prog 12 #[.int .i64 a, .int .i64 m, .int .i64 b, .int .i64 n] w fun e w' => e = .returned (.tuple #[coV a m b n, .bool (coO a m b n)]) ∧ Below w.heap.size w w' := by
  have H := Lib.hid (co_yes hN)
  have h0 := fun V : World => l6In_any a 0 999999 V
  simp only [inB_t (n := a) (lo := 0) (hi := 999999) g0.1 g0.2] at h0
  have H0 := Lib.hid h0
  have h1 := fun V : World => l6In_any m 0 999999 V
  simp only [inB_t (n := m) (lo := 0) (hi := 999999) g2.1 g2.2] at h1
  have H1 := Lib.hid h1
  have h2 := fun V : World => l6In_any b (a + 1) 999999 V
  simp only [inB_t (n := b) (lo := (a + 1)) (hi := 999999) (by omega) g1.2] at h2
  have H2 := Lib.hid h2
  have h3 := fun V : World => l6In_any n m 999999 V
  simp only [inB_t (n := n) (lo := m) (hi := 999999) hmn g3.2] at h3
  have H3 := Lib.hid h3
  clear h0 h1 h2 h3
  have hk : clkB a m (1000 * (n - m) / (b - a)) = true := clkB_t ⟨g0, g2, hN.2.2⟩
  have h4 := fun V : World => sclk_any a m (1000 * (n - m) / (b - a)) V
  simp only [hk] at h4
  have hcm : (n - m) * 1000 = 1000 * (n - m) := Int.mul_comm _ _
  rw [← hcm] at h4 H
  have H4 := Lib.hid h4
  clear h4 hk hN
  obtain ⟨a1, a2⟩ := g0
  obtain ⟨b1, b2⟩ := g1
  obtain ⟨m1, m2⟩ := g2
  obtain ⟨n1, n2⟩ := g3
  obtain ⟨q1, q2⟩ := div_bd ((n - m) * 1000) (b - a) (by omega) (by omega) (by omega)
  have hne : (b - a == 0) = false := by simp; omega
  clear hcm
  go_enter Try.func12, Try.ntmps12
  go_wp2_with fail
  refine (H0.out _).mono ?_
  rintro e w' ⟨rfl, rfl⟩
  go_wp2_with fail
  refine (H1.out _).mono ?_
  rintro e w' ⟨rfl, rfl⟩
  go_wp2_with fail
  refine (H2.out _).mono ?_
  rintro e w' ⟨rfl, rfl⟩
  go_wp2_with fail
  refine (H3.out _).mono ?_
  rintro e w' ⟨rfl, rfl⟩
  go_wp2_with fail
  refine (H4.out _).mono ?_
  rintro e w7 ⟨rfl, hb7⟩
  obtain ⟨hc7, hf7⟩ := bcell hb7
  have hy7 := hb7.size
  try simp at hy7
  first | (have hz7 : w.heap.size < w7.heap.size := by (have := hb7.size; (try simp at this); omega)) | skip
  have ho7_0 : w.heap.size < w7.heap.size := by (have := hb7.size; (try simp at this); omega)
  have hg7_0 := fun o => hc7 (w.heap.size) o (by first | (simp; done) | (simp; omega) | omega)
  have hk7_0 := fun o => hf7 (w.heap.size) o (by first | (simp; done) | (simp; omega) | omega)
  try simp [go_sem] at hg7_0
  try simp [go_sem] at hk7_0
  have ho7_1 : w.heap.size + 1 < w7.heap.size := by (have := hb7.size; (try simp at this); omega)
  have hg7_1 := fun o => hc7 (w.heap.size + 1) o (by first | (simp; done) | (simp; omega) | omega)
  have hk7_1 := fun o => hf7 (w.heap.size + 1) o (by first | (simp; done) | (simp; omega) | omega)
  try simp [go_sem] at hg7_1
  try simp [go_sem] at hk7_1
  go_wp2_with fail
  refine bodyPost_ret (v := .tuple #[.agg #[.int .i64 a, .int .i64 m, .int .i64 ((n - m) * 1000 / (b - a))], .bool true]) ?_ rfl ?_
  · simp only [results, Try.results12]
    go_simp
  refine ⟨?_, ?_⟩
  · exact ret_vb2 H.out
  go_light
  repeat (first | (with_reducible exact Below.refl _ _) | (with_reducible refine Bal ?_ _) | (with_reducible refine Below.drew ?_) | (with_reducible refine below_drewN ?_ _) | (with_reducible refine Bset ?_ ?_ _; focus (first | (with_reducible exact Nat.le_refl _) | (simp; done) | (simp; omega) | omega)) | (with_reducible refine Bt ?_ (by assumption)) | (with_reducible refine Bp (g := g) ?_ (by assumption) (by assumption)))
theorem sco_any (a m b n : Int) (w : World) :
    Calls Try.prog 12 #[.int .i64 a, .int .i64 m, .int .i64 b, .int .i64 n] w fun e w' => e = .returned (.tuple #[coV a m b n, .bool (coO a m b n)]) ∧ Below w.heap.size w w' := by
  by_cases h : OkCO a m b n
  · obtain ⟨⟨g0, g1, g2, g3⟩, ⟨hab, hmn⟩, hr⟩ := h
    exact sco_good a m b n w g0 g1 g2 g3 hab hmn ⟨⟨g0, g1, g2, g3⟩, ⟨hab, hmn⟩, hr⟩
  · cases t0 : inB a 0 999999
    · exact sco_bad0 a m b n w t0 h
    cases t1 : inB m 0 999999
    · exact sco_bad1 a m b n w t0 t1 h
    cases t2 : inB b (a + 1) 999999
    · exact sco_bad2 a m b n w t0 t1 t2 h
    cases t3 : inB n m 999999
    · exact sco_bad3 a m b n w t0 t1 t2 t3 h
    simp only [inB, Bool.and_eq_true, decide_eq_true_eq] at t0 t1 t2 t3
    exact sco_bad4 a m b n w t0 ⟨by omega, by omega⟩ t1 ⟨by omega, by omega⟩ (by omega) t3.1 h
end Go.Proofs.Ytiljiiifalhggaa
