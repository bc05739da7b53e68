/- Stats of a first packet are valid, and nothing is missing. -/
import Derived.Test.YtmidpodoapggnaaSta
import Derived.Test.YtmidpodoapggnaaDrs
namespace Go.Proofs.Ytmidpodoapggnaa
open Go Go.RowKit
set_option linter.unusedVariables false
set_option linter.unusedSimpArgs false
set_option maxHeartbeats 2000000 in
theorem svalid_new (a t : Int) (w : World) (h0 : 0 ≤ a) (h1 : a ≤ 999999) (t0 : -99999 ≤ t) (t1 : t ≤ 99999) :
    Calls Try.prog 17 #[.agg #[.int .i64 a, .int .i64 a, .int .i64 1, .int .i64 0, .int .i64 t]] w fun e w' => e = .returned (.bool true) ∧ Below w.heap.size w w' := by
  have hv := fun W : World => wideValid_any a W
  rw [inB_t h0 h1] at hv
  have HV := Lib.hid hv
  clear hv
  go_enter Try.func17, Try.ntmps17
  go_wp2_with (go_at_call 50; refine (HV.out _).mono ?_; rintro e w' ⟨rfl, rfl⟩)
  go_ret
  exact ⟨rfl, Ba _ _⟩
set_option maxHeartbeats 2000000 in
theorem slost_new (a t : Int) (w : World) (h0 : 0 ≤ a) (h1 : a ≤ 999999) (t0 : -99999 ≤ t) (t1 : t ≤ 99999) :
    Calls Try.prog 18 #[.agg #[.int .i64 a, .int .i64 a, .int .i64 1, .int .i64 0, .int .i64 t]] w fun e w' => e = .returned (.int .i64 0) ∧ Below w.heap.size w w' := by
  have HV := Lib.hid fun W : World => svalid_new a t W h0 h1 t0 t1
  go_enter Try.func18, Try.ntmps18
  go_wp2_with fail
  refine (HV.out _).mono ?_
  rintro e w1 ⟨rfl, hb1⟩
  obtain ⟨hc1, hf1⟩ := bcell hb1
  have hy1 := hb1.size
  try simp at hy1
  first | (have hz1 : w.heap.size < w1.heap.size := by (have := hb1.size; (try simp at this); omega)) | skip
  have ho1_0 : w.heap.size < w1.heap.size := by (have := hb1.size; (try simp at this); omega)
  have hg1_0 := fun o => hc1 (w.heap.size) o (by first | (simp; done) | (simp; omega) | omega)
  have hk1_0 := fun o => hf1 (w.heap.size) o (by first | (simp; done) | (simp; omega) | omega)
  try simp [go_sem] at hg1_0
  try simp [go_sem] at hk1_0
  go_wp2_with fail
  go_ret
  go_light
  refine ⟨ret_int (by omega), ?_⟩
  repeat (first | (with_reducible exact Below.refl _ _) | (with_reducible refine Bal ?_ _) | (with_reducible refine Below.drew ?_) | (with_reducible refine below_drewN ?_ _) | (with_reducible refine Bset ?_ ?_ _; focus (first | (with_reducible exact Nat.le_refl _) | (simp; done) | (simp; omega) | omega)) | (with_reducible refine Bt ?_ (by assumption)) | (with_reducible refine Bp (g := g) ?_ (by assumption) (by assumption)))
set_option maxHeartbeats 2000000 in
theorem draw_stats (w : World) (A : Option Addr) (n c : Nat) (h : IsInts .u8 w A n c) (hn : n ≤ 1048576) :
    Calls Try.prog 14 #[.slice A n c] w (Made3 w) := by
  have H := Lib.hid h
  clear h
  go_enter Try.func14, Try.ntmps14
  go_wp2_with fail
  refine (open_any _ A n c (H.out.below (by repeat (first | (with_reducible exact Below.refl _ _) | (with_reducible refine Bal ?_ _) | (with_reducible refine Below.drew ?_) | (with_reducible refine below_drewN ?_ _) | (with_reducible refine Bset ?_ ?_ _; focus (first | (with_reducible exact Nat.le_refl _) | (simp; done) | (simp; omega) | omega)) | (with_reducible refine Bt ?_ (by assumption)) | (with_reducible refine Bp (g := g) ?_ (by assumption) (by assumption))))) hn).mono ?_
  rintro e w0 ⟨g, rfl, hgo, hR0, hb0⟩
  obtain ⟨hc0, hf0⟩ := bcell hb0
  have hy0 := hb0.size
  try simp at hy0
  try simp at hgo
  have hgo2 : w.heap.size ≤ g := by omega
  have hgl := hR0.lt
  go_wp2_with fail
  refine (three_draw _ g 0 (by repeat (first | assumption | (with_reducible refine RdLe.drew ?_) | (with_reducible refine RdLe.drewN ?_ _) | (with_reducible refine RdLe.alloc ?_ _) | (with_reducible refine RdLe.setC ?_ ?_ _; focus (first | (simp; done) | (simp; omega) | omega)))) (by omega)).mono ?_
  rintro e w1 ⟨a1, b1, c1, rfl, hR1, hb1⟩
  obtain ⟨hc1, hf1⟩ := hb1.cells
  have hy1 := hb1.size
  try simp at hy1
  go_wp2_with fail
  refine bodyPost_retE rfl ?_
  apply Exists.intro
  refine ⟨?_, ?_⟩
  · simp only [results, Try.results14]
    go_simp
    first | done | rfl
  go_light
  refine ⟨_, _, _, rfl, ?_⟩
  repeat (first | (with_reducible exact Below.refl _ _) | (with_reducible refine Bal ?_ _) | (with_reducible refine Below.drew ?_) | (with_reducible refine below_drewN ?_ _) | (with_reducible refine Bset ?_ ?_ _; focus (first | (with_reducible exact Nat.le_refl _) | (simp; done) | (simp; omega) | omega)) | (with_reducible refine Bt ?_ (by assumption)) | (with_reducible refine Bp (g := g) ?_ (by assumption) (by assumption)))
end Go.Proofs.Ytmidpodoapggnaa
