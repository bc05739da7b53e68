/- The draw of a packet. -/
import Derived.Test.YtegdogamenoaiaaBsk
namespace Go.Proofs.Ytegdogamenoaiaa
open Go Go.RowKit
set_option linter.unusedVariables false
set_option linter.unusedSimpArgs false
set_option maxHeartbeats 4000000 in
theorem draw_ball (w : World) (A : Option Addr) (n c : Nat) (h : IsInts .u8 w A n c) (hn : n ≤ 1048576) :
    Calls Try.prog 40 #[.slice A n c] w (MadeBN w) := by
  have H := Lib.hid h
  clear h
  go_enter Try.func40, Try.ntmps40
  go_wp2_with fail
  refine (draw_btakeL _ A n c (H.out.below (by repeat (first | (with_reducible exact Below.refl _ _) | (with_reducible refine Bal ?_ _) | (with_reducible refine Below.drew ?_) | (with_reducible refine below_drewN ?_ _) | (with_reducible refine Bset ?_ ?_ _; focus (first | (with_reducible exact Nat.le_refl _) | (simp; done) | (simp; omega) | omega)) | (with_reducible refine Bt ?_ (by assumption)) | (with_reducible refine Bp (g := g) ?_ (by assumption) (by assumption))))) hn).mono ?_
  rintro e w1 ⟨y, d, A1, m, c1, q, now, hr1, hmc, hm, rfl, hb1⟩
  obtain ⟨hc1, hf1⟩ := bcell hb1
  have hy1 := hb1.size
  try simp at hy1
  have hz1 : w.heap.size < w1.heap.size := by omega
  have hg1_0 := fun o => hc1 (w.heap.size) o (by first | (simp; done) | (simp; omega) | omega)
  have hk1_0 := fun o => hf1 (w.heap.size) o (by first | (simp; done) | (simp; omega) | omega)
  try simp [go_sem] at hg1_0
  try simp [go_sem] at hk1_0
  have HR := Lib.hid hr1
  clear hr1
  go_wp2_with fail
  refine bodyPost_ret (v := .tuple #[.agg #[.int .i64 y, .int .i64 d, .slice A1 m c1], .int .i64 now]) ?_ rfl ?_
  · simp only [results, Try.results40]
    go_simp
  refine ⟨y, d, A1, m, c1, q, now, ?_, hmc, hm, rfl, ?_⟩
  · exact (((HR.out.setC (p := ⟨w.heap.size, 0, none⟩) (Or.inl (by simp)) (.int .i64 y)).setC (p := ⟨w.heap.size, 1, none⟩) (Or.inl (by simp)) (.int .i64 d)).setC (p := ⟨w.heap.size, 2, none⟩) (Or.inl (by simp)) (.slice A1 m c1)).wide (Nat.zero_le _) (by simp [World.setCell])
  repeat (first | (with_reducible exact Below.refl _ _) | (with_reducible refine Bal ?_ _) | (with_reducible refine Below.drew ?_) | (with_reducible refine below_drewN ?_ _) | (with_reducible refine Bset ?_ ?_ _; focus (first | (with_reducible exact Nat.le_refl _) | (simp; done) | (simp; omega) | omega)) | (with_reducible refine Bt ?_ (by assumption)) | (with_reducible refine Bp (g := g) ?_ (by assumption) (by assumption)))
end Go.Proofs.Ytegdogamenoaiaa
