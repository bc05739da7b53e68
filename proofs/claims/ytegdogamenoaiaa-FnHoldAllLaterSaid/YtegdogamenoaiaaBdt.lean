/- The draws of a buffer; when a packet is taken, as calls. -/
import Derived.Test.YtegdogamenoaiaaBdr
namespace Go.Proofs.Ytegdogamenoaiaa
open Go Go.RowKit
set_option linter.unusedVariables false
set_option linter.unusedSimpArgs false
def MadeBuf (w : World) (e : Ending) (w' : World) : Prop :=
  ∃ (y d : Int) (A : Option Addr) (n c : Nat) (q : Nat → Hd), RowAt w' 0 w'.heap.size A n 7 (HdF q) ∧ n ≤ c ∧ n ≤ 14 ∧ e = .returned (.agg #[.int .i64 y, .int .i64 d, .slice A n c]) ∧ Below w.heap.size w w'
set_option maxHeartbeats 4000000 in
theorem draw_btime (w : World) (A : Option Addr) (n c : Nat) (h : IsInts .u8 w A n c) (hn : n ≤ 1048576) :
    Calls Try.prog 32 #[.slice A n c] w (MadeBuf w) := by
  have H := Lib.hid h
  clear h
  go_enter Try.func32, Try.ntmps32
  go_wp2_with fail
  refine (open_any _ A n c (H.out.below (by repeat (first | (with_reducible exact Below.refl _ _) | (with_reducible refine Bal ?_ _) | (with_reducible refine Below.drew ?_) | (with_reducible refine below_drewN ?_ _) | (with_reducible refine Bset ?_ ?_ _; focus (first | (with_reducible exact Nat.le_refl _) | (simp; done) | (simp; omega) | omega)) | (with_reducible refine Bt ?_ (by assumption)) | (with_reducible refine Bp (g := g) ?_ (by assumption) (by assumption))))) hn).mono ?_
  rintro e w0 ⟨g, rfl, hgo, hR0, hb0⟩
  obtain ⟨hc0, hf0⟩ := bcell hb0
  have hy0 := hb0.size
  try simp at hy0
  try simp at hgo
  have hgo2 : w.heap.size ≤ g := by omega
  have hgl := hR0.lt
  have hg0_0 := fun o => hc0 (w.heap.size) o (by first | (simp; done) | (simp; omega) | omega)
  have hk0_0 := fun o => hf0 (w.heap.size) o (by first | (simp; done) | (simp; omega) | omega)
  try simp [go_sem] at hg0_0
  try simp [go_sem] at hk0_0
  go_wp2_with fail
  refine (buffer_draw _ g 0 (by repeat (first | assumption | (with_reducible refine RdLe.drew ?_) | (with_reducible refine RdLe.drewN ?_ _) | (with_reducible refine RdLe.alloc ?_ _) | (with_reducible refine RdLe.setC ?_ ?_ _; focus (first | (simp; done) | (simp; omega) | omega)))) (by omega)).mono ?_
  rintro e w1 ⟨y, d, now, A1, m, c1, q, rfl, hr1, hmc, hm, hR1, hb1⟩
  obtain ⟨hc1, hf1⟩ := hb1.cells
  have hy1 := hb1.size
  try simp at hy1
  have hne : ¬ w.heap.size = g := by omega
  have hne2 : w.heap.size ≠ g := hne
  have hz1 : w.heap.size < w1.heap.size := by omega
  have hg1_0 := fun o => hc1 (w.heap.size) o (by first | (simp; done) | (simp; omega) | omega) hne2
  have hk1_0 := fun o => hf1 (w.heap.size) o (by first | (simp; done) | (simp; omega) | omega) hne2
  try simp [go_sem] at hg1_0
  try simp [go_sem] at hk1_0
  have hW1 : Below w.heap.size w w1 := (show Below w.heap.size w w0 by repeat (first | (with_reducible exact Below.refl _ _) | (with_reducible refine Bal ?_ _) | (with_reducible refine Below.drew ?_) | (with_reducible refine below_drewN ?_ _) | (with_reducible refine Bset ?_ ?_ _; focus (first | (with_reducible exact Nat.le_refl _) | (simp; done) | (simp; omega) | omega)) | (with_reducible refine Bt ?_ (by assumption)) | (with_reducible refine Bp (g := g) ?_ (by assumption) (by assumption)))).trans ((hb1.mono (B' := w.heap.size) (by omega)).below (by omega))
  go_wp2_with fail
  refine bodyPost_ret (v := .agg #[.int .i64 y, .int .i64 d, .slice A1 m c1]) ?_ rfl ?_
  · simp only [results, Try.results32]
    go_simp
  refine ⟨y, d, A1, m, c1, q, ?_, hmc, hm, rfl, ?_⟩
  · have h1 := (((hr1.setC (p := ⟨w.heap.size, 0, none⟩) (Or.inl (by show w.heap.size < w0.heap.size; omega)) (.int .i64 y)).setC (p := ⟨w.heap.size, 1, none⟩) (Or.inl (by show w.heap.size < w0.heap.size; omega)) (.int .i64 d)).setC (p := ⟨w.heap.size, 2, none⟩) (Or.inl (by show w.heap.size < w0.heap.size; omega)) (.slice A1 m c1)).wide (Nat.zero_le _) (Nat.le_refl _)
    first | exact h1 | (refine RowAt.wide (RowAt.alloc (by simp [World.setCell]) h1 _) (Nat.le_refl _) (by simp [World.setCell]))
  · repeat (first | (with_reducible exact hW1) | (with_reducible refine Below.drew ?_) | (with_reducible refine Bal ?_ _) | (refine Bset ?_ ?_ _; focus (first | (simp; done) | (simp; omega) | omega)))
theorem itk_yes (w : World) (lo hi : Nat) (A : Option Addr) (n c : Nat) (y d now : Int) (q : Nat → Hd) (hk : tkOk y d n q now) (h : RowAt w lo hi A n 7 (HdF q)) (hi' : hi ≤ w.heap.size) (hn : n ≤ 1048576) :
    Calls Try.prog 19 #[.agg #[.int .i64 y, .int .i64 d, .slice A n c], .int .i64 now] w fun e w' => ∃ A5 c5, e = .returned (.tuple #[.agg #[.int .i64 ((q 0).p.w + 1), .int .i64 d, .slice A5 (n - 1) c5], .agg #[.int .i64 (q 0).p.w, .int .i64 (q 0).p.t, .int .i64 (q 0).p.l, .int .i64 (q 0).p.s, .bool (q 0).p.k, .bool (q 0).p.z], .bool true]) ∧ Below w.heap.size w w' :=
  (ibk_any w lo hi A n c y d now q h hi' hn).mono fun e w' hr => by
    rcases hr with ⟨h1, _⟩ | ⟨_, A5, c5, he, _, hb⟩
    · exact absurd hk h1
    · exact ⟨A5, c5, he, hb⟩
theorem itk_no (w : World) (lo hi : Nat) (A : Option Addr) (n c : Nat) (y d now : Int) (q : Nat → Hd) (hk : ¬ tkOk y d n q now) (h : RowAt w lo hi A n 7 (HdF q)) (hi' : hi ≤ w.heap.size) (hn : n ≤ 1048576) :
    Calls Try.prog 19 #[.agg #[.int .i64 y, .int .i64 d, .slice A n c], .int .i64 now] w fun e w' => e = .returned (.tuple #[.agg #[.int .i64 0, .int .i64 0, .slice none 0 0], .agg #[.int .i64 0, .int .i64 0, .int .i64 0, .int .i64 0, .bool false, .bool false], .bool false]) ∧ Below w.heap.size w w' :=
  (ibk_any w lo hi A n c y d now q h hi' hn).mono fun e w' hr => by
    rcases hr with ⟨_, he, hb⟩ | ⟨h1, _⟩
    · exact ⟨he, hb⟩
    · exact absurd h1 hk
/-- From that time on, and not before. -/
theorem bt_range {y d : Int} {n : Nat} {q : Nat → Hd} (h : 0 ≤ btI y d n q) : btI y d n q ≤ 100998 ∧ tkOk y d n q (btI y d n q) ∧ ¬ tkOk y d n q (btI y d n q - 1) := by
  have hh := h
  unfold btI at hh
  by_cases h1 : BfOk y d n q ∧ 0 < n
  · have h2 := (h1.1.2.2.2 0 h1.2).2.1
    have h3 := h1.1.2.1
    have hr : btI y d n q ≤ 100998 := by
      unfold btI
      rw [if_pos h1]
      split <;> omega
    exact ⟨hr, bt_ok h (Int.le_refl _) ⟨h, hr⟩, bt_late (by omega)⟩
  · rw [if_neg h1] at hh; omega
end Go.Proofs.Ytegdogamenoaiaa
