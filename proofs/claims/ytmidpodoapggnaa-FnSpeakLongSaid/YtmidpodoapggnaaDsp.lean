/- The draws of the laws on speakers. -/
import Derived.Test.YtmidpodoapggnaaAny
import Derived.Test.YtmidpodoapggnaaInts
import Derived.Test.YtmidpodoapggnaaSpk
namespace Go.Proofs.Ytmidpodoapggnaa
open Go Go.RowKit
set_option linter.unusedVariables false
set_option linter.unusedSimpArgs false

/-- What the draw of a speaker leaves. -/
def DrawnS (g k : Nat) (w : World) (e : Ending) (w' : World) : Prop := ∃ a b c : Int, (-1 ≤ b ∧ b ≤ 3) ∧ e = .returned (.agg #[.int .i64 a, .int .i64 b, .int .i64 c]) ∧ RdLe w' g k ∧ Past g w.heap.size w w'
def MadeS (w : World) (e : Ending) (w' : World) : Prop := ∃ a b c : Int, e = .returned (.agg #[.int .i64 a, .int .i64 b, .int .i64 c]) ∧ Below w.heap.size w w'
theorem rem4_bd {x y : Int} (h0 : 0 ≤ x) (h1 : x ≤ 3) (h2 : 0 ≤ y) (h3 : y ≤ 1) : -1 ≤ (IntKind.i64.wrap (IntKind.i64.wrap (x + 1) + y)).tmod 4 ∧ (IntKind.i64.wrap (IntKind.i64.wrap (x + 1) + y)).tmod 4 ≤ 3 := by
  rw [IntWalk.i64_in (x + 1) ⟨by omega, by omega⟩, IntWalk.i64_in _ ⟨by omega, by omega⟩, Int.tmod_eq_emod_of_nonneg (by omega)]
  omega
set_option maxHeartbeats 4000000 in
theorem speaker_draw (w : World) (g k : Nat) (h : RdLe w g k) (hk : k ≤ 999900) :
    Calls Try.prog 51 #[.pointer (some ⟨g, 0, none⟩)] w (DrawnS g (k + 20) w) := by
  have hg := h.lt
  go_enter Try.func51, Try.ntmps51
  go_wp2_with fail
  refine (pk _ g (k) _ (by repeat (first | assumption | (with_reducible refine RdLe.drew ?_) | (with_reducible refine RdLe.drewN ?_ _) | (with_reducible refine RdLe.alloc ?_ _) | (with_reducible refine RdLe.setC ?_ ?_ _; focus (first | (simp; done) | (simp; omega) | omega)))) (by omega) (by omega) (by omega)).mono ?_
  rintro e w1 ⟨⟨v1, ⟨vl1, vh1⟩, rfl, hR1, hb1⟩, hs1⟩
  obtain ⟨hc1, hf1⟩ := hb1.cells
  have hy1 := hb1.size
  try simp at hy1
  try simp at hs1
  have ho1_0 : w.heap.size < w1.heap.size := by (have := hb1.size; (try simp at this); omega)
  have hg1_0 := fun o => hc1 (w.heap.size) o (by first | (simp; done) | (simp; omega) | omega) (by first | (simp; done) | (simp; omega) | omega)
  have hk1_0 := fun o => hf1 (w.heap.size) o (by first | (simp; done) | (simp; omega) | omega) (by first | (simp; done) | (simp; omega) | omega)
  try simp [go_sem] at hg1_0
  try simp [go_sem] at hk1_0
  clear hs1
  have hne0 : w.heap.size ≠ g := by omega
  have hne1 : w1.heap.size ≠ g := by omega
  have hne2 : w1.heap.size ≠ w.heap.size := by omega
  have hne3 : w.heap.size ≠ w1.heap.size := by omega
  have hlt0 : w.heap.size < w1.heap.size + 1 := by omega
  have hlt1 : w.heap.size < w1.heap.size + 1 + 1 := by omega
  go_wp2_with fail
  refine (pk _ g (k + 1) _ (by repeat (first | assumption | (with_reducible refine RdLe.drew ?_) | (with_reducible refine RdLe.drewN ?_ _) | (with_reducible refine RdLe.alloc ?_ _) | (with_reducible refine RdLe.setC ?_ ?_ _; focus (first | (simp; done) | (simp; omega) | omega)))) (by omega) (by omega) (by omega)).mono ?_
  rintro e w2 ⟨⟨v2, ⟨vl2, vh2⟩, rfl, hR2, hb2⟩, hs2⟩
  obtain ⟨hc2, hf2⟩ := hb2.cells
  have hy2 := hb2.size
  try simp at hy2
  try simp at hs2
  have ho2_0 : w.heap.size < w2.heap.size := by (have := hb2.size; (try simp at this); omega)
  have hg2_0 := fun o => hc2 (w.heap.size) o (by first | (simp; done) | (simp; omega) | omega) (by first | (simp; done) | (simp; omega) | omega)
  have hk2_0 := fun o => hf2 (w.heap.size) o (by first | (simp; done) | (simp; omega) | omega) (by first | (simp; done) | (simp; omega) | omega)
  try simp [go_sem] at hg2_0
  try simp [go_sem] at hk2_0
  have ho2_1 : w1.heap.size < w2.heap.size := by (have := hb2.size; (try simp at this); omega)
  have hg2_1 := fun o => hc2 (w1.heap.size) o (by first | (simp; done) | (simp; omega) | omega) (by first | (simp; done) | (simp; omega) | omega)
  have hk2_1 := fun o => hf2 (w1.heap.size) o (by first | (simp; done) | (simp; omega) | omega) (by first | (simp; done) | (simp; omega) | omega)
  try simp [go_sem] at hg2_1
  try simp [go_sem] at hk2_1
  rcases (by omega : v2 = 0 ∨ v2 = 1 ∨ v2 = 2 ∨ v2 = 3) with rfl | rfl | rfl | rfl
  · skip
    go_wp2_with fail
    refine (pk _ g (k + 1 + 1) _ (by repeat (first | assumption | (with_reducible refine RdLe.drew ?_) | (with_reducible refine RdLe.drewN ?_ _) | (with_reducible refine RdLe.alloc ?_ _) | (with_reducible refine RdLe.setC ?_ ?_ _; focus (first | (simp; done) | (simp; omega) | omega)))) (by omega) (by omega) (by omega)).mono ?_
    rintro e w3 ⟨⟨v3, ⟨vl3, vh3⟩, rfl, hR3, hb3⟩, hs3⟩
    obtain ⟨hc3, hf3⟩ := hb3.cells
    have hy3 := hb3.size
    try simp at hy3
    try simp at hs3
    have ho3_0 : w.heap.size < w3.heap.size := by (have := hb3.size; (try simp at this); omega)
    have hg3_0 := fun o => hc3 (w.heap.size) o (by first | (simp; done) | (simp; omega) | omega) (by first | (simp; done) | (simp; omega) | omega)
    have hk3_0 := fun o => hf3 (w.heap.size) o (by first | (simp; done) | (simp; omega) | omega) (by first | (simp; done) | (simp; omega) | omega)
    try simp [go_sem] at hg3_0
    try simp [go_sem] at hk3_0
    have ho3_1 : w1.heap.size < w3.heap.size := by (have := hb3.size; (try simp at this); omega)
    have hg3_1 := fun o => hc3 (w1.heap.size) o (by first | (simp; done) | (simp; omega) | omega) (by first | (simp; done) | (simp; omega) | omega)
    have hk3_1 := fun o => hf3 (w1.heap.size) o (by first | (simp; done) | (simp; omega) | omega) (by first | (simp; done) | (simp; omega) | omega)
    try simp [go_sem] at hg3_1
    try simp [go_sem] at hk3_1
    by_cases h3 : v3 = 0
    · subst h3
      go_wp2_with fail
      refine (pk _ g (k + 1 + 1 + 1) _ (by repeat (first | assumption | (with_reducible refine RdLe.drew ?_) | (with_reducible refine RdLe.drewN ?_ _) | (with_reducible refine RdLe.alloc ?_ _) | (with_reducible refine RdLe.setC ?_ ?_ _; focus (first | (simp; done) | (simp; omega) | omega)))) (by omega) (by omega) (by omega)).mono ?_
      rintro e w4 ⟨⟨v4, ⟨vl4, vh4⟩, rfl, hR4, hb4⟩, hs4⟩
      obtain ⟨hc4, hf4⟩ := hb4.cells
      have hy4 := hb4.size
      try simp at hy4
      try simp at hs4
      have ho4_0 : w.heap.size < w4.heap.size := by (have := hb4.size; (try simp at this); omega)
      have hg4_0 := fun o => hc4 (w.heap.size) o (by first | (simp; done) | (simp; omega) | omega) (by first | (simp; done) | (simp; omega) | omega)
      have hk4_0 := fun o => hf4 (w.heap.size) o (by first | (simp; done) | (simp; omega) | omega) (by first | (simp; done) | (simp; omega) | omega)
      try simp [go_sem] at hg4_0
      try simp [go_sem] at hk4_0
      have ho4_1 : w1.heap.size < w4.heap.size := by (have := hb4.size; (try simp at this); omega)
      have hg4_1 := fun o => hc4 (w1.heap.size) o (by first | (simp; done) | (simp; omega) | omega) (by first | (simp; done) | (simp; omega) | omega)
      have hk4_1 := fun o => hf4 (w1.heap.size) o (by first | (simp; done) | (simp; omega) | omega) (by first | (simp; done) | (simp; omega) | omega)
      try simp [go_sem] at hg4_1
      try simp [go_sem] at hk4_1
      have ho4_2 : w1.heap.size + 1 < w4.heap.size := by (have := hb4.size; (try simp at this); omega)
      have hg4_2 := fun o => hc4 (w1.heap.size + 1) o (by first | (simp; done) | (simp; omega) | omega) (by first | (simp; done) | (simp; omega) | omega)
      have hk4_2 := fun o => hf4 (w1.heap.size + 1) o (by first | (simp; done) | (simp; omega) | omega) (by first | (simp; done) | (simp; omega) | omega)
      try simp [go_sem] at hg4_2
      try simp [go_sem] at hk4_2
      obtain ⟨R4, hL4⟩ : ∃ R : Int, w4.cell? ⟨w1.heap.size + 1, v4.toNat, none⟩ = some (.int .i64 R) := by
        rcases (by omega : v4 = 0 ∨ v4 = 1 ∨ v4 = 2) with rfl | rfl | rfl <;> (apply Exists.intro; go_simp; try rfl)
      clear hg4_2; (try clear hc4)
      go_wp2_with fail
      refine bodyPost_retE rfl ?_
      apply Exists.intro
      refine ⟨?_, ?_⟩
      · simp only [results, Try.results51]
        go_simp
        first | done | rfl
      go_light
      refine ⟨_, _, _, ⟨by omega, by omega⟩, rfl, RdLe.mono (k := k + 1 + 1 + 1 + 1) (by repeat (first | assumption | (with_reducible refine RdLe.drew ?_) | (with_reducible refine RdLe.drewN ?_ _) | (with_reducible refine RdLe.alloc ?_ _) | (with_reducible refine RdLe.setC ?_ ?_ _; focus (first | (simp; done) | (simp; omega) | omega)))) (by omega), ?_⟩
      repeat (first | (with_reducible exact Past.refl _ _ _) | (with_reducible refine Past.alloc ?_ (by simp) _) | (with_reducible refine Past.drew ?_) | (with_reducible refine Past.drewN ?_ _) | (with_reducible refine Past.setC ?_ ?_ _; focus (first | (with_reducible exact Nat.le_refl _) | (simp; done) | (simp; omega) | omega)) | (with_reducible refine Past.step ?_ (by simp) (by assumption)))
    · go_wp2_with fail
      refine bodyPost_retE rfl ?_
      apply Exists.intro
      refine ⟨?_, ?_⟩
      · simp only [results, Try.results51]
        go_simp
        first | done | rfl
      go_light
      refine ⟨_, _, _, ⟨by omega, by omega⟩, rfl, RdLe.mono (k := k + 1 + 1 + 1) (by repeat (first | assumption | (with_reducible refine RdLe.drew ?_) | (with_reducible refine RdLe.drewN ?_ _) | (with_reducible refine RdLe.alloc ?_ _) | (with_reducible refine RdLe.setC ?_ ?_ _; focus (first | (simp; done) | (simp; omega) | omega)))) (by omega), ?_⟩
      repeat (first | (with_reducible exact Past.refl _ _ _) | (with_reducible refine Past.alloc ?_ (by simp) _) | (with_reducible refine Past.drew ?_) | (with_reducible refine Past.drewN ?_ _) | (with_reducible refine Past.setC ?_ ?_ _; focus (first | (with_reducible exact Nat.le_refl _) | (simp; done) | (simp; omega) | omega)) | (with_reducible refine Past.step ?_ (by simp) (by assumption)))
  · go_wp2_with fail
    refine wp_region_mixG g (g) (by kernel_rfl) (by kernel_rfl) ?_
    repeat' (first
      | (refine mix_skip rfl ?_; have e0 : True := trivial; clear e0; refine mix_putK ?_; intro K hK; go_simp; refine hK _ ?_; clear hK K)
      | (refine mix_readE rfl rfl rfl ?_; apply Exists.intro; refine ⟨fun w' hb' => ?_, ?_⟩; (focus (obtain ⟨hc', hf'⟩ := OldG.cells hb'; clear hb'; go_simp; try exact rfl)); have e0 : True := trivial; clear e0; refine mix_putK ?_; intro K hK; go_simp; refine hK _ ?_; clear hK K)
      | (refine mix_pureE rfl rfl ?_; apply Exists.intro; refine ⟨fun w' => ?_, ?_⟩; (focus (go_simp; try exact rfl)); have e0 : True := trivial; clear e0; refine mix_putK ?_; intro K hK; go_simp; refine hK _ ?_; clear hK K)
      | (refine mix_eff rfl rfl ?_; go_wp2_with ((have hq := hR2; clear hq; go_at_call 53; refine (pk _ g (k + 1 + 1) _ (by repeat (first | assumption | (with_reducible refine RdLe.drew ?_) | (with_reducible refine RdLe.drewN ?_ _) | (with_reducible refine RdLe.alloc ?_ _) | (with_reducible refine RdLe.setC ?_ ?_ _; focus (first | (simp; done) | (simp; omega) | omega)))) (by omega) (by omega) (by omega)).mono ?_; rintro e w3 ⟨⟨v3, ⟨vl3, vh3⟩, rfl, hR3, hb3⟩, hs3⟩; obtain ⟨hc3, hf3⟩ := hb3.cells; have hy3 := hb3.size; (try simp at hy3); (try simp at hs3); have ho3_0 : w.heap.size < w3.heap.size := (by (have := hb3.size; (try simp at this); omega)); have hg3_0 := fun o => hc3 (w.heap.size) o (by first | (simp; done) | (simp; omega) | omega) (by first | (simp; done) | (simp; omega) | omega); have hk3_0 := fun o => hf3 (w.heap.size) o (by first | (simp; done) | (simp; omega) | omega) (by first | (simp; done) | (simp; omega) | omega); (try simp [go_sem] at hg3_0); (try simp [go_sem] at hk3_0); have ho3_1 : w1.heap.size < w3.heap.size := (by (have := hb3.size; (try simp at this); omega)); have hg3_1 := fun o => hc3 (w1.heap.size) o (by first | (simp; done) | (simp; omega) | omega) (by first | (simp; done) | (simp; omega) | omega); have hk3_1 := fun o => hf3 (w1.heap.size) o (by first | (simp; done) | (simp; omega) | omega) (by first | (simp; done) | (simp; omega) | omega); (try simp [go_sem] at hg3_1); (try simp [go_sem] at hk3_1))); all_goals (refine then_mix rfl ?_ ?_; focus (first | (intro h; have h2 : false = true := h; cases h2) | (intro _; repeat (first | (with_reducible exact OldG.refl _ _ _) | (with_reducible refine OldG.alloc ?_ _) | (with_reducible refine OldG.drew ?_) | (with_reducible refine OldG.drewN ?_ _) | (with_reducible refine OldG.setC ?_ ?_ _; focus (first | (with_reducible exact Or.inl (Nat.le_refl _)) | (simp; done) | (simp; omega) | omega)) | (with_reducible refine OldG.past ?_ (by assumption))))))))
    all_goals (refine mix_nil ?_)
    go_wp2_with fail
    refine (pk _ g (k + 1 + 1 + 1) _ (by repeat (first | assumption | (with_reducible refine RdLe.drew ?_) | (with_reducible refine RdLe.drewN ?_ _) | (with_reducible refine RdLe.alloc ?_ _) | (with_reducible refine RdLe.setC ?_ ?_ _; focus (first | (simp; done) | (simp; omega) | omega)))) (by omega) (by omega) (by omega)).mono ?_
    rintro e w4 ⟨⟨v4, ⟨vl4, vh4⟩, rfl, hR4, hb4⟩, hs4⟩
    obtain ⟨hc4, hf4⟩ := hb4.cells
    have hy4 := hb4.size
    try simp at hy4
    try simp at hs4
    have ho4_0 : w.heap.size < w4.heap.size := by (have := hb4.size; (try simp at this); omega)
    have hg4_0 := fun o => hc4 (w.heap.size) o (by first | (simp; done) | (simp; omega) | omega) (by first | (simp; done) | (simp; omega) | omega)
    have hk4_0 := fun o => hf4 (w.heap.size) o (by first | (simp; done) | (simp; omega) | omega) (by first | (simp; done) | (simp; omega) | omega)
    try simp [go_sem] at hg4_0
    try simp [go_sem] at hk4_0
    have ho4_1 : w1.heap.size < w4.heap.size := by (have := hb4.size; (try simp at this); omega)
    have hg4_1 := fun o => hc4 (w1.heap.size) o (by first | (simp; done) | (simp; omega) | omega) (by first | (simp; done) | (simp; omega) | omega)
    have hk4_1 := fun o => hf4 (w1.heap.size) o (by first | (simp; done) | (simp; omega) | omega) (by first | (simp; done) | (simp; omega) | omega)
    try simp [go_sem] at hg4_1
    try simp [go_sem] at hk4_1
    obtain ⟨N, hB3, qN⟩ : ∃ N : Int, (-1 ≤ N ∧ N ≤ 3) ∧ w4.cell? ⟨w1.heap.size, 1, none⟩ = some (.int .i64 N) := ⟨(v1 + 1 + v3) % 4, by omega, by go_simp⟩
    have qx0 : w4.cell? ⟨w1.heap.size, 0, none⟩ = some (.int .i64 v1) := by go_simp
    obtain ⟨x2, qx2⟩ : ∃ x, w4.cell? ⟨w1.heap.size, 2, none⟩ = some x := by (apply Exists.intro; go_simp; try rfl)
    clear hg4_1 hc4
    go_wp2_with fail
    refine (pk _ g (k + 1 + 1 + 1 + 1) _ (by repeat (first | assumption | (with_reducible refine RdLe.drew ?_) | (with_reducible refine RdLe.drewN ?_ _) | (with_reducible refine RdLe.alloc ?_ _) | (with_reducible refine RdLe.setC ?_ ?_ _; focus (first | (simp; done) | (simp; omega) | omega)))) (by omega) (by omega) (by omega)).mono ?_
    rintro e w5 ⟨⟨v5, ⟨vl5, vh5⟩, rfl, hR5, hb5⟩, hs5⟩
    obtain ⟨hc5, hf5⟩ := hb5.cells
    have hy5 := hb5.size
    try simp at hy5
    try simp at hs5
    have ho5_0 : w.heap.size < w5.heap.size := by (have := hb5.size; (try simp at this); omega)
    have hg5_0 := fun o => hc5 (w.heap.size) o (by first | (simp; done) | (simp; omega) | omega) (by first | (simp; done) | (simp; omega) | omega)
    have hk5_0 := fun o => hf5 (w.heap.size) o (by first | (simp; done) | (simp; omega) | omega) (by first | (simp; done) | (simp; omega) | omega)
    try simp [go_sem] at hg5_0
    try simp [go_sem] at hk5_0
    have ho5_1 : w1.heap.size < w5.heap.size := by (have := hb5.size; (try simp at this); omega)
    have hg5_1 := fun o => hc5 (w1.heap.size) o (by first | (simp; done) | (simp; omega) | omega) (by first | (simp; done) | (simp; omega) | omega)
    have hk5_1 := fun o => hf5 (w1.heap.size) o (by first | (simp; done) | (simp; omega) | omega) (by first | (simp; done) | (simp; omega) | omega)
    try simp [go_sem] at hg5_1
    try simp [go_sem] at hk5_1
    by_cases h5 : v5 = 0
    · subst h5
      go_wp2_with fail
      refine (pk _ g (k + 1 + 1 + 1 + 1 + 1) _ (by repeat (first | assumption | (with_reducible refine RdLe.drew ?_) | (with_reducible refine RdLe.drewN ?_ _) | (with_reducible refine RdLe.alloc ?_ _) | (with_reducible refine RdLe.setC ?_ ?_ _; focus (first | (simp; done) | (simp; omega) | omega)))) (by omega) (by omega) (by omega)).mono ?_
      rintro e w6 ⟨⟨v6, ⟨vl6, vh6⟩, rfl, hR6, hb6⟩, hs6⟩
      obtain ⟨hc6, hf6⟩ := hb6.cells
      have hy6 := hb6.size
      try simp at hy6
      try simp at hs6
      have ho6_0 : w.heap.size < w6.heap.size := by (have := hb6.size; (try simp at this); omega)
      have hg6_0 := fun o => hc6 (w.heap.size) o (by first | (simp; done) | (simp; omega) | omega) (by first | (simp; done) | (simp; omega) | omega)
      have hk6_0 := fun o => hf6 (w.heap.size) o (by first | (simp; done) | (simp; omega) | omega) (by first | (simp; done) | (simp; omega) | omega)
      try simp [go_sem] at hg6_0
      try simp [go_sem] at hk6_0
      have ho6_1 : w1.heap.size < w6.heap.size := by (have := hb6.size; (try simp at this); omega)
      have hg6_1 := fun o => hc6 (w1.heap.size) o (by first | (simp; done) | (simp; omega) | omega) (by first | (simp; done) | (simp; omega) | omega)
      have hk6_1 := fun o => hf6 (w1.heap.size) o (by first | (simp; done) | (simp; omega) | omega) (by first | (simp; done) | (simp; omega) | omega)
      try simp [go_sem] at hg6_1
      try simp [go_sem] at hk6_1
      have ho6_2 : w1.heap.size + 1 < w6.heap.size := by (have := hb6.size; (try simp at this); omega)
      have hg6_2 := fun o => hc6 (w1.heap.size + 1) o (by first | (simp; done) | (simp; omega) | omega) (by first | (simp; done) | (simp; omega) | omega)
      have hk6_2 := fun o => hf6 (w1.heap.size + 1) o (by first | (simp; done) | (simp; omega) | omega) (by first | (simp; done) | (simp; omega) | omega)
      try simp [go_sem] at hg6_2
      try simp [go_sem] at hk6_2
      obtain ⟨R6, hL6⟩ : ∃ R : Int, w6.cell? ⟨w1.heap.size + 1, v6.toNat, none⟩ = some (.int .i64 R) := by
        rcases (by omega : v6 = 0 ∨ v6 = 1 ∨ v6 = 2) with rfl | rfl | rfl <;> (apply Exists.intro; go_simp; try rfl)
      clear hg6_2; (try clear hc6)
      go_wp2_with fail
      refine bodyPost_retE rfl ?_
      apply Exists.intro
      refine ⟨?_, ?_⟩
      · simp only [results, Try.results51]
        go_simp
        first | done | rfl
      go_light
      refine ⟨_, _, _, hB3, rfl, RdLe.mono (k := k + 1 + 1 + 1 + 1 + 1 + 1) (by repeat (first | assumption | (with_reducible refine RdLe.drew ?_) | (with_reducible refine RdLe.drewN ?_ _) | (with_reducible refine RdLe.alloc ?_ _) | (with_reducible refine RdLe.setC ?_ ?_ _; focus (first | (simp; done) | (simp; omega) | omega)))) (by omega), ?_⟩
      repeat (first | (with_reducible exact Past.refl _ _ _) | (with_reducible refine Past.alloc ?_ (by simp) _) | (with_reducible refine Past.drew ?_) | (with_reducible refine Past.drewN ?_ _) | (with_reducible refine Past.setC ?_ ?_ _; focus (first | (with_reducible exact Nat.le_refl _) | (simp; done) | (simp; omega) | omega)) | (with_reducible refine Past.step ?_ (by simp) (by assumption)))
    · go_wp2_with fail
      refine bodyPost_retE rfl ?_
      apply Exists.intro
      refine ⟨?_, ?_⟩
      · simp only [results, Try.results51]
        go_simp
        first | done | rfl
      go_light
      refine ⟨_, _, _, hB3, rfl, RdLe.mono (k := k + 1 + 1 + 1 + 1 + 1) (by repeat (first | assumption | (with_reducible refine RdLe.drew ?_) | (with_reducible refine RdLe.drewN ?_ _) | (with_reducible refine RdLe.alloc ?_ _) | (with_reducible refine RdLe.setC ?_ ?_ _; focus (first | (simp; done) | (simp; omega) | omega)))) (by omega), ?_⟩
      repeat (first | (with_reducible exact Past.refl _ _ _) | (with_reducible refine Past.alloc ?_ (by simp) _) | (with_reducible refine Past.drew ?_) | (with_reducible refine Past.drewN ?_ _) | (with_reducible refine Past.setC ?_ ?_ _; focus (first | (with_reducible exact Nat.le_refl _) | (simp; done) | (simp; omega) | omega)) | (with_reducible refine Past.step ?_ (by simp) (by assumption)))
  · go_wp2_with fail
    refine wp_region_mixG g (g) (by kernel_rfl) (by kernel_rfl) ?_
    repeat' (first
      | (refine mix_skip rfl ?_; have e0 : True := trivial; clear e0; refine mix_putK ?_; intro K hK; go_simp; refine hK _ ?_; clear hK K)
      | (refine mix_readE rfl rfl rfl ?_; apply Exists.intro; refine ⟨fun w' hb' => ?_, ?_⟩; (focus (obtain ⟨hc', hf'⟩ := OldG.cells hb'; clear hb'; go_simp; try exact rfl)); have e0 : True := trivial; clear e0; refine mix_putK ?_; intro K hK; go_simp; refine hK _ ?_; clear hK K)
      | (refine mix_pureE rfl rfl ?_; apply Exists.intro; refine ⟨fun w' => ?_, ?_⟩; (focus (go_simp; try exact rfl)); have e0 : True := trivial; clear e0; refine mix_putK ?_; intro K hK; go_simp; refine hK _ ?_; clear hK K)
      | (refine mix_eff rfl rfl ?_; go_wp2_with ((have hq := hR2; clear hq; go_at_call 53; refine (pk _ g (k + 1 + 1) _ (by repeat (first | assumption | (with_reducible refine RdLe.drew ?_) | (with_reducible refine RdLe.drewN ?_ _) | (with_reducible refine RdLe.alloc ?_ _) | (with_reducible refine RdLe.setC ?_ ?_ _; focus (first | (simp; done) | (simp; omega) | omega)))) (by omega) (by omega) (by omega)).mono ?_; rintro e w3 ⟨⟨v3, ⟨vl3, vh3⟩, rfl, hR3, hb3⟩, hs3⟩; obtain ⟨hc3, hf3⟩ := hb3.cells; have hy3 := hb3.size; (try simp at hy3); (try simp at hs3); have ho3_0 : w.heap.size < w3.heap.size := (by (have := hb3.size; (try simp at this); omega)); have hg3_0 := fun o => hc3 (w.heap.size) o (by first | (simp; done) | (simp; omega) | omega) (by first | (simp; done) | (simp; omega) | omega); have hk3_0 := fun o => hf3 (w.heap.size) o (by first | (simp; done) | (simp; omega) | omega) (by first | (simp; done) | (simp; omega) | omega); (try simp [go_sem] at hg3_0); (try simp [go_sem] at hk3_0); have ho3_1 : w1.heap.size < w3.heap.size := (by (have := hb3.size; (try simp at this); omega)); have hg3_1 := fun o => hc3 (w1.heap.size) o (by first | (simp; done) | (simp; omega) | omega) (by first | (simp; done) | (simp; omega) | omega); have hk3_1 := fun o => hf3 (w1.heap.size) o (by first | (simp; done) | (simp; omega) | omega) (by first | (simp; done) | (simp; omega) | omega); (try simp [go_sem] at hg3_1); (try simp [go_sem] at hk3_1))); all_goals (refine then_mix rfl ?_ ?_; focus (first | (intro h; have h2 : false = true := h; cases h2) | (intro _; repeat (first | (with_reducible exact OldG.refl _ _ _) | (with_reducible refine OldG.alloc ?_ _) | (with_reducible refine OldG.drew ?_) | (with_reducible refine OldG.drewN ?_ _) | (with_reducible refine OldG.setC ?_ ?_ _; focus (first | (with_reducible exact Or.inl (Nat.le_refl _)) | (simp; done) | (simp; omega) | omega)) | (with_reducible refine OldG.past ?_ (by assumption))))))))
    all_goals (refine mix_nil ?_)
    go_wp2_with fail
    refine (pk _ g (k + 1 + 1 + 1) _ (by repeat (first | assumption | (with_reducible refine RdLe.drew ?_) | (with_reducible refine RdLe.drewN ?_ _) | (with_reducible refine RdLe.alloc ?_ _) | (with_reducible refine RdLe.setC ?_ ?_ _; focus (first | (simp; done) | (simp; omega) | omega)))) (by omega) (by omega) (by omega)).mono ?_
    rintro e w4 ⟨⟨v4, ⟨vl4, vh4⟩, rfl, hR4, hb4⟩, hs4⟩
    obtain ⟨hc4, hf4⟩ := hb4.cells
    have hy4 := hb4.size
    try simp at hy4
    try simp at hs4
    have ho4_0 : w.heap.size < w4.heap.size := by (have := hb4.size; (try simp at this); omega)
    have hg4_0 := fun o => hc4 (w.heap.size) o (by first | (simp; done) | (simp; omega) | omega) (by first | (simp; done) | (simp; omega) | omega)
    have hk4_0 := fun o => hf4 (w.heap.size) o (by first | (simp; done) | (simp; omega) | omega) (by first | (simp; done) | (simp; omega) | omega)
    try simp [go_sem] at hg4_0
    try simp [go_sem] at hk4_0
    have ho4_1 : w1.heap.size < w4.heap.size := by (have := hb4.size; (try simp at this); omega)
    have hg4_1 := fun o => hc4 (w1.heap.size) o (by first | (simp; done) | (simp; omega) | omega) (by first | (simp; done) | (simp; omega) | omega)
    have hk4_1 := fun o => hf4 (w1.heap.size) o (by first | (simp; done) | (simp; omega) | omega) (by first | (simp; done) | (simp; omega) | omega)
    try simp [go_sem] at hg4_1
    try simp [go_sem] at hk4_1
    obtain ⟨N, hB3, qN⟩ : ∃ N : Int, (-1 ≤ N ∧ N ≤ 3) ∧ w4.cell? ⟨w1.heap.size, 1, none⟩ = some (.int .i64 N) := ⟨(v1 + 1 + v3) % 4, by omega, by go_simp⟩
    have qx0 : w4.cell? ⟨w1.heap.size, 0, none⟩ = some (.int .i64 v1) := by go_simp
    obtain ⟨x2, qx2⟩ : ∃ x, w4.cell? ⟨w1.heap.size, 2, none⟩ = some x := by (apply Exists.intro; go_simp; try rfl)
    clear hg4_1 hc4
    go_wp2_with fail
    refine (pk _ g (k + 1 + 1 + 1 + 1) _ (by repeat (first | assumption | (with_reducible refine RdLe.drew ?_) | (with_reducible refine RdLe.drewN ?_ _) | (with_reducible refine RdLe.alloc ?_ _) | (with_reducible refine RdLe.setC ?_ ?_ _; focus (first | (simp; done) | (simp; omega) | omega)))) (by omega) (by omega) (by omega)).mono ?_
    rintro e w5 ⟨⟨v5, ⟨vl5, vh5⟩, rfl, hR5, hb5⟩, hs5⟩
    obtain ⟨hc5, hf5⟩ := hb5.cells
    have hy5 := hb5.size
    try simp at hy5
    try simp at hs5
    have ho5_0 : w.heap.size < w5.heap.size := by (have := hb5.size; (try simp at this); omega)
    have hg5_0 := fun o => hc5 (w.heap.size) o (by first | (simp; done) | (simp; omega) | omega) (by first | (simp; done) | (simp; omega) | omega)
    have hk5_0 := fun o => hf5 (w.heap.size) o (by first | (simp; done) | (simp; omega) | omega) (by first | (simp; done) | (simp; omega) | omega)
    try simp [go_sem] at hg5_0
    try simp [go_sem] at hk5_0
    have ho5_1 : w1.heap.size < w5.heap.size := by (have := hb5.size; (try simp at this); omega)
    have hg5_1 := fun o => hc5 (w1.heap.size) o (by first | (simp; done) | (simp; omega) | omega) (by first | (simp; done) | (simp; omega) | omega)
    have hk5_1 := fun o => hf5 (w1.heap.size) o (by first | (simp; done) | (simp; omega) | omega) (by first | (simp; done) | (simp; omega) | omega)
    try simp [go_sem] at hg5_1
    try simp [go_sem] at hk5_1
    by_cases h5 : v5 = 0
    · subst h5
      go_wp2_with fail
      refine (pk _ g (k + 1 + 1 + 1 + 1 + 1) _ (by repeat (first | assumption | (with_reducible refine RdLe.drew ?_) | (with_reducible refine RdLe.drewN ?_ _) | (with_reducible refine RdLe.alloc ?_ _) | (with_reducible refine RdLe.setC ?_ ?_ _; focus (first | (simp; done) | (simp; omega) | omega)))) (by omega) (by omega) (by omega)).mono ?_
      rintro e w6 ⟨⟨v6, ⟨vl6, vh6⟩, rfl, hR6, hb6⟩, hs6⟩
      obtain ⟨hc6, hf6⟩ := hb6.cells
      have hy6 := hb6.size
      try simp at hy6
      try simp at hs6
      have ho6_0 : w.heap.size < w6.heap.size := by (have := hb6.size; (try simp at this); omega)
      have hg6_0 := fun o => hc6 (w.heap.size) o (by first | (simp; done) | (simp; omega) | omega) (by first | (simp; done) | (simp; omega) | omega)
      have hk6_0 := fun o => hf6 (w.heap.size) o (by first | (simp; done) | (simp; omega) | omega) (by first | (simp; done) | (simp; omega) | omega)
      try simp [go_sem] at hg6_0
      try simp [go_sem] at hk6_0
      have ho6_1 : w1.heap.size < w6.heap.size := by (have := hb6.size; (try simp at this); omega)
      have hg6_1 := fun o => hc6 (w1.heap.size) o (by first | (simp; done) | (simp; omega) | omega) (by first | (simp; done) | (simp; omega) | omega)
      have hk6_1 := fun o => hf6 (w1.heap.size) o (by first | (simp; done) | (simp; omega) | omega) (by first | (simp; done) | (simp; omega) | omega)
      try simp [go_sem] at hg6_1
      try simp [go_sem] at hk6_1
      have ho6_2 : w1.heap.size + 1 < w6.heap.size := by (have := hb6.size; (try simp at this); omega)
      have hg6_2 := fun o => hc6 (w1.heap.size + 1) o (by first | (simp; done) | (simp; omega) | omega) (by first | (simp; done) | (simp; omega) | omega)
      have hk6_2 := fun o => hf6 (w1.heap.size + 1) o (by first | (simp; done) | (simp; omega) | omega) (by first | (simp; done) | (simp; omega) | omega)
      try simp [go_sem] at hg6_2
      try simp [go_sem] at hk6_2
      obtain ⟨R6, hL6⟩ : ∃ R : Int, w6.cell? ⟨w1.heap.size + 1, v6.toNat, none⟩ = some (.int .i64 R) := by
        rcases (by omega : v6 = 0 ∨ v6 = 1 ∨ v6 = 2) with rfl | rfl | rfl <;> (apply Exists.intro; go_simp; try rfl)
      clear hg6_2; (try clear hc6)
      go_wp2_with fail
      refine bodyPost_retE rfl ?_
      apply Exists.intro
      refine ⟨?_, ?_⟩
      · simp only [results, Try.results51]
        go_simp
        first | done | rfl
      go_light
      refine ⟨_, _, _, hB3, rfl, RdLe.mono (k := k + 1 + 1 + 1 + 1 + 1 + 1) (by repeat (first | assumption | (with_reducible refine RdLe.drew ?_) | (with_reducible refine RdLe.drewN ?_ _) | (with_reducible refine RdLe.alloc ?_ _) | (with_reducible refine RdLe.setC ?_ ?_ _; focus (first | (simp; done) | (simp; omega) | omega)))) (by omega), ?_⟩
      repeat (first | (with_reducible exact Past.refl _ _ _) | (with_reducible refine Past.alloc ?_ (by simp) _) | (with_reducible refine Past.drew ?_) | (with_reducible refine Past.drewN ?_ _) | (with_reducible refine Past.setC ?_ ?_ _; focus (first | (with_reducible exact Nat.le_refl _) | (simp; done) | (simp; omega) | omega)) | (with_reducible refine Past.step ?_ (by simp) (by assumption)))
    · go_wp2_with fail
      refine bodyPost_retE rfl ?_
      apply Exists.intro
      refine ⟨?_, ?_⟩
      · simp only [results, Try.results51]
        go_simp
        first | done | rfl
      go_light
      refine ⟨_, _, _, hB3, rfl, RdLe.mono (k := k + 1 + 1 + 1 + 1 + 1) (by repeat (first | assumption | (with_reducible refine RdLe.drew ?_) | (with_reducible refine RdLe.drewN ?_ _) | (with_reducible refine RdLe.alloc ?_ _) | (with_reducible refine RdLe.setC ?_ ?_ _; focus (first | (simp; done) | (simp; omega) | omega)))) (by omega), ?_⟩
      repeat (first | (with_reducible exact Past.refl _ _ _) | (with_reducible refine Past.alloc ?_ (by simp) _) | (with_reducible refine Past.drew ?_) | (with_reducible refine Past.drewN ?_ _) | (with_reducible refine Past.setC ?_ ?_ _; focus (first | (with_reducible exact Nat.le_refl _) | (simp; done) | (simp; omega) | omega)) | (with_reducible refine Past.step ?_ (by simp) (by assumption)))
  · skip
    go_wp2_with fail
    refine (pk _ g (k + 1 + 1) _ (by repeat (first | assumption | (with_reducible refine RdLe.drew ?_) | (with_reducible refine RdLe.drewN ?_ _) | (with_reducible refine RdLe.alloc ?_ _) | (with_reducible refine RdLe.setC ?_ ?_ _; focus (first | (simp; done) | (simp; omega) | omega)))) (by omega) (by omega) (by omega)).mono ?_
    rintro e w3 ⟨⟨v3, ⟨vl3, vh3⟩, rfl, hR3, hb3⟩, hs3⟩
    obtain ⟨hc3, hf3⟩ := hb3.cells
    have hy3 := hb3.size
    try simp at hy3
    try simp at hs3
    have ho3_0 : w.heap.size < w3.heap.size := by (have := hb3.size; (try simp at this); omega)
    have hg3_0 := fun o => hc3 (w.heap.size) o (by first | (simp; done) | (simp; omega) | omega) (by first | (simp; done) | (simp; omega) | omega)
    have hk3_0 := fun o => hf3 (w.heap.size) o (by first | (simp; done) | (simp; omega) | omega) (by first | (simp; done) | (simp; omega) | omega)
    try simp [go_sem] at hg3_0
    try simp [go_sem] at hk3_0
    have ho3_1 : w1.heap.size < w3.heap.size := by (have := hb3.size; (try simp at this); omega)
    have hg3_1 := fun o => hc3 (w1.heap.size) o (by first | (simp; done) | (simp; omega) | omega) (by first | (simp; done) | (simp; omega) | omega)
    have hk3_1 := fun o => hf3 (w1.heap.size) o (by first | (simp; done) | (simp; omega) | omega) (by first | (simp; done) | (simp; omega) | omega)
    try simp [go_sem] at hg3_1
    try simp [go_sem] at hk3_1
    by_cases h3 : v3 = 0
    · subst h3
      go_wp2_with fail
      refine (pk _ g (k + 1 + 1 + 1) _ (by repeat (first | assumption | (with_reducible refine RdLe.drew ?_) | (with_reducible refine RdLe.drewN ?_ _) | (with_reducible refine RdLe.alloc ?_ _) | (with_reducible refine RdLe.setC ?_ ?_ _; focus (first | (simp; done) | (simp; omega) | omega)))) (by omega) (by omega) (by omega)).mono ?_
      rintro e w4 ⟨⟨v4, ⟨vl4, vh4⟩, rfl, hR4, hb4⟩, hs4⟩
      obtain ⟨hc4, hf4⟩ := hb4.cells
      have hy4 := hb4.size
      try simp at hy4
      try simp at hs4
      have ho4_0 : w.heap.size < w4.heap.size := by (have := hb4.size; (try simp at this); omega)
      have hg4_0 := fun o => hc4 (w.heap.size) o (by first | (simp; done) | (simp; omega) | omega) (by first | (simp; done) | (simp; omega) | omega)
      have hk4_0 := fun o => hf4 (w.heap.size) o (by first | (simp; done) | (simp; omega) | omega) (by first | (simp; done) | (simp; omega) | omega)
      try simp [go_sem] at hg4_0
      try simp [go_sem] at hk4_0
      have ho4_1 : w1.heap.size < w4.heap.size := by (have := hb4.size; (try simp at this); omega)
      have hg4_1 := fun o => hc4 (w1.heap.size) o (by first | (simp; done) | (simp; omega) | omega) (by first | (simp; done) | (simp; omega) | omega)
      have hk4_1 := fun o => hf4 (w1.heap.size) o (by first | (simp; done) | (simp; omega) | omega) (by first | (simp; done) | (simp; omega) | omega)
      try simp [go_sem] at hg4_1
      try simp [go_sem] at hk4_1
      have ho4_2 : w1.heap.size + 1 < w4.heap.size := by (have := hb4.size; (try simp at this); omega)
      have hg4_2 := fun o => hc4 (w1.heap.size + 1) o (by first | (simp; done) | (simp; omega) | omega) (by first | (simp; done) | (simp; omega) | omega)
      have hk4_2 := fun o => hf4 (w1.heap.size + 1) o (by first | (simp; done) | (simp; omega) | omega) (by first | (simp; done) | (simp; omega) | omega)
      try simp [go_sem] at hg4_2
      try simp [go_sem] at hk4_2
      obtain ⟨R4, hL4⟩ : ∃ R : Int, w4.cell? ⟨w1.heap.size + 1, v4.toNat, none⟩ = some (.int .i64 R) := by
        rcases (by omega : v4 = 0 ∨ v4 = 1 ∨ v4 = 2) with rfl | rfl | rfl <;> (apply Exists.intro; go_simp; try rfl)
      clear hg4_2; (try clear hc4)
      go_wp2_with fail
      refine bodyPost_retE rfl ?_
      apply Exists.intro
      refine ⟨?_, ?_⟩
      · simp only [results, Try.results51]
        go_simp
        first | done | rfl
      go_light
      refine ⟨_, _, _, ⟨by omega, by omega⟩, rfl, RdLe.mono (k := k + 1 + 1 + 1 + 1) (by repeat (first | assumption | (with_reducible refine RdLe.drew ?_) | (with_reducible refine RdLe.drewN ?_ _) | (with_reducible refine RdLe.alloc ?_ _) | (with_reducible refine RdLe.setC ?_ ?_ _; focus (first | (simp; done) | (simp; omega) | omega)))) (by omega), ?_⟩
      repeat (first | (with_reducible exact Past.refl _ _ _) | (with_reducible refine Past.alloc ?_ (by simp) _) | (with_reducible refine Past.drew ?_) | (with_reducible refine Past.drewN ?_ _) | (with_reducible refine Past.setC ?_ ?_ _; focus (first | (with_reducible exact Nat.le_refl _) | (simp; done) | (simp; omega) | omega)) | (with_reducible refine Past.step ?_ (by simp) (by assumption)))
    · go_wp2_with fail
      refine bodyPost_retE rfl ?_
      apply Exists.intro
      refine ⟨?_, ?_⟩
      · simp only [results, Try.results51]
        go_simp
        first | done | rfl
      go_light
      refine ⟨_, _, _, ⟨by omega, by omega⟩, rfl, RdLe.mono (k := k + 1 + 1 + 1) (by repeat (first | assumption | (with_reducible refine RdLe.drew ?_) | (with_reducible refine RdLe.drewN ?_ _) | (with_reducible refine RdLe.alloc ?_ _) | (with_reducible refine RdLe.setC ?_ ?_ _; focus (first | (simp; done) | (simp; omega) | omega)))) (by omega), ?_⟩
      repeat (first | (with_reducible exact Past.refl _ _ _) | (with_reducible refine Past.alloc ?_ (by simp) _) | (with_reducible refine Past.drew ?_) | (with_reducible refine Past.drewN ?_ _) | (with_reducible refine Past.setC ?_ ?_ _; focus (first | (with_reducible exact Nat.le_refl _) | (simp; done) | (simp; omega) | omega)) | (with_reducible refine Past.step ?_ (by simp) (by assumption)))

end Go.Proofs.Ytmidpodoapggnaa
