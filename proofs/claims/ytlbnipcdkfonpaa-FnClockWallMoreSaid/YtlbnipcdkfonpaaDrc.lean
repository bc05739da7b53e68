/- The draws of the laws that hold a clock against a time. -/
import Derived.Test.YtlbnipcdkfonpaaDrw
namespace Go.Proofs.Ytlbnipcdkfonpaa
open Go Go.RowKit
set_option linter.unusedVariables false
set_option linter.unusedSimpArgs false
set_option maxHeartbeats 4000000 in
theorem draw_cmedia (w : World) (A : Option Addr) (n c : Nat) (h : IsInts .u8 w A n c) (hn : n ≤ 1048576) :
    Calls Try.prog 36 #[.slice A n c] w (MadeC w) := by
  have H := Lib.hid h
  clear h
  go_enter Try.func36, Try.ntmps36
  go_wp2_with fail
  refine (open_any _ A n c (H.out.below (by repeat (first | (with_reducible exact Below.refl _ _) | (with_reducible refine Bal ?_ _) | (with_reducible refine Below.drew ?_) | (with_reducible refine below_drewN ?_ _) | (with_reducible refine Bset ?_ ?_ _; focus (first | (with_reducible exact Nat.le_refl _) | (simp; done) | (simp; omega) | omega)) | (with_reducible refine Bt ?_ (by assumption)) | (with_reducible refine Bp (g := g) ?_ (by assumption) (by assumption))))) hn).mono ?_
  rintro e w0 ⟨g, rfl, hgo, hR0, hb0⟩
  obtain ⟨hc0, hf0⟩ := bcell hb0
  have hy0 := hb0.size
  try simp at hy0
  try simp at hgo
  have hgo2 : w.heap.size ≤ g := by omega
  have hgl := hR0.lt
  have hg0_0 := fun o => hc0 (w.heap.size) o (by first | (simp; done) | (simp; omega) | omega)
  have hk0_0 := fun o => hf0 (w.heap.size) o (by first | (simp; done) | (simp; omega) | omega)
  try simp [go_sem] at hg0_0
  try simp [go_sem] at hk0_0
  go_wp2_with fail
  refine (clock_draw _ g 0 (by repeat (first | assumption | (with_reducible refine RdLe.drew ?_) | (with_reducible refine RdLe.drewN ?_ _) | (with_reducible refine RdLe.alloc ?_ _) | (with_reducible refine RdLe.setC ?_ ?_ _; focus (first | (simp; done) | (simp; omega) | omega)))) (by omega)).mono ?_
  rintro e w1 ⟨a1, b1, c1, rfl, hR1, hb1⟩
  obtain ⟨hc1, hf1⟩ := hb1.cells
  have hy1 := hb1.size
  try simp at hy1
  have ho1_0 : w.heap.size < w1.heap.size := by (have := hb1.size; (try simp at this); omega)
  have hg1_0 := fun o => hc1 (w.heap.size) o (by first | (simp; done) | (simp; omega) | omega) (by first | (simp; done) | (simp; omega) | omega)
  have hk1_0 := fun o => hf1 (w.heap.size) o (by first | (simp; done) | (simp; omega) | omega) (by first | (simp; done) | (simp; omega) | omega)
  try simp [go_sem] at hg1_0
  try simp [go_sem] at hk1_0
  go_wp2_with fail
  have hne0 : w.heap.size ≠ g := by omega
  have hne1 : w1.heap.size ≠ g := by omega
  have hne2 : w1.heap.size ≠ w.heap.size := by omega
  refine wp_region_mixG g (w.heap.size) (by kernel_rfl) (by kernel_rfl) ?_
  repeat' (first
    | (refine mix_skip rfl ?_; refine mix_putK (fun K hK => ?_); go_simp; refine hK _ ?_; clear hK K)
    | (refine mix_readE rfl rfl rfl ?_; apply Exists.intro; refine ⟨fun w' hb' => ?_, ?_⟩; (obtain ⟨hc', hf'⟩ := OldG.cells hb'; clear hb'; go_simp; try exact rfl); refine mix_putK (fun K hK => ?_); go_simp; refine hK _ ?_; clear hK K)
    | (refine mix_pureE rfl rfl ?_; apply Exists.intro; refine ⟨fun w' => ?_, ?_⟩; (go_simp; try exact rfl); refine mix_putK (fun K hK => ?_); go_simp; refine hK _ ?_; clear hK K)
    | (refine mix_eff rfl rfl ?_; go_wp2_with (first | (have hq := hR2; clear hq; go_at_call 44; refine (pk _ g (20 + 1) _ (by repeat (first | assumption | (with_reducible refine RdLe.drew ?_) | (with_reducible refine RdLe.drewN ?_ _) | (with_reducible refine RdLe.alloc ?_ _) | (with_reducible refine RdLe.setC ?_ ?_ _; focus (first | (simp; done) | (simp; omega) | omega)))) (by omega) (by omega) (by omega)).mono ?_; rintro e w3 ⟨⟨v3, ⟨vl3, vh3⟩, rfl, hR3, hb3⟩, hs3⟩; obtain ⟨hc3, hf3⟩ := hb3.cells; have hy3 := hb3.size; (try simp at hy3); (try simp at hs3); have ho3_0 : w.heap.size < w3.heap.size := (by (have := hb3.size; (try simp at this); omega)); have hg3_0 := fun o => hc3 (w.heap.size) o (by first | (simp; done) | (simp; omega) | omega) (by first | (simp; done) | (simp; omega) | omega); have hk3_0 := fun o => hf3 (w.heap.size) o (by first | (simp; done) | (simp; omega) | omega) (by first | (simp; done) | (simp; omega) | omega); (try simp [go_sem] at hg3_0); (try simp [go_sem] at hk3_0); have ho3_1 : w1.heap.size < w3.heap.size := (by (have := hb3.size; (try simp at this); omega)); have hg3_1 := fun o => hc3 (w1.heap.size) o (by first | (simp; done) | (simp; omega) | omega) (by first | (simp; done) | (simp; omega) | omega); have hk3_1 := fun o => hf3 (w1.heap.size) o (by first | (simp; done) | (simp; omega) | omega) (by first | (simp; done) | (simp; omega) | omega); (try simp [go_sem] at hg3_1); (try simp [go_sem] at hk3_1)) | (have hq := hR1; clear hq; go_at_call 44; refine (pk _ g (0 + 20) _ (by repeat (first | assumption | (with_reducible refine RdLe.drew ?_) | (with_reducible refine RdLe.drewN ?_ _) | (with_reducible refine RdLe.alloc ?_ _) | (with_reducible refine RdLe.setC ?_ ?_ _; focus (first | (simp; done) | (simp; omega) | omega)))) (by omega) (by omega) (by omega)).mono ?_; rintro e w2 ⟨⟨v2, ⟨vl2, vh2⟩, rfl, hR2, hb2⟩, hs2⟩; obtain ⟨hc2, hf2⟩ := hb2.cells; have hy2 := hb2.size; (try simp at hy2); (try simp at hs2); have ho2_0 : w.heap.size < w2.heap.size := (by (have := hb2.size; (try simp at this); omega)); have hg2_0 := fun o => hc2 (w.heap.size) o (by first | (simp; done) | (simp; omega) | omega) (by first | (simp; done) | (simp; omega) | omega); have hk2_0 := fun o => hf2 (w.heap.size) o (by first | (simp; done) | (simp; omega) | omega) (by first | (simp; done) | (simp; omega) | omega); (try simp [go_sem] at hg2_0); (try simp [go_sem] at hk2_0); have ho2_1 : w1.heap.size < w2.heap.size := (by (have := hb2.size; (try simp at this); omega)); have hg2_1 := fun o => hc2 (w1.heap.size) o (by first | (simp; done) | (simp; omega) | omega) (by first | (simp; done) | (simp; omega) | omega); have hk2_1 := fun o => hf2 (w1.heap.size) o (by first | (simp; done) | (simp; omega) | omega) (by first | (simp; done) | (simp; omega) | omega); (try simp [go_sem] at hg2_1); (try simp [go_sem] at hk2_1))); all_goals (refine then_mix rfl ?_ ?_; focus (first | (intro h; have h2 : false = true := h; cases h2) | (intro _; repeat (first | (with_reducible exact OldG.refl _ _ _) | (with_reducible refine OldG.alloc ?_ _) | (with_reducible refine OldG.drew ?_) | (with_reducible refine OldG.drewN ?_ _) | (with_reducible refine OldG.setC ?_ ?_ _; focus (first | (with_reducible exact Or.inl (Nat.le_refl _)) | (simp; done) | (simp; omega) | omega)) | (with_reducible refine OldG.past ?_ (by assumption))))))))
  all_goals (refine mix_nil ?_)
  all_goals (
    go_wp2_with fail
    refine bodyPost_retE rfl ?_
    apply Exists.intro
    refine ⟨?_, ?_⟩
    · simp only [results, Try.results36]
      go_simp
      first | done | rfl
    go_light
    refine ⟨_, _, _, _, rfl, ?_⟩
    repeat (first | (with_reducible exact Below.refl _ _) | (with_reducible refine Bal ?_ _) | (with_reducible refine Below.drew ?_) | (with_reducible refine below_drewN ?_ _) | (with_reducible refine Bset ?_ ?_ _; focus (first | (with_reducible exact Nat.le_refl _) | (simp; done) | (simp; omega) | omega)) | (with_reducible refine Bt ?_ (by assumption)) | (with_reducible refine Bp (g := g) ?_ (by assumption) (by assumption)))
    done)
set_option maxHeartbeats 4000000 in
theorem draw_cwall (w : World) (A : Option Addr) (n c : Nat) (h : IsInts .u8 w A n c) (hn : n ≤ 1048576) :
    Calls Try.prog 39 #[.slice A n c] w (MadeC w) := by
  have H := Lib.hid h
  clear h
  go_enter Try.func39, Try.ntmps39
  go_wp2_with fail
  refine (open_any _ A n c (H.out.below (by repeat (first | (with_reducible exact Below.refl _ _) | (with_reducible refine Bal ?_ _) | (with_reducible refine Below.drew ?_) | (with_reducible refine below_drewN ?_ _) | (with_reducible refine Bset ?_ ?_ _; focus (first | (with_reducible exact Nat.le_refl _) | (simp; done) | (simp; omega) | omega)) | (with_reducible refine Bt ?_ (by assumption)) | (with_reducible refine Bp (g := g) ?_ (by assumption) (by assumption))))) hn).mono ?_
  rintro e w0 ⟨g, rfl, hgo, hR0, hb0⟩
  obtain ⟨hc0, hf0⟩ := bcell hb0
  have hy0 := hb0.size
  try simp at hy0
  try simp at hgo
  have hgo2 : w.heap.size ≤ g := by omega
  have hgl := hR0.lt
  have hg0_0 := fun o => hc0 (w.heap.size) o (by first | (simp; done) | (simp; omega) | omega)
  have hk0_0 := fun o => hf0 (w.heap.size) o (by first | (simp; done) | (simp; omega) | omega)
  try simp [go_sem] at hg0_0
  try simp [go_sem] at hk0_0
  go_wp2_with fail
  refine (clock_draw _ g 0 (by repeat (first | assumption | (with_reducible refine RdLe.drew ?_) | (with_reducible refine RdLe.drewN ?_ _) | (with_reducible refine RdLe.alloc ?_ _) | (with_reducible refine RdLe.setC ?_ ?_ _; focus (first | (simp; done) | (simp; omega) | omega)))) (by omega)).mono ?_
  rintro e w1 ⟨a1, b1, c1, rfl, hR1, hb1⟩
  obtain ⟨hc1, hf1⟩ := hb1.cells
  have hy1 := hb1.size
  try simp at hy1
  have ho1_0 : w.heap.size < w1.heap.size := by (have := hb1.size; (try simp at this); omega)
  have hg1_0 := fun o => hc1 (w.heap.size) o (by first | (simp; done) | (simp; omega) | omega) (by first | (simp; done) | (simp; omega) | omega)
  have hk1_0 := fun o => hf1 (w.heap.size) o (by first | (simp; done) | (simp; omega) | omega) (by first | (simp; done) | (simp; omega) | omega)
  try simp [go_sem] at hg1_0
  try simp [go_sem] at hk1_0
  go_wp2_with fail
  have hne0 : w.heap.size ≠ g := by omega
  have hne1 : w1.heap.size ≠ g := by omega
  have hne2 : w1.heap.size ≠ w.heap.size := by omega
  refine wp_region_mixG g (w.heap.size) (by kernel_rfl) (by kernel_rfl) ?_
  repeat' (first
    | (refine mix_skip rfl ?_; refine mix_putK (fun K hK => ?_); go_simp; refine hK _ ?_; clear hK K)
    | (refine mix_readE rfl rfl rfl ?_; apply Exists.intro; refine ⟨fun w' hb' => ?_, ?_⟩; (obtain ⟨hc', hf'⟩ := OldG.cells hb'; clear hb'; go_simp; try exact rfl); refine mix_putK (fun K hK => ?_); go_simp; refine hK _ ?_; clear hK K)
    | (refine mix_pureE rfl rfl ?_; apply Exists.intro; refine ⟨fun w' => ?_, ?_⟩; (go_simp; try exact rfl); refine mix_putK (fun K hK => ?_); go_simp; refine hK _ ?_; clear hK K)
    | (refine mix_eff rfl rfl ?_; go_wp2_with (first | (have hq := hR2; clear hq; go_at_call 44; refine (pk _ g (20 + 1) _ (by repeat (first | assumption | (with_reducible refine RdLe.drew ?_) | (with_reducible refine RdLe.drewN ?_ _) | (with_reducible refine RdLe.alloc ?_ _) | (with_reducible refine RdLe.setC ?_ ?_ _; focus (first | (simp; done) | (simp; omega) | omega)))) (by omega) (by omega) (by omega)).mono ?_; rintro e w3 ⟨⟨v3, ⟨vl3, vh3⟩, rfl, hR3, hb3⟩, hs3⟩; obtain ⟨hc3, hf3⟩ := hb3.cells; have hy3 := hb3.size; (try simp at hy3); (try simp at hs3); have ho3_0 : w.heap.size < w3.heap.size := (by (have := hb3.size; (try simp at this); omega)); have hg3_0 := fun o => hc3 (w.heap.size) o (by first | (simp; done) | (simp; omega) | omega) (by first | (simp; done) | (simp; omega) | omega); have hk3_0 := fun o => hf3 (w.heap.size) o (by first | (simp; done) | (simp; omega) | omega) (by first | (simp; done) | (simp; omega) | omega); (try simp [go_sem] at hg3_0); (try simp [go_sem] at hk3_0); have ho3_1 : w1.heap.size < w3.heap.size := (by (have := hb3.size; (try simp at this); omega)); have hg3_1 := fun o => hc3 (w1.heap.size) o (by first | (simp; done) | (simp; omega) | omega) (by first | (simp; done) | (simp; omega) | omega); have hk3_1 := fun o => hf3 (w1.heap.size) o (by first | (simp; done) | (simp; omega) | omega) (by first | (simp; done) | (simp; omega) | omega); (try simp [go_sem] at hg3_1); (try simp [go_sem] at hk3_1)) | (have hq := hR1; clear hq; go_at_call 44; refine (pk _ g (0 + 20) _ (by repeat (first | assumption | (with_reducible refine RdLe.drew ?_) | (with_reducible refine RdLe.drewN ?_ _) | (with_reducible refine RdLe.alloc ?_ _) | (with_reducible refine RdLe.setC ?_ ?_ _; focus (first | (simp; done) | (simp; omega) | omega)))) (by omega) (by omega) (by omega)).mono ?_; rintro e w2 ⟨⟨v2, ⟨vl2, vh2⟩, rfl, hR2, hb2⟩, hs2⟩; obtain ⟨hc2, hf2⟩ := hb2.cells; have hy2 := hb2.size; (try simp at hy2); (try simp at hs2); have ho2_0 : w.heap.size < w2.heap.size := (by (have := hb2.size; (try simp at this); omega)); have hg2_0 := fun o => hc2 (w.heap.size) o (by first | (simp; done) | (simp; omega) | omega) (by first | (simp; done) | (simp; omega) | omega); have hk2_0 := fun o => hf2 (w.heap.size) o (by first | (simp; done) | (simp; omega) | omega) (by first | (simp; done) | (simp; omega) | omega); (try simp [go_sem] at hg2_0); (try simp [go_sem] at hk2_0); have ho2_1 : w1.heap.size < w2.heap.size := (by (have := hb2.size; (try simp at this); omega)); have hg2_1 := fun o => hc2 (w1.heap.size) o (by first | (simp; done) | (simp; omega) | omega) (by first | (simp; done) | (simp; omega) | omega); have hk2_1 := fun o => hf2 (w1.heap.size) o (by first | (simp; done) | (simp; omega) | omega) (by first | (simp; done) | (simp; omega) | omega); (try simp [go_sem] at hg2_1); (try simp [go_sem] at hk2_1))); all_goals (refine then_mix rfl ?_ ?_; focus (first | (intro h; have h2 : false = true := h; cases h2) | (intro _; repeat (first | (with_reducible exact OldG.refl _ _ _) | (with_reducible refine OldG.alloc ?_ _) | (with_reducible refine OldG.drew ?_) | (with_reducible refine OldG.drewN ?_ _) | (with_reducible refine OldG.setC ?_ ?_ _; focus (first | (with_reducible exact Or.inl (Nat.le_refl _)) | (simp; done) | (simp; omega) | omega)) | (with_reducible refine OldG.past ?_ (by assumption))))))))
  all_goals (refine mix_nil ?_)
  all_goals (
    go_wp2_with fail
    refine bodyPost_retE rfl ?_
    apply Exists.intro
    refine ⟨?_, ?_⟩
    · simp only [results, Try.results39]
      go_simp
      first | done | rfl
    go_light
    refine ⟨_, _, _, _, rfl, ?_⟩
    repeat (first | (with_reducible exact Below.refl _ _) | (with_reducible refine Bal ?_ _) | (with_reducible refine Below.drew ?_) | (with_reducible refine below_drewN ?_ _) | (with_reducible refine Bset ?_ ?_ _; focus (first | (with_reducible exact Nat.le_refl _) | (simp; done) | (simp; omega) | omega)) | (with_reducible refine Bt ?_ (by assumption)) | (with_reducible refine Bp (g := g) ?_ (by assumption) (by assumption)))
    done)
end Go.Proofs.Ytlbnipcdkfonpaa
