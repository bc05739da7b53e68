/- The draw of a buffer and a time. -/
import Derived.Test.YtegdogamenoaiaaBdt
namespace Go.Proofs.Ytegdogamenoaiaa
open Go Go.RowKit
set_option linter.unusedVariables false
set_option linter.unusedSimpArgs false
def MadeBN (w : World) (e : Ending) (w' : World) : Prop :=
  ∃ (y d : Int) (A : Option Addr) (n c : Nat) (q : Nat → Hd) (now : Int), RowAt w' 0 w'.heap.size A n 7 (HdF q) ∧ n ≤ c ∧ n ≤ 14 ∧ e = .returned (.tuple #[.agg #[.int .i64 y, .int .i64 d, .slice A n c], .int .i64 now]) ∧ Below w.heap.size w w'
/-- The same, with the row behind all that was there. -/
def MadeBL (w : World) (e : Ending) (w' : World) : Prop :=
  ∃ (y d : Int) (A : Option Addr) (n c : Nat) (q : Nat → Hd) (now : Int), RowAt w' w.heap.size w'.heap.size A n 7 (HdF q) ∧ n ≤ c ∧ n ≤ 14 ∧ e = .returned (.tuple #[.agg #[.int .i64 y, .int .i64 d, .slice A n c], .int .i64 now]) ∧ Below w.heap.size w w'
theorem MadeBL.bn {w : World} {e : Ending} {w' : World} (h : MadeBL w e w') : MadeBN w e w' := by
  obtain ⟨y, d, A, n, c, q, now, hr, h1⟩ := h
  exact ⟨y, d, A, n, c, q, now, hr.wide (Nat.zero_le _) (Nat.le_refl _), h1⟩
set_option maxRecDepth 100000 in
set_option maxHeartbeats 4000000 in
theorem draw_btakeL (w : World) (A : Option Addr) (n c : Nat) (h : IsInts .u8 w A n c) (hn : n ≤ 1048576) :
    Calls Try.prog 35 #[.slice A n c] w (MadeBL w) := by
  have H := Lib.hid h
  clear h
  go_enter Try.func35, Try.ntmps35
  go_wp2_with fail
  refine (open_any _ A n c (H.out.below (by repeat (first | (with_reducible exact Below.refl _ _) | (with_reducible refine Bal ?_ _) | (with_reducible refine Below.drew ?_) | (with_reducible refine below_drewN ?_ _) | (with_reducible refine Bset ?_ ?_ _; focus (first | (with_reducible exact Nat.le_refl _) | (simp; done) | (simp; omega) | omega)) | (with_reducible refine Bt ?_ (by assumption)) | (with_reducible refine Bp (g := g) ?_ (by assumption) (by assumption))))) hn).mono ?_
  rintro e w0 ⟨g, rfl, hgo, hR0, hb0⟩
  obtain ⟨hc0, hf0⟩ := bcell hb0
  have hy0 := hb0.size
  try simp at hy0
  try simp at hgo
  have hgo2 : w.heap.size ≤ g := by omega
  have hgl := hR0.lt
  have hg0_0 := fun o => hc0 (w.heap.size) o (by first | (simp; done) | (simp; omega) | omega)
  have hk0_0 := fun o => hf0 (w.heap.size) o (by first | (simp; done) | (simp; omega) | omega)
  try simp [go_sem] at hg0_0
  try simp [go_sem] at hk0_0
  go_wp2_with fail
  refine (buffer_draw _ g 0 (by repeat (first | assumption | (with_reducible refine RdLe.drew ?_) | (with_reducible refine RdLe.drewN ?_ _) | (with_reducible refine RdLe.alloc ?_ _) | (with_reducible refine RdLe.setC ?_ ?_ _; focus (first | (simp; done) | (simp; omega) | omega)))) (by omega)).mono ?_
  rintro e w1 ⟨y, d, now, A1, m, c1, q, rfl, hr1, hmc, hm, hR1, hb1⟩
  obtain ⟨hc1, hf1⟩ := hb1.cells
  have hy1 := hb1.size
  try simp at hy1
  have hne : ¬ w.heap.size = g := by omega
  have hne2 : w.heap.size ≠ g := hne
  have hz1 : w.heap.size < w1.heap.size := by omega
  have hg1_0 := fun o => hc1 (w.heap.size) o (by first | (simp; done) | (simp; omega) | omega) hne2
  have hk1_0 := fun o => hf1 (w.heap.size) o (by first | (simp; done) | (simp; omega) | omega) hne2
  try simp [go_sem] at hg1_0
  try simp [go_sem] at hk1_0
  have hW1 : Below w.heap.size w w1 := (show Below w.heap.size w w0 by repeat (first | (with_reducible exact Below.refl _ _) | (with_reducible refine Bal ?_ _) | (with_reducible refine Below.drew ?_) | (with_reducible refine below_drewN ?_ _) | (with_reducible refine Bset ?_ ?_ _; focus (first | (with_reducible exact Nat.le_refl _) | (simp; done) | (simp; omega) | omega)) | (with_reducible refine Bt ?_ (by assumption)) | (with_reducible refine Bp (g := g) ?_ (by assumption) (by assumption)))).trans ((hb1.mono (B' := w.heap.size) (by omega)).below (by omega))
  have HR1 := Lib.hid hr1
  have HW1 := Lib.hid hW1
  clear hr1 hW1
  go_upto_region 3 with fail
  have hng : ¬ w1.heap.size = g := by have := hR1.lt; omega
  have hgw : g < w1.heap.size := hR1.lt
  have hRb := hR1.alloc (.cells #[.int .i64 y, .int .i64 d, .slice A1 m c1] 28)
  generalize hwb : w1.alloc (.cells #[.int .i64 y, .int .i64 d, .slice A1 m c1] 28) = wb at hRb ⊢
  have hbb : Below w1.heap.size w1 wb := by rw [← hwb]; exact Ba _ _
  have hzb : w1.heap.size < wb.heap.size := by rw [← hwb]; simp
  have hgb_0 : ∀ o : Nat, wb.cell? ⟨w.heap.size, o, none⟩ = ([.int .i64 0, .int .i64 0, .slice none 0 0] : List Value)[o]? := fun o => ((below_cells hbb).1 _ o (by omega)).trans (by go_simp; try rfl)
  have hkb_0 : ∀ o : Nat, wb.frozen? ⟨w.heap.size, o, none⟩ = false := fun o => ((below_cells hbb).2 _ o (by omega)).trans (by go_simp; try rfl)
  have hgb_1 : ∀ o : Nat, wb.cell? ⟨w1.heap.size, o, none⟩ = ([.int .i64 y, .int .i64 d, .slice A1 m c1] : List Value)[o]? := fun o => by rw [← hwb]; simp [go_sem]
  have hzw : w.heap.size < wb.heap.size := by omega
  have hgwb : g < wb.heap.size := by omega
  clear hwb hc1 hf1 hg1_0 hk1_0
  refine wp_region_mix (Exc (fun k => k = g) wb) (by kernel_rfl) (by kernel_rfl) (Exc.drew (Exc.refl _ _)) ?_
  repeat (first
    | (refine mix_skip rfl ?_; have e0 : True := trivial; clear e0; refine mix_putK ?_; intro K hK; go_simp; refine hK _ ?_; clear hK K)
    | (refine mix_readE rfl rfl rfl ?_; apply Exists.intro; refine ⟨fun w' hb' => ?_, ?_⟩; (focus (obtain ⟨hc', hf'⟩ := exc_cells hb'; clear hb'; go_simp; try exact rfl)); have e0 : True := trivial; clear e0; refine mix_putK ?_; intro K hK; go_simp; refine hK _ ?_; clear hK K)
    | (refine mix_pureE rfl rfl ?_; apply Exists.intro; refine ⟨fun w' => ?_, ?_⟩; (focus (first | (fail) | (go_simp; try exact rfl))); have e0 : True := trivial; clear e0; refine mix_putK ?_; intro K hK; go_simp; refine hK _ ?_; clear hK K)
    | (refine mix_eff rfl rfl ?_; go_wp2_with ((go_at_call 62; first | (have hq := hRp1; clear hq; refine (pk _ g (0 + 100 + 1) _ (by repeat (first | assumption | (with_reducible refine RdLe.drew ?_) | (with_reducible refine RdLe.drewN ?_ _) | (with_reducible refine RdLe.alloc ?_ _) | (with_reducible refine RdLe.setC ?_ ?_ _; focus (first | (simp; done) | (simp; omega) | omega)))) (by omega) (by omega) (by omega)).mono ?_; rintro e wp2 ⟨⟨vp2, ⟨vlp2, vhp2⟩, rfl, hRp2, hbp2⟩, hsp2⟩; clear hsp2; have hE2 : Exc (fun k => k = g) wb wp2 := Exc.trans hE1 (Exc.of_past rfl hbp2); have hg2_0 := fun o => ((exc_cells hE2).1 w.heap.size o hzw hne).trans (hgb_0 o); have hk2_0 := fun o => ((exc_cells hE2).2 w.heap.size o hzw hne).trans (hkb_0 o)) | (refine (pk _ g (0 + 100) _ (by repeat (first | assumption | (with_reducible refine RdLe.drew ?_) | (with_reducible refine RdLe.drewN ?_ _) | (with_reducible refine RdLe.alloc ?_ _) | (with_reducible refine RdLe.setC ?_ ?_ _; focus (first | (simp; done) | (simp; omega) | omega)))) (by omega) (by omega) (by omega)).mono ?_; rintro e wp1 ⟨⟨vp1, ⟨vlp1, vhp1⟩, rfl, hRp1, hbp1⟩, hsp1⟩; clear hsp1; have hE1 : Exc (fun k => k = g) wb wp1 := Exc.trans (Exc.drew (Exc.refl _ _)) (Exc.of_past rfl hbp1)))); refine then_mix rfl ?_ ?_; (focus (first | (intro h; have h2 : false = true := h; cases h2) | (intro _; assumption) | (intro _; repeat (first | assumption | (with_reducible exact Exc.refl _ _) | (with_reducible refine Exc.drew ?_) | (with_reducible refine Exc.alloc ?_ _) | (with_reducible refine Exc.setC ?_ ?_ _; focus (simp))))))))
  refine mix_nil ?_
  go_wp2_with fail
  have hBw : Below w.heap.size w wp2 := (HW1.out.trans (Below.mono hbb (by omega))).trans (hE2.below (fun k hk => by rw [hk]; omega) (by omega))
  have hRow := (HR1.out.below (Nat.le_refl _) hbb).keep (w' := wp2) (fun b o h1 h2 => (exc_cells hE2).1 b o (by omega) (by omega))
  have hs2 := hE2.size
  refine bodyPost_retE rfl ?_
  apply Exists.intro
  refine ⟨?_, ?_⟩
  · simp only [results, Try.results35]
    go_simp
    first | done | rfl
  refine ⟨y, d, A1, m, c1, q, _, ?_, hmc, hm, rfl, ?_⟩
  · refine RowAt.wide (lo := w0.heap.size) (hi := w1.heap.size) ?_ (by omega) (by first | (simp [World.setCell]; done) | (simp [World.setCell]; omega))
    repeat (first | (with_reducible exact hRow) | (with_reducible refine RowAt.setC ?_ ?_ _; focus (left; first | omega | (simp; omega))))
  · repeat (first | (with_reducible exact hBw) | (with_reducible refine Below.drew ?_) | (refine Bset ?_ ?_ _; focus (first | (simp; done) | (simp; omega) | omega)))
theorem draw_btake (w : World) (A : Option Addr) (n c : Nat) (h : IsInts .u8 w A n c) (hn : n ≤ 1048576) :
    Calls Try.prog 35 #[.slice A n c] w (MadeBN w) := (draw_btakeL w A n c h hn).mono fun e w' h => h.bn
end Go.Proofs.Ytegdogamenoaiaa
