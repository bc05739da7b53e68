/- The law FnHoldAllLater of the program is true at every input: the call returns true, and each argument reads behind the call as before. Conditions: none. -/
import Derived.Test.YtegdogamenoaiaaBam
import Derived.WalkKit
import Derived.ProofKit
import Derived.OpenShut
import Derived.ShutString
import Derived.ChangeOld
import Derived.Below
import Derived.Test.YtegdogamenoaiaaBam
import Derived.Test.YtegdogamenoaiaaBsk
import Derived.Test.YtegdogamenoaiaaBdp
namespace Go.Proofs.Ytegdogamenoaiaa
open Go.RowKit
set_option linter.unusedVariables false
set_option linter.unusedSimpArgs false

set_option maxRecDepth 100000 in
set_option maxHeartbeats 16000000 in
theorem walk_FnHoldAllLater (A : Option Addr) (n c : Nat) (w : World) (h : IsInts .u8 w A n c) :
    Calls Try.prog 15 #[.slice A n c] w fun e w' => e = .returned (.bool true) ∧ Below w.heap.size w w' := by
  have H := Lib.hid h
  clear h
  by_cases hn0 : 1048576 < n
  · go_enter Try.func15, Try.ntmps15
    go_wp2_with fail
    go_ret
    exact ⟨rfl, Below.refl _ _⟩
  · have hn : n ≤ 1048576 := by omega
    clear hn0
    go_enter Try.func15, Try.ntmps15
    go_wp2_with fail
    refine (draw_ball _ A n c (H.out.below (by repeat (first | (with_reducible exact Below.refl _ _) | (with_reducible refine Bal ?_ _) | (with_reducible refine Below.drew ?_) | (with_reducible refine below_drewN ?_ _) | (with_reducible refine Bset ?_ ?_ _; focus (first | (with_reducible exact Nat.le_refl _) | (simp; done) | (simp; omega) | omega)) | (with_reducible refine Bt ?_ (by assumption)) | (with_reducible refine Bp (g := g) ?_ (by assumption) (by assumption))))) hn).mono ?_
    rintro e w1 ⟨y, d, A1, m, c1, q, now, hr1, hmc, hm, rfl, hb1⟩
    obtain ⟨hc1, hf1⟩ := bcell hb1
    have hy1 := hb1.size
    try simp at hy1
    have hmn : m ≤ 1048576 := by omega
    obtain ⟨yy, dd, nn, qq, K, ok, hnn, hKn, hok, hi, hs⟩ := ba_any y d now m q hmn
    have HI := Lib.hid hi
    have HS := Lib.hid hs
    have OK := Lib.hid hok
    clear hi hs hok
    have hw1 : Below w.heap.size w w1 := by repeat (first | (with_reducible exact Below.refl _ _) | (with_reducible refine Bal ?_ _) | (with_reducible refine Below.drew ?_) | (with_reducible refine below_drewN ?_ _) | (with_reducible refine Bset ?_ ?_ _; focus (first | (with_reducible exact Nat.le_refl _) | (simp; done) | (simp; omega) | omega)) | (with_reducible refine Bt ?_ (by assumption)) | (with_reducible refine Bp (g := g) ?_ (by assumption) (by assumption)))
    have hz1 : w.heap.size ≤ w1.heap.size := hw1.size
    have HB1 := Lib.hid hw1
    have Ha_1 := Lib.hid hr1
    clear hb1 hc1 hf1 hw1 hr1
    go_wp2_with fail
    refine (HI.out _ _ _ _ _ (Ha_1.out.below (B := w1.heap.size) (by omega) (by repeat (first | (with_reducible exact Below.refl _ _) | (with_reducible refine Bal ?_ _) | (with_reducible refine Below.drew ?_) | (with_reducible refine below_drewN ?_ _) | (with_reducible refine Bset ?_ ?_ _; focus (first | (with_reducible exact Nat.le_refl _) | (simp; done) | (simp; omega) | omega)) | (with_reducible refine Bt ?_ (by assumption)) | (with_reducible refine Bp (g := g) ?_ (by assumption) (by assumption))))) (by first | exact Nat.le_refl _ | (simp; done) | (simp; omega) | omega)).mono ?_
    rintro e w2 ⟨A2, c2, B2, cb2, hO, hP, hdis, rfl, hb2⟩
    have rO : RowAt w2 0 w2.heap.size A2 nn 7 (HdF qq) := hO.row.wide (Nat.zero_le _) (Nat.le_refl _)
    have rP : RowAt w2 0 w2.heap.size B2 K 6 (PkF fun i => (q i).p) := hP.row.wide (Nat.zero_le _) (Nat.le_refl _)
    have RO := Lib.hid rO
    have RP := Lib.hid rP
    clear hO hP hdis rO rP
    have hw2 : Below w1.heap.size w1 w2 := by repeat (first | (with_reducible exact Below.refl _ _) | (with_reducible refine Bal ?_ _) | (with_reducible refine Below.drew ?_) | (with_reducible refine below_drewN ?_ _) | (with_reducible refine Bset ?_ ?_ _; focus (first | (with_reducible exact Nat.le_refl _) | (simp; done) | (simp; omega) | omega)) | (with_reducible refine Bt ?_ (by assumption)) | (with_reducible refine Bp (g := g) ?_ (by assumption) (by assumption)))
    have hz2 : w1.heap.size ≤ w2.heap.size := hw2.size
    obtain ⟨hc2, hf2⟩ := bcell hb2
    have hy2 := hb2.size
    try simp at hy2
    have l2_0 : w1.heap.size < w2.heap.size := by omega
    have g2_0_0 : w2.cell? ⟨w1.heap.size, 0, none⟩ = some (.int .i64 y) := (hc2 (w1.heap.size) 0 (by first | (simp; done) | (simp; omega) | omega)).trans (by go_simp; try rfl)
    have g2_0_1 : w2.cell? ⟨w1.heap.size, 1, none⟩ = some (.int .i64 d) := (hc2 (w1.heap.size) 1 (by first | (simp; done) | (simp; omega) | omega)).trans (by go_simp; try rfl)
    have g2_0_2 : w2.cell? ⟨w1.heap.size, 2, none⟩ = some (.slice A1 m c1) := (hc2 (w1.heap.size) 2 (by first | (simp; done) | (simp; omega) | omega)).trans (by go_simp; try rfl)
    have HB2 := Lib.hid (HB1.out.trans (hw2.mono HB1.out.size))
    have Ha_2 := Lib.hid (Ha_1.out.below (by omega) hw2)
    clear hb2 hc2 hf2 hw2
    clear Ha_1
    clear HB1
    have Ho_2 := RO
    have Hp_2 := RP
    clear RO RP
    go_wp2_with fail
    refine (HS.out _ _ _ _ _ (Ha_2.out.below (B := w2.heap.size) (by omega) (by repeat (first | (with_reducible exact Below.refl _ _) | (with_reducible refine Bal ?_ _) | (with_reducible refine Below.drew ?_) | (with_reducible refine below_drewN ?_ _) | (with_reducible refine Bset ?_ ?_ _; focus (first | (with_reducible exact Nat.le_refl _) | (simp; done) | (simp; omega) | omega)) | (with_reducible refine Bt ?_ (by assumption)) | (with_reducible refine Bp (g := g) ?_ (by assumption) (by assumption))))) (by first | exact Nat.le_refl _ | (simp; done) | (simp; omega) | omega)).mono ?_
    rintro e w3 ⟨A3, c3, B3, cb3, hO, hP, hdis, rfl, hb3⟩
    have rO : RowAt w3 0 w3.heap.size A3 nn 7 (HdF qq) := hO.row.wide (Nat.zero_le _) (Nat.le_refl _)
    have rP : RowAt w3 0 w3.heap.size B3 K 6 (PkF fun i => (q i).p) := hP.row.wide (Nat.zero_le _) (Nat.le_refl _)
    have RO := Lib.hid rO
    have RP := Lib.hid rP
    clear hO hP hdis rO rP
    have hw3 : Below w2.heap.size w2 w3 := by repeat (first | (with_reducible exact Below.refl _ _) | (with_reducible refine Bal ?_ _) | (with_reducible refine Below.drew ?_) | (with_reducible refine below_drewN ?_ _) | (with_reducible refine Bset ?_ ?_ _; focus (first | (with_reducible exact Nat.le_refl _) | (simp; done) | (simp; omega) | omega)) | (with_reducible refine Bt ?_ (by assumption)) | (with_reducible refine Bp (g := g) ?_ (by assumption) (by assumption)))
    have hz3 : w2.heap.size ≤ w3.heap.size := hw3.size
    obtain ⟨hc3, hf3⟩ := bcell hb3
    have hy3 := hb3.size
    try simp at hy3
    have l3_0 : w1.heap.size < w3.heap.size := by omega
    have g3_0_0 : w3.cell? ⟨w1.heap.size, 0, none⟩ = some (.int .i64 y) := (hw3.cell (p := ⟨w1.heap.size, 0, none⟩) l2_0).trans g2_0_0
    have g3_0_1 : w3.cell? ⟨w1.heap.size, 1, none⟩ = some (.int .i64 d) := (hw3.cell (p := ⟨w1.heap.size, 1, none⟩) l2_0).trans g2_0_1
    have g3_0_2 : w3.cell? ⟨w1.heap.size, 2, none⟩ = some (.slice A1 m c1) := (hw3.cell (p := ⟨w1.heap.size, 2, none⟩) l2_0).trans g2_0_2
    have l3_1 : w2.heap.size < w3.heap.size := by omega
    have g3_1_0 : w3.cell? ⟨w2.heap.size, 0, none⟩ = some (.int .i64 yy) := (hc3 (w2.heap.size) 0 (by first | (simp; done) | (simp; omega) | omega)).trans (by go_simp; try rfl)
    have g3_1_1 : w3.cell? ⟨w2.heap.size, 1, none⟩ = some (.int .i64 dd) := (hc3 (w2.heap.size) 1 (by first | (simp; done) | (simp; omega) | omega)).trans (by go_simp; try rfl)
    have g3_1_2 : w3.cell? ⟨w2.heap.size, 2, none⟩ = some (.slice A2 nn c2) := (hc3 (w2.heap.size) 2 (by first | (simp; done) | (simp; omega) | omega)).trans (by go_simp; try rfl)
    have HB3 := Lib.hid (HB2.out.trans (hw3.mono HB2.out.size))
    have Ha_3 := Lib.hid (Ha_2.out.below (by omega) hw3)
    have Ho_3 := Lib.hid (Ho_2.out.below (by omega) hw3)
    have Hp_3 := Lib.hid (Hp_2.out.below (by omega) hw3)
    clear hb3 hc3 hf3 hw3
    clear l2_0 g2_0_0 g2_0_1 g2_0_2
    clear Ha_2
    clear Ho_2
    clear Hp_2
    clear HB2
    have Hs_3 := RO
    have Ht_3 := RP
    clear RO RP
    go_wp2_with fail
    refine (samePk_same _ (q := fun i => (q i).p) (Hp_3.out.below (B := w3.heap.size) (by omega) (by repeat (first | (with_reducible exact Below.refl _ _) | (with_reducible refine Bal ?_ _) | (with_reducible refine Below.drew ?_) | (with_reducible refine below_drewN ?_ _) | (with_reducible refine Bset ?_ ?_ _; focus (first | (with_reducible exact Nat.le_refl _) | (simp; done) | (simp; omega) | omega)) | (with_reducible refine Bt ?_ (by assumption)) | (with_reducible refine Bp (g := g) ?_ (by assumption) (by assumption))))) (Ht_3.out.below (B := w3.heap.size) (by omega) (by repeat (first | (with_reducible exact Below.refl _ _) | (with_reducible refine Bal ?_ _) | (with_reducible refine Below.drew ?_) | (with_reducible refine below_drewN ?_ _) | (with_reducible refine Bset ?_ ?_ _; focus (first | (with_reducible exact Nat.le_refl _) | (simp; done) | (simp; omega) | omega)) | (with_reducible refine Bt ?_ (by assumption)) | (with_reducible refine Bp (g := g) ?_ (by assumption) (by assumption))))) (by first | exact Nat.le_refl _ | (simp; done) | (simp; omega) | omega) (by first | exact Nat.le_refl _ | (simp; done) | (simp; omega) | omega) hKn).mono ?_
    rintro e w4 ⟨rfl, hb4⟩
    have hw4 : Below w3.heap.size w3 w4 := by repeat (first | (with_reducible exact Below.refl _ _) | (with_reducible refine Bal ?_ _) | (with_reducible refine Below.drew ?_) | (with_reducible refine below_drewN ?_ _) | (with_reducible refine Bset ?_ ?_ _; focus (first | (with_reducible exact Nat.le_refl _) | (simp; done) | (simp; omega) | omega)) | (with_reducible refine Bt ?_ (by assumption)) | (with_reducible refine Bp (g := g) ?_ (by assumption) (by assumption)))
    have hz4 : w3.heap.size ≤ w4.heap.size := hw4.size
    obtain ⟨hc4, hf4⟩ := bcell hb4
    have hy4 := hb4.size
    try simp at hy4
    have l4_0 : w1.heap.size < w4.heap.size := by omega
    have g4_0_0 : w4.cell? ⟨w1.heap.size, 0, none⟩ = some (.int .i64 y) := (hw4.cell (p := ⟨w1.heap.size, 0, none⟩) l3_0).trans g3_0_0
    have g4_0_1 : w4.cell? ⟨w1.heap.size, 1, none⟩ = some (.int .i64 d) := (hw4.cell (p := ⟨w1.heap.size, 1, none⟩) l3_0).trans g3_0_1
    have g4_0_2 : w4.cell? ⟨w1.heap.size, 2, none⟩ = some (.slice A1 m c1) := (hw4.cell (p := ⟨w1.heap.size, 2, none⟩) l3_0).trans g3_0_2
    have l4_1 : w2.heap.size < w4.heap.size := by omega
    have g4_1_0 : w4.cell? ⟨w2.heap.size, 0, none⟩ = some (.int .i64 yy) := (hw4.cell (p := ⟨w2.heap.size, 0, none⟩) l3_1).trans g3_1_0
    have g4_1_1 : w4.cell? ⟨w2.heap.size, 1, none⟩ = some (.int .i64 dd) := (hw4.cell (p := ⟨w2.heap.size, 1, none⟩) l3_1).trans g3_1_1
    have g4_1_2 : w4.cell? ⟨w2.heap.size, 2, none⟩ = some (.slice A2 nn c2) := (hw4.cell (p := ⟨w2.heap.size, 2, none⟩) l3_1).trans g3_1_2
    have l4_2 : w3.heap.size < w4.heap.size := by omega
    have g4_2_0 : w4.cell? ⟨w3.heap.size, 0, none⟩ = some (.int .i64 yy) := (hc4 (w3.heap.size) 0 (by first | (simp; done) | (simp; omega) | omega)).trans (by go_simp; try rfl)
    have g4_2_1 : w4.cell? ⟨w3.heap.size, 1, none⟩ = some (.int .i64 dd) := (hc4 (w3.heap.size) 1 (by first | (simp; done) | (simp; omega) | omega)).trans (by go_simp; try rfl)
    have g4_2_2 : w4.cell? ⟨w3.heap.size, 2, none⟩ = some (.slice A3 nn c3) := (hc4 (w3.heap.size) 2 (by first | (simp; done) | (simp; omega) | omega)).trans (by go_simp; try rfl)
    have HB4 := Lib.hid (HB3.out.trans (hw4.mono HB3.out.size))
    have Ha_4 := Lib.hid (Ha_3.out.below (by omega) hw4)
    have Ho_4 := Lib.hid (Ho_3.out.below (by omega) hw4)
    have Hp_4 := Lib.hid (Hp_3.out.below (by omega) hw4)
    have Hs_4 := Lib.hid (Hs_3.out.below (by omega) hw4)
    have Ht_4 := Lib.hid (Ht_3.out.below (by omega) hw4)
    clear hb4 hc4 hf4 hw4
    clear l3_0 g3_0_0 g3_0_1 g3_0_2
    clear l3_1 g3_1_0 g3_1_1 g3_1_2
    clear Ha_3
    clear Ho_3
    clear Hp_3
    clear Hs_3
    clear Ht_3
    clear HB3
    go_wp2_with fail
    refine (sameBuffer_same _ (q := qq) (Ho_4.out.below (B := w4.heap.size) (by omega) (by repeat (first | (with_reducible exact Below.refl _ _) | (with_reducible refine Bal ?_ _) | (with_reducible refine Below.drew ?_) | (with_reducible refine below_drewN ?_ _) | (with_reducible refine Bset ?_ ?_ _; focus (first | (with_reducible exact Nat.le_refl _) | (simp; done) | (simp; omega) | omega)) | (with_reducible refine Bt ?_ (by assumption)) | (with_reducible refine Bp (g := g) ?_ (by assumption) (by assumption))))) (Hs_4.out.below (B := w4.heap.size) (by omega) (by repeat (first | (with_reducible exact Below.refl _ _) | (with_reducible refine Bal ?_ _) | (with_reducible refine Below.drew ?_) | (with_reducible refine below_drewN ?_ _) | (with_reducible refine Bset ?_ ?_ _; focus (first | (with_reducible exact Nat.le_refl _) | (simp; done) | (simp; omega) | omega)) | (with_reducible refine Bt ?_ (by assumption)) | (with_reducible refine Bp (g := g) ?_ (by assumption) (by assumption))))) (by first | exact Nat.le_refl _ | (simp; done) | (simp; omega) | omega) (by first | exact Nat.le_refl _ | (simp; done) | (simp; omega) | omega) hnn).mono ?_
    rintro e w5 ⟨rfl, hb5⟩
    have hw5 : Below w4.heap.size w4 w5 := by repeat (first | (with_reducible exact Below.refl _ _) | (with_reducible refine Bal ?_ _) | (with_reducible refine Below.drew ?_) | (with_reducible refine below_drewN ?_ _) | (with_reducible refine Bset ?_ ?_ _; focus (first | (with_reducible exact Nat.le_refl _) | (simp; done) | (simp; omega) | omega)) | (with_reducible refine Bt ?_ (by assumption)) | (with_reducible refine Bp (g := g) ?_ (by assumption) (by assumption)))
    have hz5 : w4.heap.size ≤ w5.heap.size := hw5.size
    obtain ⟨hc5, hf5⟩ := bcell hb5
    have hy5 := hb5.size
    try simp at hy5
    have l5_0 : w1.heap.size < w5.heap.size := by omega
    have g5_0_0 : w5.cell? ⟨w1.heap.size, 0, none⟩ = some (.int .i64 y) := (hw5.cell (p := ⟨w1.heap.size, 0, none⟩) l4_0).trans g4_0_0
    have g5_0_1 : w5.cell? ⟨w1.heap.size, 1, none⟩ = some (.int .i64 d) := (hw5.cell (p := ⟨w1.heap.size, 1, none⟩) l4_0).trans g4_0_1
    have g5_0_2 : w5.cell? ⟨w1.heap.size, 2, none⟩ = some (.slice A1 m c1) := (hw5.cell (p := ⟨w1.heap.size, 2, none⟩) l4_0).trans g4_0_2
    have l5_1 : w2.heap.size < w5.heap.size := by omega
    have g5_1_0 : w5.cell? ⟨w2.heap.size, 0, none⟩ = some (.int .i64 yy) := (hw5.cell (p := ⟨w2.heap.size, 0, none⟩) l4_1).trans g4_1_0
    have g5_1_1 : w5.cell? ⟨w2.heap.size, 1, none⟩ = some (.int .i64 dd) := (hw5.cell (p := ⟨w2.heap.size, 1, none⟩) l4_1).trans g4_1_1
    have g5_1_2 : w5.cell? ⟨w2.heap.size, 2, none⟩ = some (.slice A2 nn c2) := (hw5.cell (p := ⟨w2.heap.size, 2, none⟩) l4_1).trans g4_1_2
    have l5_2 : w3.heap.size < w5.heap.size := by omega
    have g5_2_0 : w5.cell? ⟨w3.heap.size, 0, none⟩ = some (.int .i64 yy) := (hw5.cell (p := ⟨w3.heap.size, 0, none⟩) l4_2).trans g4_2_0
    have g5_2_1 : w5.cell? ⟨w3.heap.size, 1, none⟩ = some (.int .i64 dd) := (hw5.cell (p := ⟨w3.heap.size, 1, none⟩) l4_2).trans g4_2_1
    have g5_2_2 : w5.cell? ⟨w3.heap.size, 2, none⟩ = some (.slice A3 nn c3) := (hw5.cell (p := ⟨w3.heap.size, 2, none⟩) l4_2).trans g4_2_2
    have HB5 := Lib.hid (HB4.out.trans (hw5.mono HB4.out.size))
    have Ha_5 := Lib.hid (Ha_4.out.below (by omega) hw5)
    have Ho_5 := Lib.hid (Ho_4.out.below (by omega) hw5)
    have Hp_5 := Lib.hid (Hp_4.out.below (by omega) hw5)
    have Hs_5 := Lib.hid (Hs_4.out.below (by omega) hw5)
    have Ht_5 := Lib.hid (Ht_4.out.below (by omega) hw5)
    clear hb5 hc5 hf5 hw5
    clear l4_0 g4_0_0 g4_0_1 g4_0_2
    clear l4_1 g4_1_0 g4_1_1 g4_1_2
    clear l4_2 g4_2_0 g4_2_1 g4_2_2
    clear Ha_4
    clear Ho_4
    clear Hp_4
    clear Hs_4
    clear Ht_4
    clear HB4
    cases hk : ok
    · skip
      subst hk
      go_wp2_with fail
      refine (samePk_same _ (q := fun i => (q i).p) (Hp_5.out.below (B := w5.heap.size) (by omega) (by repeat (first | (with_reducible exact Below.refl _ _) | (with_reducible refine Bal ?_ _) | (with_reducible refine Below.drew ?_) | (with_reducible refine below_drewN ?_ _) | (with_reducible refine Bset ?_ ?_ _; focus (first | (with_reducible exact Nat.le_refl _) | (simp; done) | (simp; omega) | omega)) | (with_reducible refine Bt ?_ (by assumption)) | (with_reducible refine Bp (g := g) ?_ (by assumption) (by assumption))))) (Ht_5.out.below (B := w5.heap.size) (by omega) (by repeat (first | (with_reducible exact Below.refl _ _) | (with_reducible refine Bal ?_ _) | (with_reducible refine Below.drew ?_) | (with_reducible refine below_drewN ?_ _) | (with_reducible refine Bset ?_ ?_ _; focus (first | (with_reducible exact Nat.le_refl _) | (simp; done) | (simp; omega) | omega)) | (with_reducible refine Bt ?_ (by assumption)) | (with_reducible refine Bp (g := g) ?_ (by assumption) (by assumption))))) (by first | exact Nat.le_refl _ | (simp; done) | (simp; omega) | omega) (by first | exact Nat.le_refl _ | (simp; done) | (simp; omega) | omega) hKn).mono ?_
      rintro e w6 ⟨rfl, hb6⟩
      have hw6 : Below w5.heap.size w5 w6 := by repeat (first | (with_reducible exact Below.refl _ _) | (with_reducible refine Bal ?_ _) | (with_reducible refine Below.drew ?_) | (with_reducible refine below_drewN ?_ _) | (with_reducible refine Bset ?_ ?_ _; focus (first | (with_reducible exact Nat.le_refl _) | (simp; done) | (simp; omega) | omega)) | (with_reducible refine Bt ?_ (by assumption)) | (with_reducible refine Bp (g := g) ?_ (by assumption) (by assumption)))
      have hz6 : w5.heap.size ≤ w6.heap.size := hw6.size
      obtain ⟨hc6, hf6⟩ := bcell hb6
      have hy6 := hb6.size
      try simp at hy6
      have l6_0 : w1.heap.size < w6.heap.size := by omega
      have g6_0_0 : w6.cell? ⟨w1.heap.size, 0, none⟩ = some (.int .i64 y) := (hw6.cell (p := ⟨w1.heap.size, 0, none⟩) l5_0).trans g5_0_0
      have g6_0_1 : w6.cell? ⟨w1.heap.size, 1, none⟩ = some (.int .i64 d) := (hw6.cell (p := ⟨w1.heap.size, 1, none⟩) l5_0).trans g5_0_1
      have g6_0_2 : w6.cell? ⟨w1.heap.size, 2, none⟩ = some (.slice A1 m c1) := (hw6.cell (p := ⟨w1.heap.size, 2, none⟩) l5_0).trans g5_0_2
      have l6_1 : w2.heap.size < w6.heap.size := by omega
      have g6_1_0 : w6.cell? ⟨w2.heap.size, 0, none⟩ = some (.int .i64 yy) := (hw6.cell (p := ⟨w2.heap.size, 0, none⟩) l5_1).trans g5_1_0
      have g6_1_1 : w6.cell? ⟨w2.heap.size, 1, none⟩ = some (.int .i64 dd) := (hw6.cell (p := ⟨w2.heap.size, 1, none⟩) l5_1).trans g5_1_1
      have g6_1_2 : w6.cell? ⟨w2.heap.size, 2, none⟩ = some (.slice A2 nn c2) := (hw6.cell (p := ⟨w2.heap.size, 2, none⟩) l5_1).trans g5_1_2
      have l6_2 : w3.heap.size < w6.heap.size := by omega
      have g6_2_0 : w6.cell? ⟨w3.heap.size, 0, none⟩ = some (.int .i64 yy) := (hw6.cell (p := ⟨w3.heap.size, 0, none⟩) l5_2).trans g5_2_0
      have g6_2_1 : w6.cell? ⟨w3.heap.size, 1, none⟩ = some (.int .i64 dd) := (hw6.cell (p := ⟨w3.heap.size, 1, none⟩) l5_2).trans g5_2_1
      have g6_2_2 : w6.cell? ⟨w3.heap.size, 2, none⟩ = some (.slice A3 nn c3) := (hw6.cell (p := ⟨w3.heap.size, 2, none⟩) l5_2).trans g5_2_2
      have HB6 := Lib.hid (HB5.out.trans (hw6.mono HB5.out.size))
      have Ha_6 := Lib.hid (Ha_5.out.below (by omega) hw6)
      have Ho_6 := Lib.hid (Ho_5.out.below (by omega) hw6)
      have Hp_6 := Lib.hid (Hp_5.out.below (by omega) hw6)
      have Hs_6 := Lib.hid (Hs_5.out.below (by omega) hw6)
      have Ht_6 := Lib.hid (Ht_5.out.below (by omega) hw6)
      clear hb6 hc6 hf6 hw6
      clear l5_0 g5_0_0 g5_0_1 g5_0_2
      clear l5_1 g5_1_0 g5_1_1 g5_1_2
      clear l5_2 g5_2_0 g5_2_1 g5_2_2
      clear Ha_5
      clear Ho_5
      clear Hp_5
      clear Hs_5
      clear Ht_5
      clear HB5
      go_wp2_with fail
      refine (sameBuffer_same _ (q := qq) (Ho_6.out.below (B := w6.heap.size) (by omega) (by repeat (first | (with_reducible exact Below.refl _ _) | (with_reducible refine Bal ?_ _) | (with_reducible refine Below.drew ?_) | (with_reducible refine below_drewN ?_ _) | (with_reducible refine Bset ?_ ?_ _; focus (first | (with_reducible exact Nat.le_refl _) | (simp; done) | (simp; omega) | omega)) | (with_reducible refine Bt ?_ (by assumption)) | (with_reducible refine Bp (g := g) ?_ (by assumption) (by assumption))))) (Hs_6.out.below (B := w6.heap.size) (by omega) (by repeat (first | (with_reducible exact Below.refl _ _) | (with_reducible refine Bal ?_ _) | (with_reducible refine Below.drew ?_) | (with_reducible refine below_drewN ?_ _) | (with_reducible refine Bset ?_ ?_ _; focus (first | (with_reducible exact Nat.le_refl _) | (simp; done) | (simp; omega) | omega)) | (with_reducible refine Bt ?_ (by assumption)) | (with_reducible refine Bp (g := g) ?_ (by assumption) (by assumption))))) (by first | exact Nat.le_refl _ | (simp; done) | (simp; omega) | omega) (by first | exact Nat.le_refl _ | (simp; done) | (simp; omega) | omega) hnn).mono ?_
      rintro e w7 ⟨rfl, hb7⟩
      have hw7 : Below w6.heap.size w6 w7 := by repeat (first | (with_reducible exact Below.refl _ _) | (with_reducible refine Bal ?_ _) | (with_reducible refine Below.drew ?_) | (with_reducible refine below_drewN ?_ _) | (with_reducible refine Bset ?_ ?_ _; focus (first | (with_reducible exact Nat.le_refl _) | (simp; done) | (simp; omega) | omega)) | (with_reducible refine Bt ?_ (by assumption)) | (with_reducible refine Bp (g := g) ?_ (by assumption) (by assumption)))
      have hz7 : w6.heap.size ≤ w7.heap.size := hw7.size
      obtain ⟨hc7, hf7⟩ := bcell hb7
      have hy7 := hb7.size
      try simp at hy7
      have l7_0 : w1.heap.size < w7.heap.size := by omega
      have g7_0_0 : w7.cell? ⟨w1.heap.size, 0, none⟩ = some (.int .i64 y) := (hw7.cell (p := ⟨w1.heap.size, 0, none⟩) l6_0).trans g6_0_0
      have g7_0_1 : w7.cell? ⟨w1.heap.size, 1, none⟩ = some (.int .i64 d) := (hw7.cell (p := ⟨w1.heap.size, 1, none⟩) l6_0).trans g6_0_1
      have g7_0_2 : w7.cell? ⟨w1.heap.size, 2, none⟩ = some (.slice A1 m c1) := (hw7.cell (p := ⟨w1.heap.size, 2, none⟩) l6_0).trans g6_0_2
      have l7_1 : w2.heap.size < w7.heap.size := by omega
      have g7_1_0 : w7.cell? ⟨w2.heap.size, 0, none⟩ = some (.int .i64 yy) := (hw7.cell (p := ⟨w2.heap.size, 0, none⟩) l6_1).trans g6_1_0
      have g7_1_1 : w7.cell? ⟨w2.heap.size, 1, none⟩ = some (.int .i64 dd) := (hw7.cell (p := ⟨w2.heap.size, 1, none⟩) l6_1).trans g6_1_1
      have g7_1_2 : w7.cell? ⟨w2.heap.size, 2, none⟩ = some (.slice A2 nn c2) := (hw7.cell (p := ⟨w2.heap.size, 2, none⟩) l6_1).trans g6_1_2
      have l7_2 : w3.heap.size < w7.heap.size := by omega
      have g7_2_0 : w7.cell? ⟨w3.heap.size, 0, none⟩ = some (.int .i64 yy) := (hw7.cell (p := ⟨w3.heap.size, 0, none⟩) l6_2).trans g6_2_0
      have g7_2_1 : w7.cell? ⟨w3.heap.size, 1, none⟩ = some (.int .i64 dd) := (hw7.cell (p := ⟨w3.heap.size, 1, none⟩) l6_2).trans g6_2_1
      have g7_2_2 : w7.cell? ⟨w3.heap.size, 2, none⟩ = some (.slice A3 nn c3) := (hw7.cell (p := ⟨w3.heap.size, 2, none⟩) l6_2).trans g6_2_2
      have HB7 := Lib.hid (HB6.out.trans (hw7.mono HB6.out.size))
      have Ha_7 := Lib.hid (Ha_6.out.below (by omega) hw7)
      have Ho_7 := Lib.hid (Ho_6.out.below (by omega) hw7)
      have Hp_7 := Lib.hid (Hp_6.out.below (by omega) hw7)
      have Hs_7 := Lib.hid (Hs_6.out.below (by omega) hw7)
      have Ht_7 := Lib.hid (Ht_6.out.below (by omega) hw7)
      clear hb7 hc7 hf7 hw7
      clear l6_0 g6_0_0 g6_0_1 g6_0_2
      clear l6_1 g6_1_0 g6_1_1 g6_1_2
      clear l6_2 g6_2_0 g6_2_1 g6_2_2
      clear Ha_6
      clear Ho_6
      clear Hp_6
      clear Hs_6
      clear Ht_6
      clear HB6
      go_wp2_with fail
      go_ret
      refine ⟨rfl, ?_⟩
      have hxx := HB7.out
      repeat (first | (with_reducible exact hxx) | (with_reducible refine Bal ?_ _) | (with_reducible refine Below.drew ?_))
    · skip
      subst hk
      obtain ⟨hv, ht, hKm, _⟩ := OK.out rfl
      obtain ⟨K2, f1, f2, f3⟩ := first_no (tkA_end y d m q 100998)
      obtain rfl : m = K2 := (all_late hv f1 f2).symm
      have HL := Lib.hid (fun W lo hi A c (h1 : RowAt W lo hi A m 7 (HdF q)) (h2 : hi ≤ W.heap.size) => iba_ok W lo hi A m c y d 100998 q m h1 h2 hmn hv (by omega) f1 f2 f3)
      have e0 : m - m = 0 := by omega
      rw [e0] at HL
      clear hv ht f1 f2 f3 e0
      generalize yAt y q m = Y9 at HL
      generalize dropQ q m = Q9 at HL
      go_wp2_with fail
      refine (HL.out _ _ _ _ _ (Ha_5.out.below (B := w5.heap.size) (by omega) (by repeat (first | (with_reducible exact Below.refl _ _) | (with_reducible refine Bal ?_ _) | (with_reducible refine Below.drew ?_) | (with_reducible refine below_drewN ?_ _) | (with_reducible refine Bset ?_ ?_ _; focus (first | (with_reducible exact Nat.le_refl _) | (simp; done) | (simp; omega) | omega)) | (with_reducible refine Bt ?_ (by assumption)) | (with_reducible refine Bp (g := g) ?_ (by assumption) (by assumption))))) (by first | exact Nat.le_refl _ | (simp; done) | (simp; omega) | omega)).mono ?_
      rintro e w8 ⟨A8, c8, B8, cb8, hO, hP, hdis, rfl, hb8⟩
      have rO : RowAt w8 0 w8.heap.size A8 0 7 (HdF Q9) := hO.row.wide (Nat.zero_le _) (Nat.le_refl _)
      have rP : RowAt w8 0 w8.heap.size B8 m 6 (PkF fun i => (q i).p) := hP.row.wide (Nat.zero_le _) (Nat.le_refl _)
      have RO := Lib.hid rO
      have RP := Lib.hid rP
      clear hO hP hdis rO rP
      have hw8 : Below w5.heap.size w5 w8 := by repeat (first | (with_reducible exact Below.refl _ _) | (with_reducible refine Bal ?_ _) | (with_reducible refine Below.drew ?_) | (with_reducible refine below_drewN ?_ _) | (with_reducible refine Bset ?_ ?_ _; focus (first | (with_reducible exact Nat.le_refl _) | (simp; done) | (simp; omega) | omega)) | (with_reducible refine Bt ?_ (by assumption)) | (with_reducible refine Bp (g := g) ?_ (by assumption) (by assumption)))
      have hz8 : w5.heap.size ≤ w8.heap.size := hw8.size
      obtain ⟨hc8, hf8⟩ := bcell hb8
      have hy8 := hb8.size
      try simp at hy8
      have l8_0 : w1.heap.size < w8.heap.size := by omega
      have g8_0_0 : w8.cell? ⟨w1.heap.size, 0, none⟩ = some (.int .i64 y) := (hw8.cell (p := ⟨w1.heap.size, 0, none⟩) l5_0).trans g5_0_0
      have g8_0_1 : w8.cell? ⟨w1.heap.size, 1, none⟩ = some (.int .i64 d) := (hw8.cell (p := ⟨w1.heap.size, 1, none⟩) l5_0).trans g5_0_1
      have g8_0_2 : w8.cell? ⟨w1.heap.size, 2, none⟩ = some (.slice A1 m c1) := (hw8.cell (p := ⟨w1.heap.size, 2, none⟩) l5_0).trans g5_0_2
      have l8_1 : w2.heap.size < w8.heap.size := by omega
      have g8_1_0 : w8.cell? ⟨w2.heap.size, 0, none⟩ = some (.int .i64 yy) := (hw8.cell (p := ⟨w2.heap.size, 0, none⟩) l5_1).trans g5_1_0
      have g8_1_1 : w8.cell? ⟨w2.heap.size, 1, none⟩ = some (.int .i64 dd) := (hw8.cell (p := ⟨w2.heap.size, 1, none⟩) l5_1).trans g5_1_1
      have g8_1_2 : w8.cell? ⟨w2.heap.size, 2, none⟩ = some (.slice A2 nn c2) := (hw8.cell (p := ⟨w2.heap.size, 2, none⟩) l5_1).trans g5_1_2
      have l8_2 : w3.heap.size < w8.heap.size := by omega
      have g8_2_0 : w8.cell? ⟨w3.heap.size, 0, none⟩ = some (.int .i64 yy) := (hw8.cell (p := ⟨w3.heap.size, 0, none⟩) l5_2).trans g5_2_0
      have g8_2_1 : w8.cell? ⟨w3.heap.size, 1, none⟩ = some (.int .i64 dd) := (hw8.cell (p := ⟨w3.heap.size, 1, none⟩) l5_2).trans g5_2_1
      have g8_2_2 : w8.cell? ⟨w3.heap.size, 2, none⟩ = some (.slice A3 nn c3) := (hw8.cell (p := ⟨w3.heap.size, 2, none⟩) l5_2).trans g5_2_2
      have HB8 := Lib.hid (HB5.out.trans (hw8.mono HB5.out.size))
      have Ha_8 := Lib.hid (Ha_5.out.below (by omega) hw8)
      have Ho_8 := Lib.hid (Ho_5.out.below (by omega) hw8)
      have Hp_8 := Lib.hid (Hp_5.out.below (by omega) hw8)
      have Hs_8 := Lib.hid (Hs_5.out.below (by omega) hw8)
      have Ht_8 := Lib.hid (Ht_5.out.below (by omega) hw8)
      clear hb8 hc8 hf8 hw8
      clear l5_0 g5_0_0 g5_0_1 g5_0_2
      clear l5_1 g5_1_0 g5_1_1 g5_1_2
      clear l5_2 g5_2_0 g5_2_1 g5_2_2
      clear Ha_5
      clear Ho_5
      clear Hp_5
      clear Hs_5
      clear Ht_5
      clear HB5
      have Hx_8 := RO
      have Hz_8 := RP
      clear RO RP
      have hle : (K : Int) ≤ (m : Int) := by omega
      go_wp2_with fail
      go_ret
      refine ⟨rfl, ?_⟩
      have hxx := HB8.out
      repeat (first | (with_reducible exact hxx) | (with_reducible refine Bal ?_ _) | (with_reducible refine Below.drew ?_))

end Go.Proofs.Ytegdogamenoaiaa
namespace Go.Proofs.Ytegdogamenoaiaa.fnHoldAllLater
open Go.ChangeShapes Go.WideShapes Go.ChangeAt Go.RowKit
set_option linter.unusedVariables false

theorem own : ownKnob Try.prog.godebug = none := by kernel_rfl
theorem laidOut : laidOutB Try.prog = true := by kernel_rfl

set_option maxRecDepth 100000 in
theorem lifted (os : Os) (started : os.Started) (H : Type) (enc : TypeId × Value → H) :
    ReturnsInHanded {} Try.checked os 15 .any (Rows.fnHoldAllLaterSpec.pre6 enc Try.prog Try.f15 Rows.fnHoldAllLaterRow.domain false) (Rows.fnHoldAllLaterSpec.post enc Try.prog Try.f15 false true false false) := by
  refine returnsInHanded_of_change (C := Try.checked) own started (by kernel_rfl) Try.func15
    (ChangeSpec.witness6 (enc := enc) (C := Try.checked) false ⟨#[], #[.slice none 0 0], []⟩ 8 (by kernel_rfl) (by kernel_rfl) (by kernel_rfl) (by kernel_rfl)) ?_
  intro W base args ds gs before hval0 hW hcnd _
  have hval : ∀ (j : Nat) t v, Try.f15.params[j]? = some t → args[j]? = some v → Value.okWide Try.prog W .any base t v := hval0
  have hW' := hW
  obtain ⟨p, q, hA0, hV, rfl, hfz, hnd⟩ := hW
  have hA : DataW.TrodAll enc Try.prog W 0 (fun _ => true) true Try.f15.params.toList args.toList ds p := hA0
  rw [Try.params15] at hA hval
  obtain ⟨v0, vs0, d0, ds0, p0, q0, hargs, rfl, rfl, h0, r0⟩ := trodAll_cons hA
  obtain ⟨rfl, rfl, rfl⟩ := trodAll_nil r0
  obtain rfl : args = #[v0] := by cases args; simp_all
  obtain ⟨rfl, rfl⟩ := trodVars_none hV
  have k0 := h0
  have lt0 : ∀ x ∈ p0, x.block < W.heap.size := by obtain ⟨m, hm⟩ := k0; exact DataW.trod_lt m _ _ _ hm
  obtain ⟨a0, n0, c0, rfl, w0⟩ := open_code (hval 0 48 v0 rfl rfl) h0
  clear hA0 hval0
  refine (walk_FnHoldAllLater a0 n0 c0 W w0).mono fun e W' ⟨he, bel⟩ => ?_
  subst he
  exact ⟨_, rfl, _, _, _, [], _, [], hW', trodAll_mk1 (shut_bool Try.underlying4 _), (trodAll_cons_mk (Below.trod laidOut (by kernel_rfl) (of_decide_eq_true (by kernel_rfl)) k0 bel lt0) trodAll_mk0), rfl, bel.frame _, fun h => by cases h⟩

theorem over : Rows.fnHoldAllLaterRow.holds Try.pinned (OpenSpec.ofChange Rows.fnHoldAllLaterSpec) :=
  OpenClaim.holds_of_wide 15 Try.f15 rfl rfl rfl rfl rfl rfl rfl ⟨rfl, rfl, rfl, rfl, rfl⟩ rfl rfl rfl rfl rfl (by kernel_rfl) Try.func15 (by kernel_rfl)
    (of_decide_eq_true (by kernel_rfl)) (by unfold Func.isWrapper; first | (rw [if_pos (by decide +kernel)]; kernel_rfl) | (rw [if_neg (by decide +kernel)]; exact ⟨rfl, rfl⟩))
    (fun os started H enc _ => lifted os started H enc)

/-- The statement. -/
theorem proved : Rows.FnHoldAllLaterSaid := over
#print axioms proved
end Go.Proofs.Ytegdogamenoaiaa.fnHoldAllLater
