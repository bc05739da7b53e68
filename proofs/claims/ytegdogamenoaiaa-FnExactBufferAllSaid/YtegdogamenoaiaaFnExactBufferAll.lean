/- The law FnExactBufferAll of the program is true at every input: the call returns true, and each argument reads behind the call as before. Conditions: none. -/
import Derived.Test.YtegdogamenoaiaaPkv
import Derived.Test.YtegdogamenoaiaaBam
import Derived.WalkKit
import Derived.ProofKit
import Derived.OpenShut
import Derived.ShutString
import Derived.ChangeOld
import Derived.Below
import Derived.Test.YtegdogamenoaiaaPkv
import Derived.Test.YtegdogamenoaiaaBam
namespace Go.Proofs.Ytegdogamenoaiaa
open Go.RowKit
set_option linter.unusedVariables false
set_option linter.unusedSimpArgs false

set_option maxRecDepth 100000 in
set_option maxHeartbeats 32000000 in
theorem walk_FnExactBufferAll (y d : Int) (A : Option Addr) (n c : Nat) (q : Nat → Hd) (now : Int) (w : World) (h : RowAt w 0 w.heap.size A n 7 (HdF q)) (hm : n ≤ maxLen) (hnow : (Lit.int .i64 now).wf = true) :
    Calls Try.prog 5 #[.agg #[.int .i64 y, .int .i64 d, .slice A n c], .int .i64 now] w fun e w' => e = .returned (.bool true) ∧ Below w.heap.size w w' := by
  unfold maxLen at hm
  have H := Lib.hid h
  clear h hnow
  by_cases hn0 : 1048576 < n
  · go_enter Try.func5, Try.ntmps5
    go_wp2_with fail
    refine (szBf_out _ A n c y d hn0 hm).mono ?_
    rintro e w0 ⟨rfl, hb0⟩
    go_wp2_with fail
    go_ret
    go_light
    refine ⟨rfl, ?_⟩
    repeat (first | (with_reducible exact Below.refl _ _) | (with_reducible refine Bal ?_ _) | (with_reducible refine Below.drew ?_) | (with_reducible refine below_drewN ?_ _) | (with_reducible refine Bset ?_ ?_ _; focus (first | (with_reducible exact Nat.le_refl _) | (simp; done) | (simp; omega) | omega)) | (with_reducible refine Bt ?_ (by assumption)) | (with_reducible refine Bp (g := g) ?_ (by assumption) (by assumption)))
  · have hn : n ≤ 1048576 := by omega
    clear hn0 hm
    have hx : ¬ (1048576 : Int) - n < 0 := by omega
    obtain ⟨yy, dd, nn, qq, K, ok, hnn, hKn, _, hi, hs⟩ := ba_any y d now n q hn
    have HI := Lib.hid hi
    have HS := Lib.hid hs
    clear hi hs
    go_enter Try.func5, Try.ntmps5
    go_wp2_with fail
    refine (szBf_in _ A n c y d hn).mono ?_
    rintro e w0 ⟨rfl, hb0⟩
    have hw0 : Below w.heap.size w w0 := by repeat (first | (with_reducible exact Below.refl _ _) | (with_reducible refine Bal ?_ _) | (with_reducible refine Below.drew ?_) | (with_reducible refine below_drewN ?_ _) | (with_reducible refine Bset ?_ ?_ _; focus (first | (with_reducible exact Nat.le_refl _) | (simp; done) | (simp; omega) | omega)) | (with_reducible refine Bt ?_ (by assumption)) | (with_reducible refine Bp (g := g) ?_ (by assumption) (by assumption)))
    have hz0 : w.heap.size ≤ w0.heap.size := hw0.size
    obtain ⟨hc0, hf0⟩ := bcell hb0
    have hy0 := hb0.size
    try simp at hy0
    have l0_0 : w.heap.size < w0.heap.size := by omega
    have g0_0_0 : w0.cell? ⟨w.heap.size, 0, none⟩ = some (.int .i64 y) := (hc0 (w.heap.size) 0 (by first | (simp; done) | (simp; omega) | omega)).trans (by go_simp; try rfl)
    have g0_0_1 : w0.cell? ⟨w.heap.size, 1, none⟩ = some (.int .i64 d) := (hc0 (w.heap.size) 1 (by first | (simp; done) | (simp; omega) | omega)).trans (by go_simp; try rfl)
    have g0_0_2 : w0.cell? ⟨w.heap.size, 2, none⟩ = some (.slice A n c) := (hc0 (w.heap.size) 2 (by first | (simp; done) | (simp; omega) | omega)).trans (by go_simp; try rfl)
    have HB0 := Lib.hid hw0
    have Ha_0 := Lib.hid (H.out.below (Nat.le_refl _) hw0)
    clear hb0 hc0 hf0 hw0
    go_wp2_with fail
    refine (toBf_any _ 0 w.heap.size A n c y d q (Ha_0.out.below (B := w0.heap.size) (by omega) (by repeat (first | (with_reducible exact Below.refl _ _) | (with_reducible refine Bal ?_ _) | (with_reducible refine Below.drew ?_) | (with_reducible refine below_drewN ?_ _) | (with_reducible refine Bset ?_ ?_ _; focus (first | (with_reducible exact Nat.le_refl _) | (simp; done) | (simp; omega) | omega)) | (with_reducible refine Bt ?_ (by assumption)) | (with_reducible refine Bp (g := g) ?_ (by assumption) (by assumption))))) (by first | exact Nat.le_refl _ | (simp; done) | (simp; omega) | omega) hn).mono ?_
    rintro e w1 ⟨A1, c1, hO, rfl, hb1⟩
    obtain ⟨L1, hL1, hO1⟩ : ∃ L : Nat, L = _ ∧ RowOwn 54 w1 L w1.heap.size A1 n c1 7 (HdF q) := ⟨_, rfl, hO⟩
    try simp at hL1
    clear hO
    have hw1 : Below w0.heap.size w0 w1 := by repeat (first | (with_reducible exact Below.refl _ _) | (with_reducible refine Bal ?_ _) | (with_reducible refine Below.drew ?_) | (with_reducible refine below_drewN ?_ _) | (with_reducible refine Bset ?_ ?_ _; focus (first | (with_reducible exact Nat.le_refl _) | (simp; done) | (simp; omega) | omega)) | (with_reducible refine Bt ?_ (by assumption)) | (with_reducible refine Bp (g := g) ?_ (by assumption) (by assumption)))
    have hz1 : w0.heap.size ≤ w1.heap.size := hw1.size
    obtain ⟨hc1, hf1⟩ := bcell hb1
    have hy1 := hb1.size
    try simp at hy1
    have l1_0 : w.heap.size < w1.heap.size := by omega
    have g1_0_0 : w1.cell? ⟨w.heap.size, 0, none⟩ = some (.int .i64 y) := (hw1.cell (p := ⟨w.heap.size, 0, none⟩) l0_0).trans g0_0_0
    have g1_0_1 : w1.cell? ⟨w.heap.size, 1, none⟩ = some (.int .i64 d) := (hw1.cell (p := ⟨w.heap.size, 1, none⟩) l0_0).trans g0_0_1
    have g1_0_2 : w1.cell? ⟨w.heap.size, 2, none⟩ = some (.slice A n c) := (hw1.cell (p := ⟨w.heap.size, 2, none⟩) l0_0).trans g0_0_2
    have HB1 := Lib.hid (HB0.out.trans (hw1.mono HB0.out.size))
    have Ha_1 := Lib.hid (Ha_0.out.below (by omega) hw1)
    clear hb1 hc1 hf1 hw1
    clear l0_0 g0_0_0 g0_0_1 g0_0_2
    clear Ha_0
    clear HB0
    have M1 := Nat.le_of_eq hL1.symm
    have N1 : L1 ≤ w1.heap.size := by omega
    clear hL1
    have Ht_1 := Lib.hid hO1
    clear hO1
    go_wp2_with fail
    refine (HS.out _ _ _ _ _ (RowOwn.row (Ht_1.out.below (B := w1.heap.size) (by omega) (by repeat (first | (with_reducible exact Below.refl _ _) | (with_reducible refine Bal ?_ _) | (with_reducible refine Below.drew ?_) | (with_reducible refine below_drewN ?_ _) | (with_reducible refine Bset ?_ ?_ _; focus (first | (with_reducible exact Nat.le_refl _) | (simp; done) | (simp; omega) | omega)) | (with_reducible refine Bt ?_ (by assumption)) | (with_reducible refine Bp (g := g) ?_ (by assumption) (by assumption)))))) (by first | exact Nat.le_refl _ | (simp; done) | (simp; omega) | omega)).mono ?_
    rintro e w2 ⟨A2, c2, B2, cb2, hO, hP, hdis, rfl, hb2⟩
    obtain ⟨L2, hL2, hO2, hP2⟩ : ∃ L : Nat, L = _ ∧ RowOwn 54 w2 L w2.heap.size A2 nn c2 7 (HdF qq) ∧ RowOwn 30 w2 L w2.heap.size B2 K cb2 6 (PkF fun i => (q i).p) := ⟨_, rfl, hO, hP⟩
    try simp at hL2
    have D2 := Lib.hid hdis
    clear hO hP hdis
    have hw2 : Below w1.heap.size w1 w2 := by repeat (first | (with_reducible exact Below.refl _ _) | (with_reducible refine Bal ?_ _) | (with_reducible refine Below.drew ?_) | (with_reducible refine below_drewN ?_ _) | (with_reducible refine Bset ?_ ?_ _; focus (first | (with_reducible exact Nat.le_refl _) | (simp; done) | (simp; omega) | omega)) | (with_reducible refine Bt ?_ (by assumption)) | (with_reducible refine Bp (g := g) ?_ (by assumption) (by assumption)))
    have hz2 : w1.heap.size ≤ w2.heap.size := hw2.size
    obtain ⟨hc2, hf2⟩ := bcell hb2
    have hy2 := hb2.size
    try simp at hy2
    have l2_0 : w.heap.size < w2.heap.size := by omega
    have g2_0_0 : w2.cell? ⟨w.heap.size, 0, none⟩ = some (.int .i64 y) := (hw2.cell (p := ⟨w.heap.size, 0, none⟩) l1_0).trans g1_0_0
    have g2_0_1 : w2.cell? ⟨w.heap.size, 1, none⟩ = some (.int .i64 d) := (hw2.cell (p := ⟨w.heap.size, 1, none⟩) l1_0).trans g1_0_1
    have g2_0_2 : w2.cell? ⟨w.heap.size, 2, none⟩ = some (.slice A n c) := (hw2.cell (p := ⟨w.heap.size, 2, none⟩) l1_0).trans g1_0_2
    have HB2 := Lib.hid (HB1.out.trans (hw2.mono HB1.out.size))
    have Ha_2 := Lib.hid (Ha_1.out.below (by omega) hw2)
    have Ht_2 := Lib.hid (Ht_1.out.below (by omega) hw2)
    clear hb2 hc2 hf2 hw2
    clear l1_0 g1_0_0 g1_0_1 g1_0_2
    clear Ha_1
    clear Ht_1
    clear HB1
    have M2 := Nat.le_of_eq hL2.symm
    have N2 : L2 ≤ w2.heap.size := by omega
    clear hL2
    have Hs_2 := Lib.hid hO2
    clear hO2
    have Hu_2 := Lib.hid hP2
    clear hP2
    go_wp2_with fail
    refine (toBf_any _ 0 w.heap.size A n c y d q (Ha_2.out.below (B := w2.heap.size) (by omega) (by repeat (first | (with_reducible exact Below.refl _ _) | (with_reducible refine Bal ?_ _) | (with_reducible refine Below.drew ?_) | (with_reducible refine below_drewN ?_ _) | (with_reducible refine Bset ?_ ?_ _; focus (first | (with_reducible exact Nat.le_refl _) | (simp; done) | (simp; omega) | omega)) | (with_reducible refine Bt ?_ (by assumption)) | (with_reducible refine Bp (g := g) ?_ (by assumption) (by assumption))))) (by first | exact Nat.le_refl _ | (simp; done) | (simp; omega) | omega) hn).mono ?_
    rintro e w3 ⟨A3, c3, hO, rfl, hb3⟩
    obtain ⟨L3, hL3, hO3⟩ : ∃ L : Nat, L = _ ∧ RowOwn 54 w3 L w3.heap.size A3 n c3 7 (HdF q) := ⟨_, rfl, hO⟩
    try simp at hL3
    clear hO
    have hw3 : Below w2.heap.size w2 w3 := by repeat (first | (with_reducible exact Below.refl _ _) | (with_reducible refine Bal ?_ _) | (with_reducible refine Below.drew ?_) | (with_reducible refine below_drewN ?_ _) | (with_reducible refine Bset ?_ ?_ _; focus (first | (with_reducible exact Nat.le_refl _) | (simp; done) | (simp; omega) | omega)) | (with_reducible refine Bt ?_ (by assumption)) | (with_reducible refine Bp (g := g) ?_ (by assumption) (by assumption)))
    have hz3 : w2.heap.size ≤ w3.heap.size := hw3.size
    obtain ⟨hc3, hf3⟩ := bcell hb3
    have hy3 := hb3.size
    try simp at hy3
    have l3_0 : w.heap.size < w3.heap.size := by omega
    have g3_0_0 : w3.cell? ⟨w.heap.size, 0, none⟩ = some (.int .i64 y) := (hw3.cell (p := ⟨w.heap.size, 0, none⟩) l2_0).trans g2_0_0
    have g3_0_1 : w3.cell? ⟨w.heap.size, 1, none⟩ = some (.int .i64 d) := (hw3.cell (p := ⟨w.heap.size, 1, none⟩) l2_0).trans g2_0_1
    have g3_0_2 : w3.cell? ⟨w.heap.size, 2, none⟩ = some (.slice A n c) := (hw3.cell (p := ⟨w.heap.size, 2, none⟩) l2_0).trans g2_0_2
    have l3_1 : w2.heap.size < w3.heap.size := by omega
    have g3_1_0 : w3.cell? ⟨w2.heap.size, 0, none⟩ = some (.int .i64 yy) := (hc3 (w2.heap.size) 0 (by first | (simp; done) | (simp; omega) | omega)).trans (by go_simp; try rfl)
    have g3_1_1 : w3.cell? ⟨w2.heap.size, 1, none⟩ = some (.int .i64 dd) := (hc3 (w2.heap.size) 1 (by first | (simp; done) | (simp; omega) | omega)).trans (by go_simp; try rfl)
    have g3_1_2 : w3.cell? ⟨w2.heap.size, 2, none⟩ = some (.slice A2 nn c2) := (hc3 (w2.heap.size) 2 (by first | (simp; done) | (simp; omega) | omega)).trans (by go_simp; try rfl)
    have HB3 := Lib.hid (HB2.out.trans (hw3.mono HB2.out.size))
    have Ha_3 := Lib.hid (Ha_2.out.below (by omega) hw3)
    have Hs_3 := Lib.hid (Hs_2.out.below (by omega) hw3)
    have Hu_3 := Lib.hid (Hu_2.out.below (by omega) hw3)
    clear hb3 hc3 hf3 hw3
    clear l2_0 g2_0_0 g2_0_1 g2_0_2
    clear Ha_2
    clear Ht_2
    clear Hs_2
    clear Hu_2
    clear HB2
    have M3 := Nat.le_of_eq hL3.symm
    have N3 : L3 ≤ w3.heap.size := by omega
    clear hL3
    have Hx_3 := Lib.hid hO3
    clear hO3
    go_wp2_with fail
    refine (HI.out _ _ _ _ _ (RowOwn.row (Hx_3.out.below (B := w3.heap.size) (by omega) (by repeat (first | (with_reducible exact Below.refl _ _) | (with_reducible refine Bal ?_ _) | (with_reducible refine Below.drew ?_) | (with_reducible refine below_drewN ?_ _) | (with_reducible refine Bset ?_ ?_ _; focus (first | (with_reducible exact Nat.le_refl _) | (simp; done) | (simp; omega) | omega)) | (with_reducible refine Bt ?_ (by assumption)) | (with_reducible refine Bp (g := g) ?_ (by assumption) (by assumption)))))) (by first | exact Nat.le_refl _ | (simp; done) | (simp; omega) | omega)).mono ?_
    rintro e w4 ⟨A4, c4, B4, cb4, hO, hP, hdis, rfl, hb4⟩
    obtain ⟨L4, hL4, hO4, hP4⟩ : ∃ L : Nat, L = _ ∧ RowOwn 54 w4 L w4.heap.size A4 nn c4 7 (HdF qq) ∧ RowOwn 30 w4 L w4.heap.size B4 K cb4 6 (PkF fun i => (q i).p) := ⟨_, rfl, hO, hP⟩
    try simp at hL4
    have D4 := Lib.hid hdis
    clear hO hP hdis
    have hw4 : Below w3.heap.size w3 w4 := by repeat (first | (with_reducible exact Below.refl _ _) | (with_reducible refine Bal ?_ _) | (with_reducible refine Below.drew ?_) | (with_reducible refine below_drewN ?_ _) | (with_reducible refine Bset ?_ ?_ _; focus (first | (with_reducible exact Nat.le_refl _) | (simp; done) | (simp; omega) | omega)) | (with_reducible refine Bt ?_ (by assumption)) | (with_reducible refine Bp (g := g) ?_ (by assumption) (by assumption)))
    have hz4 : w3.heap.size ≤ w4.heap.size := hw4.size
    obtain ⟨hc4, hf4⟩ := bcell hb4
    have hy4 := hb4.size
    try simp at hy4
    have l4_0 : w.heap.size < w4.heap.size := by omega
    have g4_0_0 : w4.cell? ⟨w.heap.size, 0, none⟩ = some (.int .i64 y) := (hw4.cell (p := ⟨w.heap.size, 0, none⟩) l3_0).trans g3_0_0
    have g4_0_1 : w4.cell? ⟨w.heap.size, 1, none⟩ = some (.int .i64 d) := (hw4.cell (p := ⟨w.heap.size, 1, none⟩) l3_0).trans g3_0_1
    have g4_0_2 : w4.cell? ⟨w.heap.size, 2, none⟩ = some (.slice A n c) := (hw4.cell (p := ⟨w.heap.size, 2, none⟩) l3_0).trans g3_0_2
    have l4_1 : w2.heap.size < w4.heap.size := by omega
    have g4_1_0 : w4.cell? ⟨w2.heap.size, 0, none⟩ = some (.int .i64 yy) := (hw4.cell (p := ⟨w2.heap.size, 0, none⟩) l3_1).trans g3_1_0
    have g4_1_1 : w4.cell? ⟨w2.heap.size, 1, none⟩ = some (.int .i64 dd) := (hw4.cell (p := ⟨w2.heap.size, 1, none⟩) l3_1).trans g3_1_1
    have g4_1_2 : w4.cell? ⟨w2.heap.size, 2, none⟩ = some (.slice A2 nn c2) := (hw4.cell (p := ⟨w2.heap.size, 2, none⟩) l3_1).trans g3_1_2
    have l4_2 : w3.heap.size < w4.heap.size := by omega
    have g4_2_0 : w4.cell? ⟨w3.heap.size, 0, none⟩ = some (.int .i64 y) := (hc4 (w3.heap.size) 0 (by first | (simp; done) | (simp; omega) | omega)).trans (by go_simp; try rfl)
    have g4_2_1 : w4.cell? ⟨w3.heap.size, 1, none⟩ = some (.int .i64 d) := (hc4 (w3.heap.size) 1 (by first | (simp; done) | (simp; omega) | omega)).trans (by go_simp; try rfl)
    have g4_2_2 : w4.cell? ⟨w3.heap.size, 2, none⟩ = some (.slice A3 n c3) := (hc4 (w3.heap.size) 2 (by first | (simp; done) | (simp; omega) | omega)).trans (by go_simp; try rfl)
    have HB4 := Lib.hid (HB3.out.trans (hw4.mono HB3.out.size))
    have Ha_4 := Lib.hid (Ha_3.out.below (by omega) hw4)
    have Hs_4 := Lib.hid (Hs_3.out.below (by omega) hw4)
    have Hu_4 := Lib.hid (Hu_3.out.below (by omega) hw4)
    have Hx_4 := Lib.hid (Hx_3.out.below (by omega) hw4)
    clear hb4 hc4 hf4 hw4
    clear l3_0 g3_0_0 g3_0_1 g3_0_2
    clear l3_1 g3_1_0 g3_1_1 g3_1_2
    clear Ha_3
    clear Hs_3
    clear Hu_3
    clear Hx_3
    clear HB3
    have M4 := Nat.le_of_eq hL4.symm
    have N4 : L4 ≤ w4.heap.size := by omega
    clear hL4
    have Hg_4 := Lib.hid hO4
    clear hO4
    have Hp_4 := Lib.hid hP4
    clear hP4
    go_wp2_with fail
    refine (eqBf_same _ (RowOwn.row (Hg_4.out.below (B := w4.heap.size) (by omega) (by repeat (first | (with_reducible exact Below.refl _ _) | (with_reducible refine Bal ?_ _) | (with_reducible refine Below.drew ?_) | (with_reducible refine below_drewN ?_ _) | (with_reducible refine Bset ?_ ?_ _; focus (first | (with_reducible exact Nat.le_refl _) | (simp; done) | (simp; omega) | omega)) | (with_reducible refine Bt ?_ (by assumption)) | (with_reducible refine Bp (g := g) ?_ (by assumption) (by assumption)))))) (RowOwn.row (Hs_4.out.below (B := w4.heap.size) (by omega) (by repeat (first | (with_reducible exact Below.refl _ _) | (with_reducible refine Bal ?_ _) | (with_reducible refine Below.drew ?_) | (with_reducible refine below_drewN ?_ _) | (with_reducible refine Bset ?_ ?_ _; focus (first | (with_reducible exact Nat.le_refl _) | (simp; done) | (simp; omega) | omega)) | (with_reducible refine Bt ?_ (by assumption)) | (with_reducible refine Bp (g := g) ?_ (by assumption) (by assumption)))))) (by first | exact Nat.le_refl _ | (simp; done) | (simp; omega) | omega) (by first | exact Nat.le_refl _ | (simp; done) | (simp; omega) | omega) hnn).mono ?_
    rintro e w5 ⟨rfl, hb5⟩
    have hw5 : Below w4.heap.size w4 w5 := by repeat (first | (with_reducible exact Below.refl _ _) | (with_reducible refine Bal ?_ _) | (with_reducible refine Below.drew ?_) | (with_reducible refine below_drewN ?_ _) | (with_reducible refine Bset ?_ ?_ _; focus (first | (with_reducible exact Nat.le_refl _) | (simp; done) | (simp; omega) | omega)) | (with_reducible refine Bt ?_ (by assumption)) | (with_reducible refine Bp (g := g) ?_ (by assumption) (by assumption)))
    have hz5 : w4.heap.size ≤ w5.heap.size := hw5.size
    obtain ⟨hc5, hf5⟩ := bcell hb5
    have hy5 := hb5.size
    try simp at hy5
    have l5_0 : w.heap.size < w5.heap.size := by omega
    have g5_0_0 : w5.cell? ⟨w.heap.size, 0, none⟩ = some (.int .i64 y) := (hw5.cell (p := ⟨w.heap.size, 0, none⟩) l4_0).trans g4_0_0
    have g5_0_1 : w5.cell? ⟨w.heap.size, 1, none⟩ = some (.int .i64 d) := (hw5.cell (p := ⟨w.heap.size, 1, none⟩) l4_0).trans g4_0_1
    have g5_0_2 : w5.cell? ⟨w.heap.size, 2, none⟩ = some (.slice A n c) := (hw5.cell (p := ⟨w.heap.size, 2, none⟩) l4_0).trans g4_0_2
    have l5_1 : w2.heap.size < w5.heap.size := by omega
    have g5_1_0 : w5.cell? ⟨w2.heap.size, 0, none⟩ = some (.int .i64 yy) := (hw5.cell (p := ⟨w2.heap.size, 0, none⟩) l4_1).trans g4_1_0
    have g5_1_1 : w5.cell? ⟨w2.heap.size, 1, none⟩ = some (.int .i64 dd) := (hw5.cell (p := ⟨w2.heap.size, 1, none⟩) l4_1).trans g4_1_1
    have g5_1_2 : w5.cell? ⟨w2.heap.size, 2, none⟩ = some (.slice A2 nn c2) := (hw5.cell (p := ⟨w2.heap.size, 2, none⟩) l4_1).trans g4_1_2
    have l5_2 : w3.heap.size < w5.heap.size := by omega
    have g5_2_0 : w5.cell? ⟨w3.heap.size, 0, none⟩ = some (.int .i64 y) := (hw5.cell (p := ⟨w3.heap.size, 0, none⟩) l4_2).trans g4_2_0
    have g5_2_1 : w5.cell? ⟨w3.heap.size, 1, none⟩ = some (.int .i64 d) := (hw5.cell (p := ⟨w3.heap.size, 1, none⟩) l4_2).trans g4_2_1
    have g5_2_2 : w5.cell? ⟨w3.heap.size, 2, none⟩ = some (.slice A3 n c3) := (hw5.cell (p := ⟨w3.heap.size, 2, none⟩) l4_2).trans g4_2_2
    have l5_3 : w4.heap.size < w5.heap.size := by omega
    have g5_3_0 : w5.cell? ⟨w4.heap.size, 0, none⟩ = some (.int .i64 yy) := (hc5 (w4.heap.size) 0 (by first | (simp; done) | (simp; omega) | omega)).trans (by go_simp; try rfl)
    have g5_3_1 : w5.cell? ⟨w4.heap.size, 1, none⟩ = some (.int .i64 dd) := (hc5 (w4.heap.size) 1 (by first | (simp; done) | (simp; omega) | omega)).trans (by go_simp; try rfl)
    have g5_3_2 : w5.cell? ⟨w4.heap.size, 2, none⟩ = some (.slice A4 nn c4) := (hc5 (w4.heap.size) 2 (by first | (simp; done) | (simp; omega) | omega)).trans (by go_simp; try rfl)
    have HB5 := Lib.hid (HB4.out.trans (hw5.mono HB4.out.size))
    have Ha_5 := Lib.hid (Ha_4.out.below (by omega) hw5)
    have Hs_5 := Lib.hid (Hs_4.out.below (by omega) hw5)
    have Hu_5 := Lib.hid (Hu_4.out.below (by omega) hw5)
    have Hx_5 := Lib.hid (Hx_4.out.below (by omega) hw5)
    have Hg_5 := Lib.hid (Hg_4.out.below (by omega) hw5)
    have Hp_5 := Lib.hid (Hp_4.out.below (by omega) hw5)
    clear hb5 hc5 hf5 hw5
    clear l4_0 g4_0_0 g4_0_1 g4_0_2
    clear l4_1 g4_1_0 g4_1_1 g4_1_2
    clear l4_2 g4_2_0 g4_2_1 g4_2_2
    clear Ha_4
    clear Hs_4
    clear Hu_4
    clear Hx_4
    clear Hg_4
    clear Hp_4
    clear HB4
    go_wp2_with fail
    refine (eqPkS_same _ (RowOwn.row (Hp_5.out.below (B := w5.heap.size) (by omega) (by repeat (first | (with_reducible exact Below.refl _ _) | (with_reducible refine Bal ?_ _) | (with_reducible refine Below.drew ?_) | (with_reducible refine below_drewN ?_ _) | (with_reducible refine Bset ?_ ?_ _; focus (first | (with_reducible exact Nat.le_refl _) | (simp; done) | (simp; omega) | omega)) | (with_reducible refine Bt ?_ (by assumption)) | (with_reducible refine Bp (g := g) ?_ (by assumption) (by assumption)))))) (RowOwn.row (Hu_5.out.below (B := w5.heap.size) (by omega) (by repeat (first | (with_reducible exact Below.refl _ _) | (with_reducible refine Bal ?_ _) | (with_reducible refine Below.drew ?_) | (with_reducible refine below_drewN ?_ _) | (with_reducible refine Bset ?_ ?_ _; focus (first | (with_reducible exact Nat.le_refl _) | (simp; done) | (simp; omega) | omega)) | (with_reducible refine Bt ?_ (by assumption)) | (with_reducible refine Bp (g := g) ?_ (by assumption) (by assumption)))))) (by first | exact Nat.le_refl _ | (simp; done) | (simp; omega) | omega) (by first | exact Nat.le_refl _ | (simp; done) | (simp; omega) | omega) hKn).mono ?_
    rintro e w6 ⟨rfl, hb6⟩
    have hw6 : Below w5.heap.size w5 w6 := by repeat (first | (with_reducible exact Below.refl _ _) | (with_reducible refine Bal ?_ _) | (with_reducible refine Below.drew ?_) | (with_reducible refine below_drewN ?_ _) | (with_reducible refine Bset ?_ ?_ _; focus (first | (with_reducible exact Nat.le_refl _) | (simp; done) | (simp; omega) | omega)) | (with_reducible refine Bt ?_ (by assumption)) | (with_reducible refine Bp (g := g) ?_ (by assumption) (by assumption)))
    have hz6 : w5.heap.size ≤ w6.heap.size := hw6.size
    obtain ⟨hc6, hf6⟩ := bcell hb6
    have hy6 := hb6.size
    try simp at hy6
    have l6_0 : w.heap.size < w6.heap.size := by omega
    have g6_0_0 : w6.cell? ⟨w.heap.size, 0, none⟩ = some (.int .i64 y) := (hw6.cell (p := ⟨w.heap.size, 0, none⟩) l5_0).trans g5_0_0
    have g6_0_1 : w6.cell? ⟨w.heap.size, 1, none⟩ = some (.int .i64 d) := (hw6.cell (p := ⟨w.heap.size, 1, none⟩) l5_0).trans g5_0_1
    have g6_0_2 : w6.cell? ⟨w.heap.size, 2, none⟩ = some (.slice A n c) := (hw6.cell (p := ⟨w.heap.size, 2, none⟩) l5_0).trans g5_0_2
    have l6_1 : w2.heap.size < w6.heap.size := by omega
    have g6_1_0 : w6.cell? ⟨w2.heap.size, 0, none⟩ = some (.int .i64 yy) := (hw6.cell (p := ⟨w2.heap.size, 0, none⟩) l5_1).trans g5_1_0
    have g6_1_1 : w6.cell? ⟨w2.heap.size, 1, none⟩ = some (.int .i64 dd) := (hw6.cell (p := ⟨w2.heap.size, 1, none⟩) l5_1).trans g5_1_1
    have g6_1_2 : w6.cell? ⟨w2.heap.size, 2, none⟩ = some (.slice A2 nn c2) := (hw6.cell (p := ⟨w2.heap.size, 2, none⟩) l5_1).trans g5_1_2
    have l6_2 : w3.heap.size < w6.heap.size := by omega
    have g6_2_0 : w6.cell? ⟨w3.heap.size, 0, none⟩ = some (.int .i64 y) := (hw6.cell (p := ⟨w3.heap.size, 0, none⟩) l5_2).trans g5_2_0
    have g6_2_1 : w6.cell? ⟨w3.heap.size, 1, none⟩ = some (.int .i64 d) := (hw6.cell (p := ⟨w3.heap.size, 1, none⟩) l5_2).trans g5_2_1
    have g6_2_2 : w6.cell? ⟨w3.heap.size, 2, none⟩ = some (.slice A3 n c3) := (hw6.cell (p := ⟨w3.heap.size, 2, none⟩) l5_2).trans g5_2_2
    have l6_3 : w4.heap.size < w6.heap.size := by omega
    have g6_3_0 : w6.cell? ⟨w4.heap.size, 0, none⟩ = some (.int .i64 yy) := (hw6.cell (p := ⟨w4.heap.size, 0, none⟩) l5_3).trans g5_3_0
    have g6_3_1 : w6.cell? ⟨w4.heap.size, 1, none⟩ = some (.int .i64 dd) := (hw6.cell (p := ⟨w4.heap.size, 1, none⟩) l5_3).trans g5_3_1
    have g6_3_2 : w6.cell? ⟨w4.heap.size, 2, none⟩ = some (.slice A4 nn c4) := (hw6.cell (p := ⟨w4.heap.size, 2, none⟩) l5_3).trans g5_3_2
    have HB6 := Lib.hid (HB5.out.trans (hw6.mono HB5.out.size))
    have Ha_6 := Lib.hid (Ha_5.out.below (by omega) hw6)
    have Hs_6 := Lib.hid (Hs_5.out.below (by omega) hw6)
    have Hu_6 := Lib.hid (Hu_5.out.below (by omega) hw6)
    have Hx_6 := Lib.hid (Hx_5.out.below (by omega) hw6)
    have Hg_6 := Lib.hid (Hg_5.out.below (by omega) hw6)
    have Hp_6 := Lib.hid (Hp_5.out.below (by omega) hw6)
    clear hb6 hc6 hf6 hw6
    clear l5_0 g5_0_0 g5_0_1 g5_0_2
    clear l5_1 g5_1_0 g5_1_1 g5_1_2
    clear l5_2 g5_2_0 g5_2_1 g5_2_2
    clear l5_3 g5_3_0 g5_3_1 g5_3_2
    clear Ha_5
    clear Hs_5
    clear Hu_5
    clear Hx_5
    clear Hg_5
    clear Hp_5
    clear HB5
    go_upto_region 10 with fail
    refine wp_region_mix (Below (w6.heap.size) w6) (by kernel_rfl) (by kernel_rfl) (Below.drew (Below.refl _ _)) ?_
    repeat (first
      | (refine mix_skip rfl ?_; have e0 : True := trivial; clear e0; refine mix_putK ?_; intro K hK; go_simp; refine hK _ ?_; clear hK K)
      | (refine mix_readE rfl rfl rfl ?_; apply Exists.intro; refine ⟨fun w' hb' => ?_, ?_⟩; (focus (obtain ⟨hc', hf'⟩ := below_cells hb'; clear hb'; go_simp; try exact rfl)); have e0 : True := trivial; clear e0; refine mix_putK ?_; intro K hK; go_simp; refine hK _ ?_; clear hK K)
      | (refine mix_pureE rfl rfl ?_; apply Exists.intro; refine ⟨fun w' => ?_, ?_⟩; (focus (go_simp; try exact rfl)); have e0 : True := trivial; clear e0; refine mix_putK ?_; intro K hK; go_simp; refine hK _ ?_; clear hK K)
      | (refine mix_eff rfl rfl ?_; go_wp2_with ((first | (go_at_call 18; refine (toBf_any _ 0 w.heap.size A n c y d q (Ha_6.out.below (B := w6.heap.size) (by omega) (by repeat (first | (with_reducible exact Below.refl _ _) | (with_reducible refine Bal ?_ _) | (with_reducible refine Below.drew ?_) | (with_reducible refine below_drewN ?_ _) | (with_reducible refine Bset ?_ ?_ _; focus (first | (with_reducible exact Nat.le_refl _) | (simp; done) | (simp; omega) | omega)) | (with_reducible refine Bt ?_ (by assumption)) | (with_reducible refine Bp (g := g) ?_ (by assumption) (by assumption))))) (by first | exact Nat.le_refl _ | (simp; done) | (simp; omega) | omega) hn).mono ?_; rintro e w7 ⟨A7, c7, hO7, rfl, hb7⟩; have hz7 := hb7.size; (try simp at hz7)) | (go_at_call 20; refine (eqBf_same _ (RowOwn.row (Hx_6.out.below (B := w6.heap.size) (by omega) (by repeat (first | (with_reducible exact Below.refl _ _) | (with_reducible refine Bal ?_ _) | (with_reducible refine Below.drew ?_) | (with_reducible refine below_drewN ?_ _) | (with_reducible refine Bset ?_ ?_ _; focus (first | (with_reducible exact Nat.le_refl _) | (simp; done) | (simp; omega) | omega)) | (with_reducible refine Bt ?_ (by assumption)) | (with_reducible refine Bp (g := g) ?_ (by assumption) (by assumption)))))) (RowOwn.row (RowOwn.below (Nat.le_refl _) hO7 (by repeat (first | (with_reducible exact Below.refl _ _) | (with_reducible refine Bal ?_ _) | (with_reducible refine Below.drew ?_) | (with_reducible refine below_drewN ?_ _) | (with_reducible refine Bset ?_ ?_ _; focus (first | (with_reducible exact Nat.le_refl _) | (simp; done) | (simp; omega) | omega)) | (with_reducible refine Bt ?_ (by assumption)) | (with_reducible refine Bp (g := g) ?_ (by assumption) (by assumption)))))) (by first | exact Nat.le_refl _ | (simp; done) | (simp; omega) | omega) (by first | exact Nat.le_refl _ | (simp; done) | (simp; omega) | omega) hn).mono ?_; rintro e w8 ⟨rfl, hb8⟩))); refine then_mix rfl ?_ ?_; (focus (first | (intro h; have h2 : false = true := h; cases h2) | (intro _; assumption) | (intro _; exact Below.drew (by assumption)) | (intro _; repeat (first | (with_reducible exact Below.refl _ _) | (with_reducible refine Bal ?_ _) | (with_reducible refine Below.drew ?_) | (with_reducible refine below_drewN ?_ _) | (with_reducible refine Bset ?_ ?_ _; focus (first | (with_reducible exact Nat.le_refl _) | (simp; done) | (simp; omega) | omega)) | (with_reducible refine Bt ?_ (by assumption)) | (with_reducible refine Bp (g := g) ?_ (by assumption) (by assumption))))))))
    refine mix_nil ?_
    have hw8 : Below w6.heap.size w6 w8 := by repeat (first | (with_reducible exact Below.refl _ _) | (with_reducible refine Bal ?_ _) | (with_reducible refine Below.drew ?_) | (with_reducible refine below_drewN ?_ _) | (with_reducible refine Bset ?_ ?_ _; focus (first | (with_reducible exact Nat.le_refl _) | (simp; done) | (simp; omega) | omega)) | (with_reducible refine Bt ?_ (by assumption)) | (with_reducible refine Bp (g := g) ?_ (by assumption) (by assumption)))
    have hz8 : w6.heap.size ≤ w8.heap.size := hw8.size
    have l8_0 : w.heap.size < w8.heap.size := by omega
    have g8_0_0 : w8.cell? ⟨w.heap.size, 0, none⟩ = some (.int .i64 y) := (hw8.cell (p := ⟨w.heap.size, 0, none⟩) l6_0).trans g6_0_0
    have g8_0_1 : w8.cell? ⟨w.heap.size, 1, none⟩ = some (.int .i64 d) := (hw8.cell (p := ⟨w.heap.size, 1, none⟩) l6_0).trans g6_0_1
    have g8_0_2 : w8.cell? ⟨w.heap.size, 2, none⟩ = some (.slice A n c) := (hw8.cell (p := ⟨w.heap.size, 2, none⟩) l6_0).trans g6_0_2
    have l8_1 : w2.heap.size < w8.heap.size := by omega
    have g8_1_0 : w8.cell? ⟨w2.heap.size, 0, none⟩ = some (.int .i64 yy) := (hw8.cell (p := ⟨w2.heap.size, 0, none⟩) l6_1).trans g6_1_0
    have g8_1_1 : w8.cell? ⟨w2.heap.size, 1, none⟩ = some (.int .i64 dd) := (hw8.cell (p := ⟨w2.heap.size, 1, none⟩) l6_1).trans g6_1_1
    have g8_1_2 : w8.cell? ⟨w2.heap.size, 2, none⟩ = some (.slice A2 nn c2) := (hw8.cell (p := ⟨w2.heap.size, 2, none⟩) l6_1).trans g6_1_2
    have l8_2 : w3.heap.size < w8.heap.size := by omega
    have g8_2_0 : w8.cell? ⟨w3.heap.size, 0, none⟩ = some (.int .i64 y) := (hw8.cell (p := ⟨w3.heap.size, 0, none⟩) l6_2).trans g6_2_0
    have g8_2_1 : w8.cell? ⟨w3.heap.size, 1, none⟩ = some (.int .i64 d) := (hw8.cell (p := ⟨w3.heap.size, 1, none⟩) l6_2).trans g6_2_1
    have g8_2_2 : w8.cell? ⟨w3.heap.size, 2, none⟩ = some (.slice A3 n c3) := (hw8.cell (p := ⟨w3.heap.size, 2, none⟩) l6_2).trans g6_2_2
    have l8_3 : w4.heap.size < w8.heap.size := by omega
    have g8_3_0 : w8.cell? ⟨w4.heap.size, 0, none⟩ = some (.int .i64 yy) := (hw8.cell (p := ⟨w4.heap.size, 0, none⟩) l6_3).trans g6_3_0
    have g8_3_1 : w8.cell? ⟨w4.heap.size, 1, none⟩ = some (.int .i64 dd) := (hw8.cell (p := ⟨w4.heap.size, 1, none⟩) l6_3).trans g6_3_1
    have g8_3_2 : w8.cell? ⟨w4.heap.size, 2, none⟩ = some (.slice A4 nn c4) := (hw8.cell (p := ⟨w4.heap.size, 2, none⟩) l6_3).trans g6_3_2
    have HB8 := Lib.hid (HB6.out.trans (hw8.mono HB6.out.size))
    have Ha_8 := Lib.hid (Ha_6.out.below (by omega) hw8)
    have Hs_8 := Lib.hid (Hs_6.out.below (by omega) hw8)
    have Hu_8 := Lib.hid (Hu_6.out.below (by omega) hw8)
    have Hx_8 := Lib.hid (Hx_6.out.below (by omega) hw8)
    have Hg_8 := Lib.hid (Hg_6.out.below (by omega) hw8)
    have Hp_8 := Lib.hid (Hp_6.out.below (by omega) hw8)
    clear hb8 hw8
    clear l6_0 g6_0_0 g6_0_1 g6_0_2
    clear l6_1 g6_1_0 g6_1_1 g6_1_2
    clear l6_2 g6_2_0 g6_2_1 g6_2_2
    clear l6_3 g6_3_0 g6_3_1 g6_3_2
    clear Ha_6
    clear Hs_6
    clear Hu_6
    clear Hx_6
    clear Hg_6
    clear Hp_6
    clear HB6
    go_wp2_with fail
    refine (markBf_any _ 1 Hx_8.out (by omega) hn (by omega)).mono ?_
    rintro e w9 ⟨hO9, rfl, hG9⟩
    have hz9 : w8.heap.size ≤ w9.heap.size := hG9.size
    have hlt9 : ∀ g, (Value.slice A3 n c3).ownBlock = some g → L3 ≤ g ∧ g < w3.heap.size := fun g hg => ⟨(Hx_8.out.1.lt g hg).1, Hx_8.out.2 g hg⟩
    have l9_0 : w.heap.size < w9.heap.size := by omega
    have g9_0_0 : w9.cell? ⟨w.heap.size, 0, none⟩ = some (.int .i64 y) := (grown_cell hG9 l8_0 (fun e => by have := hlt9 _ e.symm; omega) 0).trans g8_0_0
    have g9_0_1 : w9.cell? ⟨w.heap.size, 1, none⟩ = some (.int .i64 d) := (grown_cell hG9 l8_0 (fun e => by have := hlt9 _ e.symm; omega) 1).trans g8_0_1
    have g9_0_2 : w9.cell? ⟨w.heap.size, 2, none⟩ = some (.slice A n c) := (grown_cell hG9 l8_0 (fun e => by have := hlt9 _ e.symm; omega) 2).trans g8_0_2
    have l9_1 : w2.heap.size < w9.heap.size := by omega
    have g9_1_0 : w9.cell? ⟨w2.heap.size, 0, none⟩ = some (.int .i64 yy) := (grown_cell hG9 l8_1 (fun e => by have := hlt9 _ e.symm; omega) 0).trans g8_1_0
    have g9_1_1 : w9.cell? ⟨w2.heap.size, 1, none⟩ = some (.int .i64 dd) := (grown_cell hG9 l8_1 (fun e => by have := hlt9 _ e.symm; omega) 1).trans g8_1_1
    have g9_1_2 : w9.cell? ⟨w2.heap.size, 2, none⟩ = some (.slice A2 nn c2) := (grown_cell hG9 l8_1 (fun e => by have := hlt9 _ e.symm; omega) 2).trans g8_1_2
    have l9_2 : w3.heap.size < w9.heap.size := by omega
    have g9_2_0 : w9.cell? ⟨w3.heap.size, 0, none⟩ = some (.int .i64 y) := (grown_cell hG9 l8_2 (fun e => by have := hlt9 _ e.symm; omega) 0).trans g8_2_0
    have g9_2_1 : w9.cell? ⟨w3.heap.size, 1, none⟩ = some (.int .i64 d) := (grown_cell hG9 l8_2 (fun e => by have := hlt9 _ e.symm; omega) 1).trans g8_2_1
    have g9_2_2 : w9.cell? ⟨w3.heap.size, 2, none⟩ = some (.slice A3 n c3) := (grown_cell hG9 l8_2 (fun e => by have := hlt9 _ e.symm; omega) 2).trans g8_2_2
    have l9_3 : w4.heap.size < w9.heap.size := by omega
    have g9_3_0 : w9.cell? ⟨w4.heap.size, 0, none⟩ = some (.int .i64 yy) := (grown_cell hG9 l8_3 (fun e => by have := hlt9 _ e.symm; omega) 0).trans g8_3_0
    have g9_3_1 : w9.cell? ⟨w4.heap.size, 1, none⟩ = some (.int .i64 dd) := (grown_cell hG9 l8_3 (fun e => by have := hlt9 _ e.symm; omega) 1).trans g8_3_1
    have g9_3_2 : w9.cell? ⟨w4.heap.size, 2, none⟩ = some (.slice A4 nn c4) := (grown_cell hG9 l8_3 (fun e => by have := hlt9 _ e.symm; omega) 2).trans g8_3_2
    have HB9 := Lib.hid (grown_below HB8.out hG9 (fun g hg => by have := hlt9 g hg; omega))
    have Ha_9 := Lib.hid (RowAt.only (by omega) (fun g hg => by have := hlt9 g hg; omega) Ha_8.out hG9)
    have Hs_9 := Lib.hid (RowOwn.only (fun g hg => by have := hlt9 g hg; omega) Hs_8.out hG9)
    have Hu_9 := Lib.hid (RowOwn.only (fun g hg => by have := hlt9 g hg; omega) Hu_8.out hG9)
    have Hx_9 := Lib.hid hO9
    have Hg_9 := Lib.hid (RowOwn.only (fun g hg => by have := hlt9 g hg; omega) Hg_8.out hG9)
    have Hp_9 := Lib.hid (RowOwn.only (fun g hg => by have := hlt9 g hg; omega) Hp_8.out hG9)
    clear hO9 hG9 hlt9
    clear l8_0 g8_0_0 g8_0_1 g8_0_2
    clear l8_1 g8_1_0 g8_1_1 g8_1_2
    clear l8_2 g8_2_0 g8_2_1 g8_2_2
    clear l8_3 g8_3_0 g8_3_1 g8_3_2
    clear Ha_8
    clear Hs_8
    clear Hu_8
    clear Hx_8
    clear Hg_8
    clear Hp_8
    clear HB8
    go_wp2_with fail
    refine (eqBf_same _ (RowOwn.row (Hg_9.out.below (B := w9.heap.size) (by omega) (by repeat (first | (with_reducible exact Below.refl _ _) | (with_reducible refine Bal ?_ _) | (with_reducible refine Below.drew ?_) | (with_reducible refine below_drewN ?_ _) | (with_reducible refine Bset ?_ ?_ _; focus (first | (with_reducible exact Nat.le_refl _) | (simp; done) | (simp; omega) | omega)) | (with_reducible refine Bt ?_ (by assumption)) | (with_reducible refine Bp (g := g) ?_ (by assumption) (by assumption)))))) (RowOwn.row (Hs_9.out.below (B := w9.heap.size) (by omega) (by repeat (first | (with_reducible exact Below.refl _ _) | (with_reducible refine Bal ?_ _) | (with_reducible refine Below.drew ?_) | (with_reducible refine below_drewN ?_ _) | (with_reducible refine Bset ?_ ?_ _; focus (first | (with_reducible exact Nat.le_refl _) | (simp; done) | (simp; omega) | omega)) | (with_reducible refine Bt ?_ (by assumption)) | (with_reducible refine Bp (g := g) ?_ (by assumption) (by assumption)))))) (by first | exact Nat.le_refl _ | (simp; done) | (simp; omega) | omega) (by first | exact Nat.le_refl _ | (simp; done) | (simp; omega) | omega) hnn).mono ?_
    rintro e w10 ⟨rfl, hb10⟩
    have hw10 : Below w9.heap.size w9 w10 := by repeat (first | (with_reducible exact Below.refl _ _) | (with_reducible refine Bal ?_ _) | (with_reducible refine Below.drew ?_) | (with_reducible refine below_drewN ?_ _) | (with_reducible refine Bset ?_ ?_ _; focus (first | (with_reducible exact Nat.le_refl _) | (simp; done) | (simp; omega) | omega)) | (with_reducible refine Bt ?_ (by assumption)) | (with_reducible refine Bp (g := g) ?_ (by assumption) (by assumption)))
    have hz10 : w9.heap.size ≤ w10.heap.size := hw10.size
    obtain ⟨hc10, hf10⟩ := bcell hb10
    have hy10 := hb10.size
    try simp at hy10
    have l10_0 : w.heap.size < w10.heap.size := by omega
    have g10_0_0 : w10.cell? ⟨w.heap.size, 0, none⟩ = some (.int .i64 y) := (hw10.cell (p := ⟨w.heap.size, 0, none⟩) l9_0).trans g9_0_0
    have g10_0_1 : w10.cell? ⟨w.heap.size, 1, none⟩ = some (.int .i64 d) := (hw10.cell (p := ⟨w.heap.size, 1, none⟩) l9_0).trans g9_0_1
    have g10_0_2 : w10.cell? ⟨w.heap.size, 2, none⟩ = some (.slice A n c) := (hw10.cell (p := ⟨w.heap.size, 2, none⟩) l9_0).trans g9_0_2
    have l10_1 : w2.heap.size < w10.heap.size := by omega
    have g10_1_0 : w10.cell? ⟨w2.heap.size, 0, none⟩ = some (.int .i64 yy) := (hw10.cell (p := ⟨w2.heap.size, 0, none⟩) l9_1).trans g9_1_0
    have g10_1_1 : w10.cell? ⟨w2.heap.size, 1, none⟩ = some (.int .i64 dd) := (hw10.cell (p := ⟨w2.heap.size, 1, none⟩) l9_1).trans g9_1_1
    have g10_1_2 : w10.cell? ⟨w2.heap.size, 2, none⟩ = some (.slice A2 nn c2) := (hw10.cell (p := ⟨w2.heap.size, 2, none⟩) l9_1).trans g9_1_2
    have l10_2 : w3.heap.size < w10.heap.size := by omega
    have g10_2_0 : w10.cell? ⟨w3.heap.size, 0, none⟩ = some (.int .i64 y) := (hw10.cell (p := ⟨w3.heap.size, 0, none⟩) l9_2).trans g9_2_0
    have g10_2_1 : w10.cell? ⟨w3.heap.size, 1, none⟩ = some (.int .i64 d) := (hw10.cell (p := ⟨w3.heap.size, 1, none⟩) l9_2).trans g9_2_1
    have g10_2_2 : w10.cell? ⟨w3.heap.size, 2, none⟩ = some (.slice A3 n c3) := (hw10.cell (p := ⟨w3.heap.size, 2, none⟩) l9_2).trans g9_2_2
    have l10_3 : w4.heap.size < w10.heap.size := by omega
    have g10_3_0 : w10.cell? ⟨w4.heap.size, 0, none⟩ = some (.int .i64 yy) := (hw10.cell (p := ⟨w4.heap.size, 0, none⟩) l9_3).trans g9_3_0
    have g10_3_1 : w10.cell? ⟨w4.heap.size, 1, none⟩ = some (.int .i64 dd) := (hw10.cell (p := ⟨w4.heap.size, 1, none⟩) l9_3).trans g9_3_1
    have g10_3_2 : w10.cell? ⟨w4.heap.size, 2, none⟩ = some (.slice A4 nn c4) := (hw10.cell (p := ⟨w4.heap.size, 2, none⟩) l9_3).trans g9_3_2
    have HB10 := Lib.hid (HB9.out.trans (hw10.mono HB9.out.size))
    have Ha_10 := Lib.hid (Ha_9.out.below (by omega) hw10)
    have Hs_10 := Lib.hid (Hs_9.out.below (by omega) hw10)
    have Hu_10 := Lib.hid (Hu_9.out.below (by omega) hw10)
    have Hg_10 := Lib.hid (Hg_9.out.below (by omega) hw10)
    have Hp_10 := Lib.hid (Hp_9.out.below (by omega) hw10)
    clear hb10 hc10 hf10 hw10
    clear l9_0 g9_0_0 g9_0_1 g9_0_2
    clear l9_1 g9_1_0 g9_1_1 g9_1_2
    clear l9_2 g9_2_0 g9_2_1 g9_2_2
    clear l9_3 g9_3_0 g9_3_1 g9_3_2
    clear Ha_9
    clear Hs_9
    clear Hu_9
    clear Hx_9
    clear Hg_9
    clear Hp_9
    clear HB9
    go_wp2_with fail
    refine (eqPkS_same _ (RowOwn.row (Hp_10.out.below (B := w10.heap.size) (by omega) (by repeat (first | (with_reducible exact Below.refl _ _) | (with_reducible refine Bal ?_ _) | (with_reducible refine Below.drew ?_) | (with_reducible refine below_drewN ?_ _) | (with_reducible refine Bset ?_ ?_ _; focus (first | (with_reducible exact Nat.le_refl _) | (simp; done) | (simp; omega) | omega)) | (with_reducible refine Bt ?_ (by assumption)) | (with_reducible refine Bp (g := g) ?_ (by assumption) (by assumption)))))) (RowOwn.row (Hu_10.out.below (B := w10.heap.size) (by omega) (by repeat (first | (with_reducible exact Below.refl _ _) | (with_reducible refine Bal ?_ _) | (with_reducible refine Below.drew ?_) | (with_reducible refine below_drewN ?_ _) | (with_reducible refine Bset ?_ ?_ _; focus (first | (with_reducible exact Nat.le_refl _) | (simp; done) | (simp; omega) | omega)) | (with_reducible refine Bt ?_ (by assumption)) | (with_reducible refine Bp (g := g) ?_ (by assumption) (by assumption)))))) (by first | exact Nat.le_refl _ | (simp; done) | (simp; omega) | omega) (by first | exact Nat.le_refl _ | (simp; done) | (simp; omega) | omega) hKn).mono ?_
    rintro e w11 ⟨rfl, hb11⟩
    have hw11 : Below w10.heap.size w10 w11 := by repeat (first | (with_reducible exact Below.refl _ _) | (with_reducible refine Bal ?_ _) | (with_reducible refine Below.drew ?_) | (with_reducible refine below_drewN ?_ _) | (with_reducible refine Bset ?_ ?_ _; focus (first | (with_reducible exact Nat.le_refl _) | (simp; done) | (simp; omega) | omega)) | (with_reducible refine Bt ?_ (by assumption)) | (with_reducible refine Bp (g := g) ?_ (by assumption) (by assumption)))
    have hz11 : w10.heap.size ≤ w11.heap.size := hw11.size
    obtain ⟨hc11, hf11⟩ := bcell hb11
    have hy11 := hb11.size
    try simp at hy11
    have l11_0 : w.heap.size < w11.heap.size := by omega
    have g11_0_0 : w11.cell? ⟨w.heap.size, 0, none⟩ = some (.int .i64 y) := (hw11.cell (p := ⟨w.heap.size, 0, none⟩) l10_0).trans g10_0_0
    have g11_0_1 : w11.cell? ⟨w.heap.size, 1, none⟩ = some (.int .i64 d) := (hw11.cell (p := ⟨w.heap.size, 1, none⟩) l10_0).trans g10_0_1
    have g11_0_2 : w11.cell? ⟨w.heap.size, 2, none⟩ = some (.slice A n c) := (hw11.cell (p := ⟨w.heap.size, 2, none⟩) l10_0).trans g10_0_2
    have l11_1 : w2.heap.size < w11.heap.size := by omega
    have g11_1_0 : w11.cell? ⟨w2.heap.size, 0, none⟩ = some (.int .i64 yy) := (hw11.cell (p := ⟨w2.heap.size, 0, none⟩) l10_1).trans g10_1_0
    have g11_1_1 : w11.cell? ⟨w2.heap.size, 1, none⟩ = some (.int .i64 dd) := (hw11.cell (p := ⟨w2.heap.size, 1, none⟩) l10_1).trans g10_1_1
    have g11_1_2 : w11.cell? ⟨w2.heap.size, 2, none⟩ = some (.slice A2 nn c2) := (hw11.cell (p := ⟨w2.heap.size, 2, none⟩) l10_1).trans g10_1_2
    have l11_2 : w3.heap.size < w11.heap.size := by omega
    have g11_2_0 : w11.cell? ⟨w3.heap.size, 0, none⟩ = some (.int .i64 y) := (hw11.cell (p := ⟨w3.heap.size, 0, none⟩) l10_2).trans g10_2_0
    have g11_2_1 : w11.cell? ⟨w3.heap.size, 1, none⟩ = some (.int .i64 d) := (hw11.cell (p := ⟨w3.heap.size, 1, none⟩) l10_2).trans g10_2_1
    have g11_2_2 : w11.cell? ⟨w3.heap.size, 2, none⟩ = some (.slice A3 n c3) := (hw11.cell (p := ⟨w3.heap.size, 2, none⟩) l10_2).trans g10_2_2
    have l11_3 : w4.heap.size < w11.heap.size := by omega
    have g11_3_0 : w11.cell? ⟨w4.heap.size, 0, none⟩ = some (.int .i64 yy) := (hw11.cell (p := ⟨w4.heap.size, 0, none⟩) l10_3).trans g10_3_0
    have g11_3_1 : w11.cell? ⟨w4.heap.size, 1, none⟩ = some (.int .i64 dd) := (hw11.cell (p := ⟨w4.heap.size, 1, none⟩) l10_3).trans g10_3_1
    have g11_3_2 : w11.cell? ⟨w4.heap.size, 2, none⟩ = some (.slice A4 nn c4) := (hw11.cell (p := ⟨w4.heap.size, 2, none⟩) l10_3).trans g10_3_2
    have HB11 := Lib.hid (HB10.out.trans (hw11.mono HB10.out.size))
    have Ha_11 := Lib.hid (Ha_10.out.below (by omega) hw11)
    have Hs_11 := Lib.hid (Hs_10.out.below (by omega) hw11)
    have Hu_11 := Lib.hid (Hu_10.out.below (by omega) hw11)
    have Hg_11 := Lib.hid (Hg_10.out.below (by omega) hw11)
    have Hp_11 := Lib.hid (Hp_10.out.below (by omega) hw11)
    clear hb11 hc11 hf11 hw11
    clear l10_0 g10_0_0 g10_0_1 g10_0_2
    clear l10_1 g10_1_0 g10_1_1 g10_1_2
    clear l10_2 g10_2_0 g10_2_1 g10_2_2
    clear l10_3 g10_3_0 g10_3_1 g10_3_2
    clear Ha_10
    clear Hs_10
    clear Hu_10
    clear Hg_10
    clear Hp_10
    clear HB10
    go_wp2_with fail
    refine (markBf_any _ 1 Hg_11.out (by omega) hnn (by omega)).mono ?_
    rintro e w12 ⟨hO12, rfl, hG12⟩
    have hz12 : w11.heap.size ≤ w12.heap.size := hG12.size
    have hlt12 : ∀ g, (Value.slice A4 nn c4).ownBlock = some g → L4 ≤ g ∧ g < w4.heap.size := fun g hg => ⟨(Hg_11.out.1.lt g hg).1, Hg_11.out.2 g hg⟩
    have l12_0 : w.heap.size < w12.heap.size := by omega
    have g12_0_0 : w12.cell? ⟨w.heap.size, 0, none⟩ = some (.int .i64 y) := (grown_cell hG12 l11_0 (fun e => by have := hlt12 _ e.symm; omega) 0).trans g11_0_0
    have g12_0_1 : w12.cell? ⟨w.heap.size, 1, none⟩ = some (.int .i64 d) := (grown_cell hG12 l11_0 (fun e => by have := hlt12 _ e.symm; omega) 1).trans g11_0_1
    have g12_0_2 : w12.cell? ⟨w.heap.size, 2, none⟩ = some (.slice A n c) := (grown_cell hG12 l11_0 (fun e => by have := hlt12 _ e.symm; omega) 2).trans g11_0_2
    have l12_1 : w2.heap.size < w12.heap.size := by omega
    have g12_1_0 : w12.cell? ⟨w2.heap.size, 0, none⟩ = some (.int .i64 yy) := (grown_cell hG12 l11_1 (fun e => by have := hlt12 _ e.symm; omega) 0).trans g11_1_0
    have g12_1_1 : w12.cell? ⟨w2.heap.size, 1, none⟩ = some (.int .i64 dd) := (grown_cell hG12 l11_1 (fun e => by have := hlt12 _ e.symm; omega) 1).trans g11_1_1
    have g12_1_2 : w12.cell? ⟨w2.heap.size, 2, none⟩ = some (.slice A2 nn c2) := (grown_cell hG12 l11_1 (fun e => by have := hlt12 _ e.symm; omega) 2).trans g11_1_2
    have l12_2 : w3.heap.size < w12.heap.size := by omega
    have g12_2_0 : w12.cell? ⟨w3.heap.size, 0, none⟩ = some (.int .i64 y) := (grown_cell hG12 l11_2 (fun e => by have := hlt12 _ e.symm; omega) 0).trans g11_2_0
    have g12_2_1 : w12.cell? ⟨w3.heap.size, 1, none⟩ = some (.int .i64 d) := (grown_cell hG12 l11_2 (fun e => by have := hlt12 _ e.symm; omega) 1).trans g11_2_1
    have g12_2_2 : w12.cell? ⟨w3.heap.size, 2, none⟩ = some (.slice A3 n c3) := (grown_cell hG12 l11_2 (fun e => by have := hlt12 _ e.symm; omega) 2).trans g11_2_2
    have l12_3 : w4.heap.size < w12.heap.size := by omega
    have g12_3_0 : w12.cell? ⟨w4.heap.size, 0, none⟩ = some (.int .i64 yy) := (grown_cell hG12 l11_3 (fun e => by have := hlt12 _ e.symm; omega) 0).trans g11_3_0
    have g12_3_1 : w12.cell? ⟨w4.heap.size, 1, none⟩ = some (.int .i64 dd) := (grown_cell hG12 l11_3 (fun e => by have := hlt12 _ e.symm; omega) 1).trans g11_3_1
    have g12_3_2 : w12.cell? ⟨w4.heap.size, 2, none⟩ = some (.slice A4 nn c4) := (grown_cell hG12 l11_3 (fun e => by have := hlt12 _ e.symm; omega) 2).trans g11_3_2
    have HB12 := Lib.hid (grown_below HB11.out hG12 (fun g hg => by have := hlt12 g hg; omega))
    have Ha_12 := Lib.hid (RowAt.only (by omega) (fun g hg => by have := hlt12 g hg; omega) Ha_11.out hG12)
    have Hs_12 := Lib.hid (RowOwn.only (fun g hg => by have := hlt12 g hg; omega) Hs_11.out hG12)
    have Hu_12 := Lib.hid (RowOwn.only (fun g hg => by have := hlt12 g hg; omega) Hu_11.out hG12)
    have Hg_12 := Lib.hid hO12
    have Hp_12 := Lib.hid (RowOwn.apart (dis_one D4.out) Hp_11.out hG12)
    clear hO12 hG12 hlt12
    clear l11_0 g11_0_0 g11_0_1 g11_0_2
    clear l11_1 g11_1_0 g11_1_1 g11_1_2
    clear l11_2 g11_2_0 g11_2_1 g11_2_2
    clear l11_3 g11_3_0 g11_3_1 g11_3_2
    clear Ha_11
    clear Hs_11
    clear Hu_11
    clear Hg_11
    clear Hp_11
    clear HB11
    go_wp2_with fail
    refine (markPkV_any _ _ Hp_12.out hKn (by omega) (by omega)).mono ?_
    rintro e w13 ⟨hO13, rfl, hG13⟩
    have hz13 : w12.heap.size ≤ w13.heap.size := hG13.size
    have hlt13 : ∀ g, (Value.slice B4 K cb4).ownBlock = some g → L4 ≤ g ∧ g < w4.heap.size := fun g hg => ⟨(Hp_12.out.1.lt g hg).1, Hp_12.out.2 g hg⟩
    have l13_0 : w.heap.size < w13.heap.size := by omega
    have g13_0_0 : w13.cell? ⟨w.heap.size, 0, none⟩ = some (.int .i64 y) := (grown_cell hG13 l12_0 (fun e => by have := hlt13 _ e.symm; omega) 0).trans g12_0_0
    have g13_0_1 : w13.cell? ⟨w.heap.size, 1, none⟩ = some (.int .i64 d) := (grown_cell hG13 l12_0 (fun e => by have := hlt13 _ e.symm; omega) 1).trans g12_0_1
    have g13_0_2 : w13.cell? ⟨w.heap.size, 2, none⟩ = some (.slice A n c) := (grown_cell hG13 l12_0 (fun e => by have := hlt13 _ e.symm; omega) 2).trans g12_0_2
    have l13_1 : w2.heap.size < w13.heap.size := by omega
    have g13_1_0 : w13.cell? ⟨w2.heap.size, 0, none⟩ = some (.int .i64 yy) := (grown_cell hG13 l12_1 (fun e => by have := hlt13 _ e.symm; omega) 0).trans g12_1_0
    have g13_1_1 : w13.cell? ⟨w2.heap.size, 1, none⟩ = some (.int .i64 dd) := (grown_cell hG13 l12_1 (fun e => by have := hlt13 _ e.symm; omega) 1).trans g12_1_1
    have g13_1_2 : w13.cell? ⟨w2.heap.size, 2, none⟩ = some (.slice A2 nn c2) := (grown_cell hG13 l12_1 (fun e => by have := hlt13 _ e.symm; omega) 2).trans g12_1_2
    have l13_2 : w3.heap.size < w13.heap.size := by omega
    have g13_2_0 : w13.cell? ⟨w3.heap.size, 0, none⟩ = some (.int .i64 y) := (grown_cell hG13 l12_2 (fun e => by have := hlt13 _ e.symm; omega) 0).trans g12_2_0
    have g13_2_1 : w13.cell? ⟨w3.heap.size, 1, none⟩ = some (.int .i64 d) := (grown_cell hG13 l12_2 (fun e => by have := hlt13 _ e.symm; omega) 1).trans g12_2_1
    have g13_2_2 : w13.cell? ⟨w3.heap.size, 2, none⟩ = some (.slice A3 n c3) := (grown_cell hG13 l12_2 (fun e => by have := hlt13 _ e.symm; omega) 2).trans g12_2_2
    have l13_3 : w4.heap.size < w13.heap.size := by omega
    have g13_3_0 : w13.cell? ⟨w4.heap.size, 0, none⟩ = some (.int .i64 yy) := (grown_cell hG13 l12_3 (fun e => by have := hlt13 _ e.symm; omega) 0).trans g12_3_0
    have g13_3_1 : w13.cell? ⟨w4.heap.size, 1, none⟩ = some (.int .i64 dd) := (grown_cell hG13 l12_3 (fun e => by have := hlt13 _ e.symm; omega) 1).trans g12_3_1
    have g13_3_2 : w13.cell? ⟨w4.heap.size, 2, none⟩ = some (.slice A4 nn c4) := (grown_cell hG13 l12_3 (fun e => by have := hlt13 _ e.symm; omega) 2).trans g12_3_2
    have HB13 := Lib.hid (grown_below HB12.out hG13 (fun g hg => by have := hlt13 g hg; omega))
    have Ha_13 := Lib.hid (RowAt.only (by omega) (fun g hg => by have := hlt13 g hg; omega) Ha_12.out hG13)
    have Hs_13 := Lib.hid (RowOwn.only (fun g hg => by have := hlt13 g hg; omega) Hs_12.out hG13)
    have Hu_13 := Lib.hid (RowOwn.only (fun g hg => by have := hlt13 g hg; omega) Hu_12.out hG13)
    have Hg_13 := Lib.hid (RowOwn.apart (dis_two D4.out) Hg_12.out hG13)
    have Hp_13 := Lib.hid hO13
    clear hO13 hG13 hlt13
    clear l12_0 g12_0_0 g12_0_1 g12_0_2
    clear l12_1 g12_1_0 g12_1_1 g12_1_2
    clear l12_2 g12_2_0 g12_2_1 g12_2_2
    clear l12_3 g12_3_0 g12_3_1 g12_3_2
    clear Ha_12
    clear Hs_12
    clear Hu_12
    clear Hg_12
    clear Hp_12
    clear HB12
    go_wp2_with fail
    refine (heldBf_any _ 1 (RowOwn.row (Hg_13.out.below (B := w13.heap.size) (by omega) (by repeat (first | (with_reducible exact Below.refl _ _) | (with_reducible refine Bal ?_ _) | (with_reducible refine Below.drew ?_) | (with_reducible refine below_drewN ?_ _) | (with_reducible refine Bset ?_ ?_ _; focus (first | (with_reducible exact Nat.le_refl _) | (simp; done) | (simp; omega) | omega)) | (with_reducible refine Bt ?_ (by assumption)) | (with_reducible refine Bp (g := g) ?_ (by assumption) (by assumption)))))) (by first | exact Nat.le_refl _ | (simp; done) | (simp; omega) | omega) hnn (by omega)).mono ?_
    rintro e w14 ⟨rfl, hb14⟩
    have hw14 : Below w13.heap.size w13 w14 := by repeat (first | (with_reducible exact Below.refl _ _) | (with_reducible refine Bal ?_ _) | (with_reducible refine Below.drew ?_) | (with_reducible refine below_drewN ?_ _) | (with_reducible refine Bset ?_ ?_ _; focus (first | (with_reducible exact Nat.le_refl _) | (simp; done) | (simp; omega) | omega)) | (with_reducible refine Bt ?_ (by assumption)) | (with_reducible refine Bp (g := g) ?_ (by assumption) (by assumption)))
    have hz14 : w13.heap.size ≤ w14.heap.size := hw14.size
    obtain ⟨hc14, hf14⟩ := bcell hb14
    have hy14 := hb14.size
    try simp at hy14
    have l14_0 : w.heap.size < w14.heap.size := by omega
    have g14_0_0 : w14.cell? ⟨w.heap.size, 0, none⟩ = some (.int .i64 y) := (hw14.cell (p := ⟨w.heap.size, 0, none⟩) l13_0).trans g13_0_0
    have g14_0_1 : w14.cell? ⟨w.heap.size, 1, none⟩ = some (.int .i64 d) := (hw14.cell (p := ⟨w.heap.size, 1, none⟩) l13_0).trans g13_0_1
    have g14_0_2 : w14.cell? ⟨w.heap.size, 2, none⟩ = some (.slice A n c) := (hw14.cell (p := ⟨w.heap.size, 2, none⟩) l13_0).trans g13_0_2
    have l14_1 : w2.heap.size < w14.heap.size := by omega
    have g14_1_0 : w14.cell? ⟨w2.heap.size, 0, none⟩ = some (.int .i64 yy) := (hw14.cell (p := ⟨w2.heap.size, 0, none⟩) l13_1).trans g13_1_0
    have g14_1_1 : w14.cell? ⟨w2.heap.size, 1, none⟩ = some (.int .i64 dd) := (hw14.cell (p := ⟨w2.heap.size, 1, none⟩) l13_1).trans g13_1_1
    have g14_1_2 : w14.cell? ⟨w2.heap.size, 2, none⟩ = some (.slice A2 nn c2) := (hw14.cell (p := ⟨w2.heap.size, 2, none⟩) l13_1).trans g13_1_2
    have l14_2 : w3.heap.size < w14.heap.size := by omega
    have g14_2_0 : w14.cell? ⟨w3.heap.size, 0, none⟩ = some (.int .i64 y) := (hw14.cell (p := ⟨w3.heap.size, 0, none⟩) l13_2).trans g13_2_0
    have g14_2_1 : w14.cell? ⟨w3.heap.size, 1, none⟩ = some (.int .i64 d) := (hw14.cell (p := ⟨w3.heap.size, 1, none⟩) l13_2).trans g13_2_1
    have g14_2_2 : w14.cell? ⟨w3.heap.size, 2, none⟩ = some (.slice A3 n c3) := (hw14.cell (p := ⟨w3.heap.size, 2, none⟩) l13_2).trans g13_2_2
    have l14_3 : w4.heap.size < w14.heap.size := by omega
    have g14_3_0 : w14.cell? ⟨w4.heap.size, 0, none⟩ = some (.int .i64 yy) := (hw14.cell (p := ⟨w4.heap.size, 0, none⟩) l13_3).trans g13_3_0
    have g14_3_1 : w14.cell? ⟨w4.heap.size, 1, none⟩ = some (.int .i64 dd) := (hw14.cell (p := ⟨w4.heap.size, 1, none⟩) l13_3).trans g13_3_1
    have g14_3_2 : w14.cell? ⟨w4.heap.size, 2, none⟩ = some (.slice A4 nn c4) := (hw14.cell (p := ⟨w4.heap.size, 2, none⟩) l13_3).trans g13_3_2
    have HB14 := Lib.hid (HB13.out.trans (hw14.mono HB13.out.size))
    have Ha_14 := Lib.hid (Ha_13.out.below (by omega) hw14)
    have Hs_14 := Lib.hid (Hs_13.out.below (by omega) hw14)
    have Hu_14 := Lib.hid (Hu_13.out.below (by omega) hw14)
    have Hg_14 := Lib.hid (Hg_13.out.below (by omega) hw14)
    have Hp_14 := Lib.hid (Hp_13.out.below (by omega) hw14)
    clear hb14 hc14 hf14 hw14
    clear l13_0 g13_0_0 g13_0_1 g13_0_2
    clear l13_1 g13_1_0 g13_1_1 g13_1_2
    clear l13_2 g13_2_0 g13_2_1 g13_2_2
    clear l13_3 g13_3_0 g13_3_1 g13_3_2
    clear Ha_13
    clear Hs_13
    clear Hu_13
    clear Hg_13
    clear Hp_13
    clear HB13
    go_wp2_with fail
    refine (heldPkV_any _ _ (RowOwn.row (Hp_14.out.below (B := w14.heap.size) (by omega) (by repeat (first | (with_reducible exact Below.refl _ _) | (with_reducible refine Bal ?_ _) | (with_reducible refine Below.drew ?_) | (with_reducible refine below_drewN ?_ _) | (with_reducible refine Bset ?_ ?_ _; focus (first | (with_reducible exact Nat.le_refl _) | (simp; done) | (simp; omega) | omega)) | (with_reducible refine Bt ?_ (by assumption)) | (with_reducible refine Bp (g := g) ?_ (by assumption) (by assumption)))))) hKn (by omega) (by omega)).mono ?_
    rintro e w' ⟨rfl, rfl⟩
    go_wp2_with fail
    refine (toBf_any _ 0 w.heap.size A n c y d q (Ha_14.out.below (B := w14.heap.size) (by omega) (by repeat (first | (with_reducible exact Below.refl _ _) | (with_reducible refine Bal ?_ _) | (with_reducible refine Below.drew ?_) | (with_reducible refine below_drewN ?_ _) | (with_reducible refine Bset ?_ ?_ _; focus (first | (with_reducible exact Nat.le_refl _) | (simp; done) | (simp; omega) | omega)) | (with_reducible refine Bt ?_ (by assumption)) | (with_reducible refine Bp (g := g) ?_ (by assumption) (by assumption))))) (by first | exact Nat.le_refl _ | (simp; done) | (simp; omega) | omega) hn).mono ?_
    rintro e w16 ⟨A16, c16, hO, rfl, hb16⟩
    obtain ⟨L16, hL16, hO16⟩ : ∃ L : Nat, L = _ ∧ RowOwn 54 w16 L w16.heap.size A16 n c16 7 (HdF q) := ⟨_, rfl, hO⟩
    try simp at hL16
    clear hO
    have hw16 : Below w14.heap.size w14 w16 := by repeat (first | (with_reducible exact Below.refl _ _) | (with_reducible refine Bal ?_ _) | (with_reducible refine Below.drew ?_) | (with_reducible refine below_drewN ?_ _) | (with_reducible refine Bset ?_ ?_ _; focus (first | (with_reducible exact Nat.le_refl _) | (simp; done) | (simp; omega) | omega)) | (with_reducible refine Bt ?_ (by assumption)) | (with_reducible refine Bp (g := g) ?_ (by assumption) (by assumption)))
    have hz16 : w14.heap.size ≤ w16.heap.size := hw16.size
    obtain ⟨hc16, hf16⟩ := bcell hb16
    have hy16 := hb16.size
    try simp at hy16
    have l16_0 : w.heap.size < w16.heap.size := by omega
    have g16_0_0 : w16.cell? ⟨w.heap.size, 0, none⟩ = some (.int .i64 y) := (hw16.cell (p := ⟨w.heap.size, 0, none⟩) l14_0).trans g14_0_0
    have g16_0_1 : w16.cell? ⟨w.heap.size, 1, none⟩ = some (.int .i64 d) := (hw16.cell (p := ⟨w.heap.size, 1, none⟩) l14_0).trans g14_0_1
    have g16_0_2 : w16.cell? ⟨w.heap.size, 2, none⟩ = some (.slice A n c) := (hw16.cell (p := ⟨w.heap.size, 2, none⟩) l14_0).trans g14_0_2
    have l16_1 : w2.heap.size < w16.heap.size := by omega
    have g16_1_0 : w16.cell? ⟨w2.heap.size, 0, none⟩ = some (.int .i64 yy) := (hw16.cell (p := ⟨w2.heap.size, 0, none⟩) l14_1).trans g14_1_0
    have g16_1_1 : w16.cell? ⟨w2.heap.size, 1, none⟩ = some (.int .i64 dd) := (hw16.cell (p := ⟨w2.heap.size, 1, none⟩) l14_1).trans g14_1_1
    have g16_1_2 : w16.cell? ⟨w2.heap.size, 2, none⟩ = some (.slice A2 nn c2) := (hw16.cell (p := ⟨w2.heap.size, 2, none⟩) l14_1).trans g14_1_2
    have l16_2 : w3.heap.size < w16.heap.size := by omega
    have g16_2_0 : w16.cell? ⟨w3.heap.size, 0, none⟩ = some (.int .i64 y) := (hw16.cell (p := ⟨w3.heap.size, 0, none⟩) l14_2).trans g14_2_0
    have g16_2_1 : w16.cell? ⟨w3.heap.size, 1, none⟩ = some (.int .i64 d) := (hw16.cell (p := ⟨w3.heap.size, 1, none⟩) l14_2).trans g14_2_1
    have g16_2_2 : w16.cell? ⟨w3.heap.size, 2, none⟩ = some (.slice A3 n c3) := (hw16.cell (p := ⟨w3.heap.size, 2, none⟩) l14_2).trans g14_2_2
    have l16_3 : w4.heap.size < w16.heap.size := by omega
    have g16_3_0 : w16.cell? ⟨w4.heap.size, 0, none⟩ = some (.int .i64 yy) := (hw16.cell (p := ⟨w4.heap.size, 0, none⟩) l14_3).trans g14_3_0
    have g16_3_1 : w16.cell? ⟨w4.heap.size, 1, none⟩ = some (.int .i64 dd) := (hw16.cell (p := ⟨w4.heap.size, 1, none⟩) l14_3).trans g14_3_1
    have g16_3_2 : w16.cell? ⟨w4.heap.size, 2, none⟩ = some (.slice A4 nn c4) := (hw16.cell (p := ⟨w4.heap.size, 2, none⟩) l14_3).trans g14_3_2
    have HB16 := Lib.hid (HB14.out.trans (hw16.mono HB14.out.size))
    have Ha_16 := Lib.hid (Ha_14.out.below (by omega) hw16)
    have Hs_16 := Lib.hid (Hs_14.out.below (by omega) hw16)
    have Hu_16 := Lib.hid (Hu_14.out.below (by omega) hw16)
    have Hg_16 := Lib.hid (Hg_14.out.below (by omega) hw16)
    have Hp_16 := Lib.hid (Hp_14.out.below (by omega) hw16)
    clear hb16 hc16 hf16 hw16
    clear l14_0 g14_0_0 g14_0_1 g14_0_2
    clear l14_1 g14_1_0 g14_1_1 g14_1_2
    clear l14_2 g14_2_0 g14_2_1 g14_2_2
    clear l14_3 g14_3_0 g14_3_1 g14_3_2
    clear Ha_14
    clear Hs_14
    clear Hu_14
    clear Hg_14
    clear Hp_14
    clear HB14
    have M16 := Nat.le_of_eq hL16.symm
    have N16 : L16 ≤ w16.heap.size := by omega
    clear hL16
    have Hz_16 := Lib.hid hO16
    clear hO16
    go_wp2_with fail
    refine (HI.out _ _ _ _ _ (RowOwn.row (Hz_16.out.below (B := w16.heap.size) (by omega) (by repeat (first | (with_reducible exact Below.refl _ _) | (with_reducible refine Bal ?_ _) | (with_reducible refine Below.drew ?_) | (with_reducible refine below_drewN ?_ _) | (with_reducible refine Bset ?_ ?_ _; focus (first | (with_reducible exact Nat.le_refl _) | (simp; done) | (simp; omega) | omega)) | (with_reducible refine Bt ?_ (by assumption)) | (with_reducible refine Bp (g := g) ?_ (by assumption) (by assumption)))))) (by first | exact Nat.le_refl _ | (simp; done) | (simp; omega) | omega)).mono ?_
    rintro e w17 ⟨A17, c17, B17, cb17, hO, hP, hdis, rfl, hb17⟩
    obtain ⟨L17, hL17, hO17, hP17⟩ : ∃ L : Nat, L = _ ∧ RowOwn 54 w17 L w17.heap.size A17 nn c17 7 (HdF qq) ∧ RowOwn 30 w17 L w17.heap.size B17 K cb17 6 (PkF fun i => (q i).p) := ⟨_, rfl, hO, hP⟩
    try simp at hL17
    have D17 := Lib.hid hdis
    clear hO hP hdis
    have hw17 : Below w16.heap.size w16 w17 := by repeat (first | (with_reducible exact Below.refl _ _) | (with_reducible refine Bal ?_ _) | (with_reducible refine Below.drew ?_) | (with_reducible refine below_drewN ?_ _) | (with_reducible refine Bset ?_ ?_ _; focus (first | (with_reducible exact Nat.le_refl _) | (simp; done) | (simp; omega) | omega)) | (with_reducible refine Bt ?_ (by assumption)) | (with_reducible refine Bp (g := g) ?_ (by assumption) (by assumption)))
    have hz17 : w16.heap.size ≤ w17.heap.size := hw17.size
    obtain ⟨hc17, hf17⟩ := bcell hb17
    have hy17 := hb17.size
    try simp at hy17
    have l17_0 : w.heap.size < w17.heap.size := by omega
    have g17_0_0 : w17.cell? ⟨w.heap.size, 0, none⟩ = some (.int .i64 y) := (hw17.cell (p := ⟨w.heap.size, 0, none⟩) l16_0).trans g16_0_0
    have g17_0_1 : w17.cell? ⟨w.heap.size, 1, none⟩ = some (.int .i64 d) := (hw17.cell (p := ⟨w.heap.size, 1, none⟩) l16_0).trans g16_0_1
    have g17_0_2 : w17.cell? ⟨w.heap.size, 2, none⟩ = some (.slice A n c) := (hw17.cell (p := ⟨w.heap.size, 2, none⟩) l16_0).trans g16_0_2
    have l17_1 : w2.heap.size < w17.heap.size := by omega
    have g17_1_0 : w17.cell? ⟨w2.heap.size, 0, none⟩ = some (.int .i64 yy) := (hw17.cell (p := ⟨w2.heap.size, 0, none⟩) l16_1).trans g16_1_0
    have g17_1_1 : w17.cell? ⟨w2.heap.size, 1, none⟩ = some (.int .i64 dd) := (hw17.cell (p := ⟨w2.heap.size, 1, none⟩) l16_1).trans g16_1_1
    have g17_1_2 : w17.cell? ⟨w2.heap.size, 2, none⟩ = some (.slice A2 nn c2) := (hw17.cell (p := ⟨w2.heap.size, 2, none⟩) l16_1).trans g16_1_2
    have l17_2 : w3.heap.size < w17.heap.size := by omega
    have g17_2_0 : w17.cell? ⟨w3.heap.size, 0, none⟩ = some (.int .i64 y) := (hw17.cell (p := ⟨w3.heap.size, 0, none⟩) l16_2).trans g16_2_0
    have g17_2_1 : w17.cell? ⟨w3.heap.size, 1, none⟩ = some (.int .i64 d) := (hw17.cell (p := ⟨w3.heap.size, 1, none⟩) l16_2).trans g16_2_1
    have g17_2_2 : w17.cell? ⟨w3.heap.size, 2, none⟩ = some (.slice A3 n c3) := (hw17.cell (p := ⟨w3.heap.size, 2, none⟩) l16_2).trans g16_2_2
    have l17_3 : w4.heap.size < w17.heap.size := by omega
    have g17_3_0 : w17.cell? ⟨w4.heap.size, 0, none⟩ = some (.int .i64 yy) := (hw17.cell (p := ⟨w4.heap.size, 0, none⟩) l16_3).trans g16_3_0
    have g17_3_1 : w17.cell? ⟨w4.heap.size, 1, none⟩ = some (.int .i64 dd) := (hw17.cell (p := ⟨w4.heap.size, 1, none⟩) l16_3).trans g16_3_1
    have g17_3_2 : w17.cell? ⟨w4.heap.size, 2, none⟩ = some (.slice A4 nn c4) := (hw17.cell (p := ⟨w4.heap.size, 2, none⟩) l16_3).trans g16_3_2
    have HB17 := Lib.hid (HB16.out.trans (hw17.mono HB16.out.size))
    have Ha_17 := Lib.hid (Ha_16.out.below (by omega) hw17)
    have Hs_17 := Lib.hid (Hs_16.out.below (by omega) hw17)
    have Hu_17 := Lib.hid (Hu_16.out.below (by omega) hw17)
    have Hg_17 := Lib.hid (Hg_16.out.below (by omega) hw17)
    have Hp_17 := Lib.hid (Hp_16.out.below (by omega) hw17)
    have Hz_17 := Lib.hid (Hz_16.out.below (by omega) hw17)
    clear hb17 hc17 hf17 hw17
    clear l16_0 g16_0_0 g16_0_1 g16_0_2
    clear l16_1 g16_1_0 g16_1_1 g16_1_2
    clear l16_2 g16_2_0 g16_2_1 g16_2_2
    clear l16_3 g16_3_0 g16_3_1 g16_3_2
    clear Ha_16
    clear Hs_16
    clear Hu_16
    clear Hg_16
    clear Hp_16
    clear Hz_16
    clear HB16
    have M17 := Nat.le_of_eq hL17.symm
    have N17 : L17 ≤ w17.heap.size := by omega
    clear hL17
    have Hh_17 := Lib.hid hO17
    clear hO17
    have Hi_17 := Lib.hid hP17
    clear hP17
    go_wp2_with fail
    refine (eqBf_same _ (RowOwn.row (Hh_17.out.below (B := w17.heap.size) (by omega) (by repeat (first | (with_reducible exact Below.refl _ _) | (with_reducible refine Bal ?_ _) | (with_reducible refine Below.drew ?_) | (with_reducible refine below_drewN ?_ _) | (with_reducible refine Bset ?_ ?_ _; focus (first | (with_reducible exact Nat.le_refl _) | (simp; done) | (simp; omega) | omega)) | (with_reducible refine Bt ?_ (by assumption)) | (with_reducible refine Bp (g := g) ?_ (by assumption) (by assumption)))))) (RowOwn.row (Hs_17.out.below (B := w17.heap.size) (by omega) (by repeat (first | (with_reducible exact Below.refl _ _) | (with_reducible refine Bal ?_ _) | (with_reducible refine Below.drew ?_) | (with_reducible refine below_drewN ?_ _) | (with_reducible refine Bset ?_ ?_ _; focus (first | (with_reducible exact Nat.le_refl _) | (simp; done) | (simp; omega) | omega)) | (with_reducible refine Bt ?_ (by assumption)) | (with_reducible refine Bp (g := g) ?_ (by assumption) (by assumption)))))) (by first | exact Nat.le_refl _ | (simp; done) | (simp; omega) | omega) (by first | exact Nat.le_refl _ | (simp; done) | (simp; omega) | omega) hnn).mono ?_
    rintro e w18 ⟨rfl, hb18⟩
    have hw18 : Below w17.heap.size w17 w18 := by repeat (first | (with_reducible exact Below.refl _ _) | (with_reducible refine Bal ?_ _) | (with_reducible refine Below.drew ?_) | (with_reducible refine below_drewN ?_ _) | (with_reducible refine Bset ?_ ?_ _; focus (first | (with_reducible exact Nat.le_refl _) | (simp; done) | (simp; omega) | omega)) | (with_reducible refine Bt ?_ (by assumption)) | (with_reducible refine Bp (g := g) ?_ (by assumption) (by assumption)))
    have hz18 : w17.heap.size ≤ w18.heap.size := hw18.size
    obtain ⟨hc18, hf18⟩ := bcell hb18
    have hy18 := hb18.size
    try simp at hy18
    have l18_0 : w.heap.size < w18.heap.size := by omega
    have g18_0_0 : w18.cell? ⟨w.heap.size, 0, none⟩ = some (.int .i64 y) := (hw18.cell (p := ⟨w.heap.size, 0, none⟩) l17_0).trans g17_0_0
    have g18_0_1 : w18.cell? ⟨w.heap.size, 1, none⟩ = some (.int .i64 d) := (hw18.cell (p := ⟨w.heap.size, 1, none⟩) l17_0).trans g17_0_1
    have g18_0_2 : w18.cell? ⟨w.heap.size, 2, none⟩ = some (.slice A n c) := (hw18.cell (p := ⟨w.heap.size, 2, none⟩) l17_0).trans g17_0_2
    have l18_1 : w2.heap.size < w18.heap.size := by omega
    have g18_1_0 : w18.cell? ⟨w2.heap.size, 0, none⟩ = some (.int .i64 yy) := (hw18.cell (p := ⟨w2.heap.size, 0, none⟩) l17_1).trans g17_1_0
    have g18_1_1 : w18.cell? ⟨w2.heap.size, 1, none⟩ = some (.int .i64 dd) := (hw18.cell (p := ⟨w2.heap.size, 1, none⟩) l17_1).trans g17_1_1
    have g18_1_2 : w18.cell? ⟨w2.heap.size, 2, none⟩ = some (.slice A2 nn c2) := (hw18.cell (p := ⟨w2.heap.size, 2, none⟩) l17_1).trans g17_1_2
    have l18_2 : w3.heap.size < w18.heap.size := by omega
    have g18_2_0 : w18.cell? ⟨w3.heap.size, 0, none⟩ = some (.int .i64 y) := (hw18.cell (p := ⟨w3.heap.size, 0, none⟩) l17_2).trans g17_2_0
    have g18_2_1 : w18.cell? ⟨w3.heap.size, 1, none⟩ = some (.int .i64 d) := (hw18.cell (p := ⟨w3.heap.size, 1, none⟩) l17_2).trans g17_2_1
    have g18_2_2 : w18.cell? ⟨w3.heap.size, 2, none⟩ = some (.slice A3 n c3) := (hw18.cell (p := ⟨w3.heap.size, 2, none⟩) l17_2).trans g17_2_2
    have l18_3 : w4.heap.size < w18.heap.size := by omega
    have g18_3_0 : w18.cell? ⟨w4.heap.size, 0, none⟩ = some (.int .i64 yy) := (hw18.cell (p := ⟨w4.heap.size, 0, none⟩) l17_3).trans g17_3_0
    have g18_3_1 : w18.cell? ⟨w4.heap.size, 1, none⟩ = some (.int .i64 dd) := (hw18.cell (p := ⟨w4.heap.size, 1, none⟩) l17_3).trans g17_3_1
    have g18_3_2 : w18.cell? ⟨w4.heap.size, 2, none⟩ = some (.slice A4 nn c4) := (hw18.cell (p := ⟨w4.heap.size, 2, none⟩) l17_3).trans g17_3_2
    have l18_4 : w17.heap.size < w18.heap.size := by omega
    have g18_4_0 : w18.cell? ⟨w17.heap.size, 0, none⟩ = some (.int .i64 yy) := (hc18 (w17.heap.size) 0 (by first | (simp; done) | (simp; omega) | omega)).trans (by go_simp; try rfl)
    have g18_4_1 : w18.cell? ⟨w17.heap.size, 1, none⟩ = some (.int .i64 dd) := (hc18 (w17.heap.size) 1 (by first | (simp; done) | (simp; omega) | omega)).trans (by go_simp; try rfl)
    have g18_4_2 : w18.cell? ⟨w17.heap.size, 2, none⟩ = some (.slice A17 nn c17) := (hc18 (w17.heap.size) 2 (by first | (simp; done) | (simp; omega) | omega)).trans (by go_simp; try rfl)
    have HB18 := Lib.hid (HB17.out.trans (hw18.mono HB17.out.size))
    have Ha_18 := Lib.hid (Ha_17.out.below (by omega) hw18)
    have Hs_18 := Lib.hid (Hs_17.out.below (by omega) hw18)
    have Hu_18 := Lib.hid (Hu_17.out.below (by omega) hw18)
    have Hg_18 := Lib.hid (Hg_17.out.below (by omega) hw18)
    have Hp_18 := Lib.hid (Hp_17.out.below (by omega) hw18)
    have Hh_18 := Lib.hid (Hh_17.out.below (by omega) hw18)
    have Hi_18 := Lib.hid (Hi_17.out.below (by omega) hw18)
    clear hb18 hc18 hf18 hw18
    clear l17_0 g17_0_0 g17_0_1 g17_0_2
    clear l17_1 g17_1_0 g17_1_1 g17_1_2
    clear l17_2 g17_2_0 g17_2_1 g17_2_2
    clear l17_3 g17_3_0 g17_3_1 g17_3_2
    clear Ha_17
    clear Hs_17
    clear Hu_17
    clear Hg_17
    clear Hp_17
    clear Hz_17
    clear Hh_17
    clear Hi_17
    clear HB17
    go_wp2_with fail
    refine (eqPkS_same _ (RowOwn.row (Hi_18.out.below (B := w18.heap.size) (by omega) (by repeat (first | (with_reducible exact Below.refl _ _) | (with_reducible refine Bal ?_ _) | (with_reducible refine Below.drew ?_) | (with_reducible refine below_drewN ?_ _) | (with_reducible refine Bset ?_ ?_ _; focus (first | (with_reducible exact Nat.le_refl _) | (simp; done) | (simp; omega) | omega)) | (with_reducible refine Bt ?_ (by assumption)) | (with_reducible refine Bp (g := g) ?_ (by assumption) (by assumption)))))) (RowOwn.row (Hu_18.out.below (B := w18.heap.size) (by omega) (by repeat (first | (with_reducible exact Below.refl _ _) | (with_reducible refine Bal ?_ _) | (with_reducible refine Below.drew ?_) | (with_reducible refine below_drewN ?_ _) | (with_reducible refine Bset ?_ ?_ _; focus (first | (with_reducible exact Nat.le_refl _) | (simp; done) | (simp; omega) | omega)) | (with_reducible refine Bt ?_ (by assumption)) | (with_reducible refine Bp (g := g) ?_ (by assumption) (by assumption)))))) (by first | exact Nat.le_refl _ | (simp; done) | (simp; omega) | omega) (by first | exact Nat.le_refl _ | (simp; done) | (simp; omega) | omega) hKn).mono ?_
    rintro e w19 ⟨rfl, hb19⟩
    have hw19 : Below w18.heap.size w18 w19 := by repeat (first | (with_reducible exact Below.refl _ _) | (with_reducible refine Bal ?_ _) | (with_reducible refine Below.drew ?_) | (with_reducible refine below_drewN ?_ _) | (with_reducible refine Bset ?_ ?_ _; focus (first | (with_reducible exact Nat.le_refl _) | (simp; done) | (simp; omega) | omega)) | (with_reducible refine Bt ?_ (by assumption)) | (with_reducible refine Bp (g := g) ?_ (by assumption) (by assumption)))
    have hz19 : w18.heap.size ≤ w19.heap.size := hw19.size
    obtain ⟨hc19, hf19⟩ := bcell hb19
    have hy19 := hb19.size
    try simp at hy19
    have l19_0 : w.heap.size < w19.heap.size := by omega
    have g19_0_0 : w19.cell? ⟨w.heap.size, 0, none⟩ = some (.int .i64 y) := (hw19.cell (p := ⟨w.heap.size, 0, none⟩) l18_0).trans g18_0_0
    have g19_0_1 : w19.cell? ⟨w.heap.size, 1, none⟩ = some (.int .i64 d) := (hw19.cell (p := ⟨w.heap.size, 1, none⟩) l18_0).trans g18_0_1
    have g19_0_2 : w19.cell? ⟨w.heap.size, 2, none⟩ = some (.slice A n c) := (hw19.cell (p := ⟨w.heap.size, 2, none⟩) l18_0).trans g18_0_2
    have l19_1 : w2.heap.size < w19.heap.size := by omega
    have g19_1_0 : w19.cell? ⟨w2.heap.size, 0, none⟩ = some (.int .i64 yy) := (hw19.cell (p := ⟨w2.heap.size, 0, none⟩) l18_1).trans g18_1_0
    have g19_1_1 : w19.cell? ⟨w2.heap.size, 1, none⟩ = some (.int .i64 dd) := (hw19.cell (p := ⟨w2.heap.size, 1, none⟩) l18_1).trans g18_1_1
    have g19_1_2 : w19.cell? ⟨w2.heap.size, 2, none⟩ = some (.slice A2 nn c2) := (hw19.cell (p := ⟨w2.heap.size, 2, none⟩) l18_1).trans g18_1_2
    have l19_2 : w3.heap.size < w19.heap.size := by omega
    have g19_2_0 : w19.cell? ⟨w3.heap.size, 0, none⟩ = some (.int .i64 y) := (hw19.cell (p := ⟨w3.heap.size, 0, none⟩) l18_2).trans g18_2_0
    have g19_2_1 : w19.cell? ⟨w3.heap.size, 1, none⟩ = some (.int .i64 d) := (hw19.cell (p := ⟨w3.heap.size, 1, none⟩) l18_2).trans g18_2_1
    have g19_2_2 : w19.cell? ⟨w3.heap.size, 2, none⟩ = some (.slice A3 n c3) := (hw19.cell (p := ⟨w3.heap.size, 2, none⟩) l18_2).trans g18_2_2
    have l19_3 : w4.heap.size < w19.heap.size := by omega
    have g19_3_0 : w19.cell? ⟨w4.heap.size, 0, none⟩ = some (.int .i64 yy) := (hw19.cell (p := ⟨w4.heap.size, 0, none⟩) l18_3).trans g18_3_0
    have g19_3_1 : w19.cell? ⟨w4.heap.size, 1, none⟩ = some (.int .i64 dd) := (hw19.cell (p := ⟨w4.heap.size, 1, none⟩) l18_3).trans g18_3_1
    have g19_3_2 : w19.cell? ⟨w4.heap.size, 2, none⟩ = some (.slice A4 nn c4) := (hw19.cell (p := ⟨w4.heap.size, 2, none⟩) l18_3).trans g18_3_2
    have l19_4 : w17.heap.size < w19.heap.size := by omega
    have g19_4_0 : w19.cell? ⟨w17.heap.size, 0, none⟩ = some (.int .i64 yy) := (hw19.cell (p := ⟨w17.heap.size, 0, none⟩) l18_4).trans g18_4_0
    have g19_4_1 : w19.cell? ⟨w17.heap.size, 1, none⟩ = some (.int .i64 dd) := (hw19.cell (p := ⟨w17.heap.size, 1, none⟩) l18_4).trans g18_4_1
    have g19_4_2 : w19.cell? ⟨w17.heap.size, 2, none⟩ = some (.slice A17 nn c17) := (hw19.cell (p := ⟨w17.heap.size, 2, none⟩) l18_4).trans g18_4_2
    have HB19 := Lib.hid (HB18.out.trans (hw19.mono HB18.out.size))
    have Ha_19 := Lib.hid (Ha_18.out.below (by omega) hw19)
    have Hs_19 := Lib.hid (Hs_18.out.below (by omega) hw19)
    have Hu_19 := Lib.hid (Hu_18.out.below (by omega) hw19)
    have Hg_19 := Lib.hid (Hg_18.out.below (by omega) hw19)
    have Hp_19 := Lib.hid (Hp_18.out.below (by omega) hw19)
    have Hh_19 := Lib.hid (Hh_18.out.below (by omega) hw19)
    have Hi_19 := Lib.hid (Hi_18.out.below (by omega) hw19)
    clear hb19 hc19 hf19 hw19
    clear l18_0 g18_0_0 g18_0_1 g18_0_2
    clear l18_1 g18_1_0 g18_1_1 g18_1_2
    clear l18_2 g18_2_0 g18_2_1 g18_2_2
    clear l18_3 g18_3_0 g18_3_1 g18_3_2
    clear l18_4 g18_4_0 g18_4_1 g18_4_2
    clear Ha_18
    clear Hs_18
    clear Hu_18
    clear Hg_18
    clear Hp_18
    clear Hh_18
    clear Hi_18
    clear HB18
    go_wp2_with fail
    refine (heldBf_any _ 1 (RowOwn.row (Hg_19.out.below (B := w19.heap.size) (by omega) (by repeat (first | (with_reducible exact Below.refl _ _) | (with_reducible refine Bal ?_ _) | (with_reducible refine Below.drew ?_) | (with_reducible refine below_drewN ?_ _) | (with_reducible refine Bset ?_ ?_ _; focus (first | (with_reducible exact Nat.le_refl _) | (simp; done) | (simp; omega) | omega)) | (with_reducible refine Bt ?_ (by assumption)) | (with_reducible refine Bp (g := g) ?_ (by assumption) (by assumption)))))) (by first | exact Nat.le_refl _ | (simp; done) | (simp; omega) | omega) hnn (by omega)).mono ?_
    rintro e w20 ⟨rfl, hb20⟩
    have hw20 : Below w19.heap.size w19 w20 := by repeat (first | (with_reducible exact Below.refl _ _) | (with_reducible refine Bal ?_ _) | (with_reducible refine Below.drew ?_) | (with_reducible refine below_drewN ?_ _) | (with_reducible refine Bset ?_ ?_ _; focus (first | (with_reducible exact Nat.le_refl _) | (simp; done) | (simp; omega) | omega)) | (with_reducible refine Bt ?_ (by assumption)) | (with_reducible refine Bp (g := g) ?_ (by assumption) (by assumption)))
    have hz20 : w19.heap.size ≤ w20.heap.size := hw20.size
    obtain ⟨hc20, hf20⟩ := bcell hb20
    have hy20 := hb20.size
    try simp at hy20
    have l20_0 : w.heap.size < w20.heap.size := by omega
    have g20_0_0 : w20.cell? ⟨w.heap.size, 0, none⟩ = some (.int .i64 y) := (hw20.cell (p := ⟨w.heap.size, 0, none⟩) l19_0).trans g19_0_0
    have g20_0_1 : w20.cell? ⟨w.heap.size, 1, none⟩ = some (.int .i64 d) := (hw20.cell (p := ⟨w.heap.size, 1, none⟩) l19_0).trans g19_0_1
    have g20_0_2 : w20.cell? ⟨w.heap.size, 2, none⟩ = some (.slice A n c) := (hw20.cell (p := ⟨w.heap.size, 2, none⟩) l19_0).trans g19_0_2
    have l20_1 : w2.heap.size < w20.heap.size := by omega
    have g20_1_0 : w20.cell? ⟨w2.heap.size, 0, none⟩ = some (.int .i64 yy) := (hw20.cell (p := ⟨w2.heap.size, 0, none⟩) l19_1).trans g19_1_0
    have g20_1_1 : w20.cell? ⟨w2.heap.size, 1, none⟩ = some (.int .i64 dd) := (hw20.cell (p := ⟨w2.heap.size, 1, none⟩) l19_1).trans g19_1_1
    have g20_1_2 : w20.cell? ⟨w2.heap.size, 2, none⟩ = some (.slice A2 nn c2) := (hw20.cell (p := ⟨w2.heap.size, 2, none⟩) l19_1).trans g19_1_2
    have l20_2 : w3.heap.size < w20.heap.size := by omega
    have g20_2_0 : w20.cell? ⟨w3.heap.size, 0, none⟩ = some (.int .i64 y) := (hw20.cell (p := ⟨w3.heap.size, 0, none⟩) l19_2).trans g19_2_0
    have g20_2_1 : w20.cell? ⟨w3.heap.size, 1, none⟩ = some (.int .i64 d) := (hw20.cell (p := ⟨w3.heap.size, 1, none⟩) l19_2).trans g19_2_1
    have g20_2_2 : w20.cell? ⟨w3.heap.size, 2, none⟩ = some (.slice A3 n c3) := (hw20.cell (p := ⟨w3.heap.size, 2, none⟩) l19_2).trans g19_2_2
    have l20_3 : w4.heap.size < w20.heap.size := by omega
    have g20_3_0 : w20.cell? ⟨w4.heap.size, 0, none⟩ = some (.int .i64 yy) := (hw20.cell (p := ⟨w4.heap.size, 0, none⟩) l19_3).trans g19_3_0
    have g20_3_1 : w20.cell? ⟨w4.heap.size, 1, none⟩ = some (.int .i64 dd) := (hw20.cell (p := ⟨w4.heap.size, 1, none⟩) l19_3).trans g19_3_1
    have g20_3_2 : w20.cell? ⟨w4.heap.size, 2, none⟩ = some (.slice A4 nn c4) := (hw20.cell (p := ⟨w4.heap.size, 2, none⟩) l19_3).trans g19_3_2
    have l20_4 : w17.heap.size < w20.heap.size := by omega
    have g20_4_0 : w20.cell? ⟨w17.heap.size, 0, none⟩ = some (.int .i64 yy) := (hw20.cell (p := ⟨w17.heap.size, 0, none⟩) l19_4).trans g19_4_0
    have g20_4_1 : w20.cell? ⟨w17.heap.size, 1, none⟩ = some (.int .i64 dd) := (hw20.cell (p := ⟨w17.heap.size, 1, none⟩) l19_4).trans g19_4_1
    have g20_4_2 : w20.cell? ⟨w17.heap.size, 2, none⟩ = some (.slice A17 nn c17) := (hw20.cell (p := ⟨w17.heap.size, 2, none⟩) l19_4).trans g19_4_2
    have HB20 := Lib.hid (HB19.out.trans (hw20.mono HB19.out.size))
    have Ha_20 := Lib.hid (Ha_19.out.below (by omega) hw20)
    have Hs_20 := Lib.hid (Hs_19.out.below (by omega) hw20)
    have Hu_20 := Lib.hid (Hu_19.out.below (by omega) hw20)
    have Hg_20 := Lib.hid (Hg_19.out.below (by omega) hw20)
    have Hp_20 := Lib.hid (Hp_19.out.below (by omega) hw20)
    have Hh_20 := Lib.hid (Hh_19.out.below (by omega) hw20)
    have Hi_20 := Lib.hid (Hi_19.out.below (by omega) hw20)
    clear hb20 hc20 hf20 hw20
    clear l19_0 g19_0_0 g19_0_1 g19_0_2
    clear l19_1 g19_1_0 g19_1_1 g19_1_2
    clear l19_2 g19_2_0 g19_2_1 g19_2_2
    clear l19_3 g19_3_0 g19_3_1 g19_3_2
    clear l19_4 g19_4_0 g19_4_1 g19_4_2
    clear Ha_19
    clear Hs_19
    clear Hu_19
    clear Hg_19
    clear Hp_19
    clear Hh_19
    clear Hi_19
    clear HB19
    go_wp2_with fail
    refine (heldPkV_any _ _ (RowOwn.row (Hp_20.out.below (B := w20.heap.size) (by omega) (by repeat (first | (with_reducible exact Below.refl _ _) | (with_reducible refine Bal ?_ _) | (with_reducible refine Below.drew ?_) | (with_reducible refine below_drewN ?_ _) | (with_reducible refine Bset ?_ ?_ _; focus (first | (with_reducible exact Nat.le_refl _) | (simp; done) | (simp; omega) | omega)) | (with_reducible refine Bt ?_ (by assumption)) | (with_reducible refine Bp (g := g) ?_ (by assumption) (by assumption)))))) hKn (by omega) (by omega)).mono ?_
    rintro e w' ⟨rfl, rfl⟩
    go_wp2_with fail
    go_ret
    exact ⟨rfl, HB20.out⟩

end Go.Proofs.Ytegdogamenoaiaa
namespace Go.Proofs.Ytegdogamenoaiaa.fnExactBufferAll
open Go.ChangeShapes Go.WideShapes Go.ChangeAt Go.RowKit
set_option linter.unusedVariables false

theorem own : ownKnob Try.prog.godebug = none := by kernel_rfl
theorem laidOut : laidOutB Try.prog = true := by kernel_rfl

set_option maxRecDepth 100000 in
theorem lifted (os : Os) (started : os.Started) (H : Type) (enc : TypeId × Value → H) :
    ReturnsInHanded {} Try.checked os 5 .any (Rows.fnExactBufferAllSpec.pre6 enc Try.prog Try.f5 Rows.fnExactBufferAllRow.domain false) (Rows.fnExactBufferAllSpec.post enc Try.prog Try.f5 false true false false) := by
  refine returnsInHanded_of_change (C := Try.checked) own started (by kernel_rfl) Try.func5
    (ChangeSpec.witness6 (enc := enc) (C := Try.checked) false ⟨#[], #[.agg #[.int .i64 0, .int .i64 0, .slice none 0 0], .int .i64 0], []⟩ 8 (by kernel_rfl) (by kernel_rfl) (by kernel_rfl) (by kernel_rfl)) ?_
  intro W base args ds gs before hval0 hW hcnd _
  have hval : ∀ (j : Nat) t v, Try.f5.params[j]? = some t → args[j]? = some v → Value.okWide Try.prog W .any base t v := hval0
  have hW' := hW
  obtain ⟨p, q, hA0, hV, rfl, hfz, hnd⟩ := hW
  have hA : DataW.TrodAll enc Try.prog W 0 (fun _ => true) true Try.f5.params.toList args.toList ds p := hA0
  rw [Try.params5] at hA hval
  obtain ⟨v0, vs0, d0, ds0, p0, q0, hargs, rfl, rfl, h0, r0⟩ := trodAll_cons hA
  obtain ⟨v1, vs1, d1, ds1, p1, q1, rfl, rfl, rfl, h1, r1⟩ := trodAll_cons r0
  obtain ⟨rfl, rfl, rfl⟩ := trodAll_nil r1
  obtain rfl : args = #[v0, v1] := by cases args; simp_all
  obtain ⟨rfl, rfl⟩ := trodVars_none hV
  have k0 := h0
  have lt0 : ∀ x ∈ p0, x.block < W.heap.size := by obtain ⟨m, hm⟩ := k0; exact DataW.trod_lt m _ _ _ hm
  obtain ⟨by0, be0, a0, n0, c0, bq0, rfl, w0, l0⟩ := open_buffer (hval 0 24 v0 rfl rfl) h0
  obtain ⟨a1, rfl, rfl, rfl, w1⟩ := open_int Try.underlying3 (hval 1 3 v1 rfl rfl) h1
  clear hA0 hval0
  refine (walk_FnExactBufferAll by0 be0 a0 n0 c0 bq0 a1 W w0 l0 w1).mono fun e W' ⟨he, bel⟩ => ?_
  subst he
  exact ⟨_, rfl, _, _, _, [], _, [], hW', trodAll_mk1 (shut_bool Try.underlying4 _), (trodAll_cons_mk (Below.trod laidOut (by kernel_rfl) (of_decide_eq_true (by kernel_rfl)) k0 bel lt0) (trodAll_cons_mk (shut_int Try.underlying3 w1) trodAll_mk0)), rfl, bel.frame _, fun h => by cases h⟩

theorem over : Rows.fnExactBufferAllRow.holds Try.pinned (OpenSpec.ofChange Rows.fnExactBufferAllSpec) :=
  OpenClaim.holds_of_wide 5 Try.f5 rfl rfl rfl rfl rfl rfl rfl ⟨rfl, rfl, rfl, rfl, rfl⟩ rfl rfl rfl rfl rfl (by kernel_rfl) Try.func5 (by kernel_rfl)
    (of_decide_eq_true (by kernel_rfl)) (by unfold Func.isWrapper; first | (rw [if_pos (by decide +kernel)]; kernel_rfl) | (rw [if_neg (by decide +kernel)]; exact ⟨rfl, rfl⟩))
    (fun os started H enc _ => lifted os started H enc)

/-- The statement. -/
theorem proved : Rows.FnExactBufferAllSaid := over
#print axioms proved
end Go.Proofs.Ytegdogamenoaiaa.fnExactBufferAll
