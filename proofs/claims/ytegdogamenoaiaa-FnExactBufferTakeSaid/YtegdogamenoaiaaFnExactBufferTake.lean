/- The law FnExactBufferTake of the program is true at every input: the call returns true, and each argument reads behind the call as before. Conditions: none. -/
import Derived.Test.YtegdogamenoaiaaHxw
import Derived.WalkKit
import Derived.ProofKit
import Derived.OpenShut
import Derived.ShutString
import Derived.ChangeOld
import Derived.Below
import Derived.Test.YtegdogamenoaiaaHxw
namespace Go.Proofs.Ytegdogamenoaiaa
open Go.RowKit
set_option linter.unusedVariables false
set_option linter.unusedSimpArgs false

set_option maxRecDepth 100000 in
set_option maxHeartbeats 16000000 in
theorem walk_FnExactBufferTake (y d : Int) (A : Option Addr) (n c : Nat) (q : Nat → Hd) (now : Int) (w : World) (h : RowAt w 0 w.heap.size A n 7 (HdF q)) (hm : n ≤ maxLen) (hnow : (Lit.int .i64 now).wf = true) :
    Calls Try.prog 3 #[.agg #[.int .i64 y, .int .i64 d, .slice A n c], .int .i64 now] w fun e w' => e = .returned (.bool true) ∧ Below w.heap.size w w' := by
  unfold maxLen at hm
  have H := Lib.hid h
  clear h
  by_cases hn0 : 1048576 < n
  · go_enter Try.func3, Try.ntmps3
    go_wp2_with fail
    refine (szBf_out _ A n c y d hn0 hm).mono ?_
    rintro e w0 ⟨rfl, hb0⟩
    go_wp2_with fail
    go_ret
    go_light
    refine ⟨rfl, ?_⟩
    repeat (first | (with_reducible exact Below.refl _ _) | (with_reducible refine Bal ?_ _) | (with_reducible refine Below.drew ?_) | (with_reducible refine below_drewN ?_ _) | (with_reducible refine Bset ?_ ?_ _; focus (first | (with_reducible exact Nat.le_refl _) | (simp; done) | (simp; omega) | omega)) | (with_reducible refine Bt ?_ (by assumption)) | (with_reducible refine Bp (g := g) ?_ (by assumption) (by assumption)))
  · have hn : n ≤ 1048576 := by omega
    clear hn0 hm
    have hx : ¬ (1048576 : Int) - n < 0 := by omega
    obtain ⟨yy, dd, nn, qq, a1, a2, a3, a4, a5, a6, ok, hnn, hgv⟩ := gives_bt (y := y) (d := d) (now := now) (q := q) hn
    have HI := Lib.hid (fun W lo hi A c h1 h2 => (ibk_any W lo hi A n c y d now q h1 h2 hn).mono fun e w' hr => hgv W e w' hr)
    have HS := Lib.hid (fun W lo hi A c h1 h2 h3 => (sbk_any W lo hi A n c y d now q h1 h2 hn h3).mono fun e w' hr => hgv W e w' hr)
    clear hgv
    go_enter Try.func3, Try.ntmps3
    go_wp2_with fail
    refine (szBf_in _ A n c y d hn).mono ?_
    rintro e w0 ⟨rfl, hb0⟩
    have hw0 : Below w.heap.size w w0 := by repeat (first | (with_reducible exact Below.refl _ _) | (with_reducible refine Bal ?_ _) | (with_reducible refine Below.drew ?_) | (with_reducible refine below_drewN ?_ _) | (with_reducible refine Bset ?_ ?_ _; focus (first | (with_reducible exact Nat.le_refl _) | (simp; done) | (simp; omega) | omega)) | (with_reducible refine Bt ?_ (by assumption)) | (with_reducible refine Bp (g := g) ?_ (by assumption) (by assumption)))
    have hz0 : w.heap.size ≤ w0.heap.size := hw0.size
    obtain ⟨hc0, hf0⟩ := bcell hb0
    have hy0 := hb0.size
    try simp at hy0
    have l0_0 : w.heap.size < w0.heap.size := by omega
    have g0_0 : ∀ o : Nat, w0.cell? ⟨w.heap.size, o, none⟩ = ([.int .i64 y, .int .i64 d, .slice A n c] : List Value)[o]? := fun o => (hc0 (w.heap.size) o (by first | (simp; done) | (simp; omega) | omega)).trans (by go_simp; try rfl)
    have HB0 := Lib.hid hw0
    have Ha_0 := Lib.hid (H.out.below (Nat.le_refl _) hw0)
    clear hb0 hc0 hf0 hw0
    go_wp2_with fail
    refine (toBf_any _ 0 w.heap.size A n c y d q (Ha_0.out.below (B := w0.heap.size) (by omega) (by repeat (first | (with_reducible exact Below.refl _ _) | (with_reducible refine Bal ?_ _) | (with_reducible refine Below.drew ?_) | (with_reducible refine below_drewN ?_ _) | (with_reducible refine Bset ?_ ?_ _; focus (first | (with_reducible exact Nat.le_refl _) | (simp; done) | (simp; omega) | omega)) | (with_reducible refine Bt ?_ (by assumption)) | (with_reducible refine Bp (g := g) ?_ (by assumption) (by assumption))))) (by first | exact Nat.le_refl _ | (simp; done) | (simp; omega) | omega) hn).mono ?_
    rintro e w1 ⟨A1, c1, hO, rfl, hb1⟩
    obtain ⟨L1, hL1, hO1⟩ : ∃ L : Nat, L = _ ∧ RowOwn 54 w1 L w1.heap.size A1 n c1 7 (HdF q) := ⟨_, rfl, hO⟩
    try simp at hL1
    clear hO
    have hw1 : Below w0.heap.size w0 w1 := by repeat (first | (with_reducible exact Below.refl _ _) | (with_reducible refine Bal ?_ _) | (with_reducible refine Below.drew ?_) | (with_reducible refine below_drewN ?_ _) | (with_reducible refine Bset ?_ ?_ _; focus (first | (with_reducible exact Nat.le_refl _) | (simp; done) | (simp; omega) | omega)) | (with_reducible refine Bt ?_ (by assumption)) | (with_reducible refine Bp (g := g) ?_ (by assumption) (by assumption)))
    have hz1 : w0.heap.size ≤ w1.heap.size := hw1.size
    obtain ⟨hc1, hf1⟩ := bcell hb1
    have hy1 := hb1.size
    try simp at hy1
    have l1_0 : w.heap.size < w1.heap.size := by omega
    have g1_0 : ∀ o : Nat, w1.cell? ⟨w.heap.size, o, none⟩ = ([.int .i64 y, .int .i64 d, .slice A n c] : List Value)[o]? := fun o => (hw1.cell (p := ⟨w.heap.size, o, none⟩) l0_0).trans (g0_0 o)
    have HB1 := Lib.hid (HB0.out.trans (hw1.mono HB0.out.size))
    have Ha_1 := Lib.hid (Ha_0.out.below (by omega) hw1)
    clear hb1 hc1 hf1 hw1
    clear l0_0 g0_0
    clear Ha_0
    clear HB0
    have M1 := Nat.le_of_eq hL1.symm
    have N1 : L1 ≤ w1.heap.size := by omega
    clear hL1
    have Ht_1 := Lib.hid hO1
    clear hO1
    go_wp2_with fail
    refine (HS.out _ _ _ _ _ (RowOwn.row (Ht_1.out.below (B := w1.heap.size) (by omega) (by repeat (first | (with_reducible exact Below.refl _ _) | (with_reducible refine Bal ?_ _) | (with_reducible refine Below.drew ?_) | (with_reducible refine below_drewN ?_ _) | (with_reducible refine Bset ?_ ?_ _; focus (first | (with_reducible exact Nat.le_refl _) | (simp; done) | (simp; omega) | omega)) | (with_reducible refine Bt ?_ (by assumption)) | (with_reducible refine Bp (g := g) ?_ (by assumption) (by assumption)))))) (by first | exact Nat.le_refl _ | (simp; done) | (simp; omega) | omega) (own_le Ht_1.out)).mono ?_
    rintro e w2 ⟨A2, c2, hO, rfl, hb2⟩
    obtain ⟨L2, hL2, hO2⟩ : ∃ L : Nat, L = _ ∧ RowOwn 54 w2 L w2.heap.size A2 nn c2 7 (HdF qq) := ⟨_, rfl, hO⟩
    try simp at hL2
    clear hO
    have hw2 : Below w1.heap.size w1 w2 := by repeat (first | (with_reducible exact Below.refl _ _) | (with_reducible refine Bal ?_ _) | (with_reducible refine Below.drew ?_) | (with_reducible refine below_drewN ?_ _) | (with_reducible refine Bset ?_ ?_ _; focus (first | (with_reducible exact Nat.le_refl _) | (simp; done) | (simp; omega) | omega)) | (with_reducible refine Bt ?_ (by assumption)) | (with_reducible refine Bp (g := g) ?_ (by assumption) (by assumption)))
    have hz2 : w1.heap.size ≤ w2.heap.size := hw2.size
    obtain ⟨hc2, hf2⟩ := bcell hb2
    have hy2 := hb2.size
    try simp at hy2
    have l2_0 : w.heap.size < w2.heap.size := by omega
    have g2_0 : ∀ o : Nat, w2.cell? ⟨w.heap.size, o, none⟩ = ([.int .i64 y, .int .i64 d, .slice A n c] : List Value)[o]? := fun o => (hw2.cell (p := ⟨w.heap.size, o, none⟩) l1_0).trans (g1_0 o)
    have HB2 := Lib.hid (HB1.out.trans (hw2.mono HB1.out.size))
    have Ha_2 := Lib.hid (Ha_1.out.below (by omega) hw2)
    have Ht_2 := Lib.hid (Ht_1.out.below (by omega) hw2)
    clear hb2 hc2 hf2 hw2
    clear l1_0 g1_0
    clear Ha_1
    clear Ht_1
    clear HB1
    have M2 := Nat.le_of_eq hL2.symm
    have N2 : L2 ≤ w2.heap.size := by omega
    clear hL2
    have Hs_2 := Lib.hid hO2
    clear hO2
    go_wp2_with fail
    refine (toBf_any _ 0 w.heap.size A n c y d q (Ha_2.out.below (B := w2.heap.size) (by omega) (by repeat (first | (with_reducible exact Below.refl _ _) | (with_reducible refine Bal ?_ _) | (with_reducible refine Below.drew ?_) | (with_reducible refine below_drewN ?_ _) | (with_reducible refine Bset ?_ ?_ _; focus (first | (with_reducible exact Nat.le_refl _) | (simp; done) | (simp; omega) | omega)) | (with_reducible refine Bt ?_ (by assumption)) | (with_reducible refine Bp (g := g) ?_ (by assumption) (by assumption))))) (by first | exact Nat.le_refl _ | (simp; done) | (simp; omega) | omega) hn).mono ?_
    rintro e w3 ⟨A3, c3, hO, rfl, hb3⟩
    obtain ⟨L3, hL3, hO3⟩ : ∃ L : Nat, L = _ ∧ RowOwn 54 w3 L w3.heap.size A3 n c3 7 (HdF q) := ⟨_, rfl, hO⟩
    try simp at hL3
    clear hO
    have hw3 : Below w2.heap.size w2 w3 := by repeat (first | (with_reducible exact Below.refl _ _) | (with_reducible refine Bal ?_ _) | (with_reducible refine Below.drew ?_) | (with_reducible refine below_drewN ?_ _) | (with_reducible refine Bset ?_ ?_ _; focus (first | (with_reducible exact Nat.le_refl _) | (simp; done) | (simp; omega) | omega)) | (with_reducible refine Bt ?_ (by assumption)) | (with_reducible refine Bp (g := g) ?_ (by assumption) (by assumption)))
    have hz3 : w2.heap.size ≤ w3.heap.size := hw3.size
    obtain ⟨hc3, hf3⟩ := bcell hb3
    have hy3 := hb3.size
    try simp at hy3
    have l3_0 : w.heap.size < w3.heap.size := by omega
    have g3_0 : ∀ o : Nat, w3.cell? ⟨w.heap.size, o, none⟩ = ([.int .i64 y, .int .i64 d, .slice A n c] : List Value)[o]? := fun o => (hw3.cell (p := ⟨w.heap.size, o, none⟩) l2_0).trans (g2_0 o)
    have l3_1 : w2.heap.size < w3.heap.size := by omega
    have g3_1 : ∀ o : Nat, w3.cell? ⟨w2.heap.size, o, none⟩ = ([.int .i64 yy, .int .i64 dd, .slice A2 nn c2] : List Value)[o]? := fun o => (hc3 (w2.heap.size) o (by first | (simp; done) | (simp; omega) | omega)).trans (by go_simp; try rfl)
    have l3_2 : w2.heap.size + 1 < w3.heap.size := by omega
    have g3_2 : ∀ o : Nat, w3.cell? ⟨w2.heap.size + 1, o, none⟩ = ([.int .i64 a1, .int .i64 a2, .int .i64 a3, .int .i64 a4, .bool a5, .bool a6] : List Value)[o]? := fun o => (hc3 (w2.heap.size + 1) o (by first | (simp; done) | (simp; omega) | omega)).trans (by go_simp; try rfl)
    have HB3 := Lib.hid (HB2.out.trans (hw3.mono HB2.out.size))
    have Ha_3 := Lib.hid (Ha_2.out.below (by omega) hw3)
    have Hs_3 := Lib.hid (Hs_2.out.below (by omega) hw3)
    clear hb3 hc3 hf3 hw3
    clear l2_0 g2_0
    clear Ha_2
    clear Ht_2
    clear Hs_2
    clear HB2
    have M3 := Nat.le_of_eq hL3.symm
    have N3 : L3 ≤ w3.heap.size := by omega
    clear hL3
    have Hx_3 := Lib.hid hO3
    clear hO3
    go_wp2_with fail
    refine (HI.out _ _ _ _ _ (RowOwn.row (Hx_3.out.below (B := w3.heap.size) (by omega) (by repeat (first | (with_reducible exact Below.refl _ _) | (with_reducible refine Bal ?_ _) | (with_reducible refine Below.drew ?_) | (with_reducible refine below_drewN ?_ _) | (with_reducible refine Bset ?_ ?_ _; focus (first | (with_reducible exact Nat.le_refl _) | (simp; done) | (simp; omega) | omega)) | (with_reducible refine Bt ?_ (by assumption)) | (with_reducible refine Bp (g := g) ?_ (by assumption) (by assumption)))))) (by first | exact Nat.le_refl _ | (simp; done) | (simp; omega) | omega)).mono ?_
    rintro e w4 ⟨A4, c4, hO, rfl, hb4⟩
    obtain ⟨L4, hL4, hO4⟩ : ∃ L : Nat, L = _ ∧ RowOwn 54 w4 L w4.heap.size A4 nn c4 7 (HdF qq) := ⟨_, rfl, hO⟩
    try simp at hL4
    clear hO
    have hw4 : Below w3.heap.size w3 w4 := by repeat (first | (with_reducible exact Below.refl _ _) | (with_reducible refine Bal ?_ _) | (with_reducible refine Below.drew ?_) | (with_reducible refine below_drewN ?_ _) | (with_reducible refine Bset ?_ ?_ _; focus (first | (with_reducible exact Nat.le_refl _) | (simp; done) | (simp; omega) | omega)) | (with_reducible refine Bt ?_ (by assumption)) | (with_reducible refine Bp (g := g) ?_ (by assumption) (by assumption)))
    have hz4 : w3.heap.size ≤ w4.heap.size := hw4.size
    obtain ⟨hc4, hf4⟩ := bcell hb4
    have hy4 := hb4.size
    try simp at hy4
    have l4_0 : w.heap.size < w4.heap.size := by omega
    have g4_0 : ∀ o : Nat, w4.cell? ⟨w.heap.size, o, none⟩ = ([.int .i64 y, .int .i64 d, .slice A n c] : List Value)[o]? := fun o => (hw4.cell (p := ⟨w.heap.size, o, none⟩) l3_0).trans (g3_0 o)
    have l4_1 : w2.heap.size < w4.heap.size := by omega
    have g4_1 : ∀ o : Nat, w4.cell? ⟨w2.heap.size, o, none⟩ = ([.int .i64 yy, .int .i64 dd, .slice A2 nn c2] : List Value)[o]? := fun o => (hw4.cell (p := ⟨w2.heap.size, o, none⟩) l3_1).trans (g3_1 o)
    have l4_2 : w2.heap.size + 1 < w4.heap.size := by omega
    have g4_2 : ∀ o : Nat, w4.cell? ⟨w2.heap.size + 1, o, none⟩ = ([.int .i64 a1, .int .i64 a2, .int .i64 a3, .int .i64 a4, .bool a5, .bool a6] : List Value)[o]? := fun o => (hw4.cell (p := ⟨w2.heap.size + 1, o, none⟩) l3_2).trans (g3_2 o)
    have l4_3 : w3.heap.size < w4.heap.size := by omega
    have g4_3 : ∀ o : Nat, w4.cell? ⟨w3.heap.size, o, none⟩ = ([.int .i64 y, .int .i64 d, .slice A3 n c3] : List Value)[o]? := fun o => (hc4 (w3.heap.size) o (by first | (simp; done) | (simp; omega) | omega)).trans (by go_simp; try rfl)
    have HB4 := Lib.hid (HB3.out.trans (hw4.mono HB3.out.size))
    have Ha_4 := Lib.hid (Ha_3.out.below (by omega) hw4)
    have Hs_4 := Lib.hid (Hs_3.out.below (by omega) hw4)
    have Hx_4 := Lib.hid (Hx_3.out.below (by omega) hw4)
    clear hb4 hc4 hf4 hw4
    clear l3_0 g3_0
    clear l3_1 g3_1
    clear l3_2 g3_2
    clear Ha_3
    clear Hs_3
    clear Hx_3
    clear HB3
    have M4 := Nat.le_of_eq hL4.symm
    have N4 : L4 ≤ w4.heap.size := by omega
    clear hL4
    have Hg_4 := Lib.hid hO4
    clear hO4
    go_wp2_with fail
    refine (eqBf_same _ (RowOwn.row (Hg_4.out.below (B := w4.heap.size) (by omega) (by repeat (first | (with_reducible exact Below.refl _ _) | (with_reducible refine Bal ?_ _) | (with_reducible refine Below.drew ?_) | (with_reducible refine below_drewN ?_ _) | (with_reducible refine Bset ?_ ?_ _; focus (first | (with_reducible exact Nat.le_refl _) | (simp; done) | (simp; omega) | omega)) | (with_reducible refine Bt ?_ (by assumption)) | (with_reducible refine Bp (g := g) ?_ (by assumption) (by assumption)))))) (RowOwn.row (Hs_4.out.below (B := w4.heap.size) (by omega) (by repeat (first | (with_reducible exact Below.refl _ _) | (with_reducible refine Bal ?_ _) | (with_reducible refine Below.drew ?_) | (with_reducible refine below_drewN ?_ _) | (with_reducible refine Bset ?_ ?_ _; focus (first | (with_reducible exact Nat.le_refl _) | (simp; done) | (simp; omega) | omega)) | (with_reducible refine Bt ?_ (by assumption)) | (with_reducible refine Bp (g := g) ?_ (by assumption) (by assumption)))))) (by first | exact Nat.le_refl _ | (simp; done) | (simp; omega) | omega) (by first | exact Nat.le_refl _ | (simp; done) | (simp; omega) | omega) hnn).mono ?_
    rintro e w5 ⟨rfl, hb5⟩
    have hw5 : Below w4.heap.size w4 w5 := by repeat (first | (with_reducible exact Below.refl _ _) | (with_reducible refine Bal ?_ _) | (with_reducible refine Below.drew ?_) | (with_reducible refine below_drewN ?_ _) | (with_reducible refine Bset ?_ ?_ _; focus (first | (with_reducible exact Nat.le_refl _) | (simp; done) | (simp; omega) | omega)) | (with_reducible refine Bt ?_ (by assumption)) | (with_reducible refine Bp (g := g) ?_ (by assumption) (by assumption)))
    have hz5 : w4.heap.size ≤ w5.heap.size := hw5.size
    obtain ⟨hc5, hf5⟩ := bcell hb5
    have hy5 := hb5.size
    try simp at hy5
    have l5_0 : w.heap.size < w5.heap.size := by omega
    have g5_0 : ∀ o : Nat, w5.cell? ⟨w.heap.size, o, none⟩ = ([.int .i64 y, .int .i64 d, .slice A n c] : List Value)[o]? := fun o => (hw5.cell (p := ⟨w.heap.size, o, none⟩) l4_0).trans (g4_0 o)
    have l5_1 : w2.heap.size < w5.heap.size := by omega
    have g5_1 : ∀ o : Nat, w5.cell? ⟨w2.heap.size, o, none⟩ = ([.int .i64 yy, .int .i64 dd, .slice A2 nn c2] : List Value)[o]? := fun o => (hw5.cell (p := ⟨w2.heap.size, o, none⟩) l4_1).trans (g4_1 o)
    have l5_2 : w2.heap.size + 1 < w5.heap.size := by omega
    have g5_2 : ∀ o : Nat, w5.cell? ⟨w2.heap.size + 1, o, none⟩ = ([.int .i64 a1, .int .i64 a2, .int .i64 a3, .int .i64 a4, .bool a5, .bool a6] : List Value)[o]? := fun o => (hw5.cell (p := ⟨w2.heap.size + 1, o, none⟩) l4_2).trans (g4_2 o)
    have l5_3 : w3.heap.size < w5.heap.size := by omega
    have g5_3 : ∀ o : Nat, w5.cell? ⟨w3.heap.size, o, none⟩ = ([.int .i64 y, .int .i64 d, .slice A3 n c3] : List Value)[o]? := fun o => (hw5.cell (p := ⟨w3.heap.size, o, none⟩) l4_3).trans (g4_3 o)
    have l5_4 : w4.heap.size < w5.heap.size := by omega
    have g5_4 : ∀ o : Nat, w5.cell? ⟨w4.heap.size, o, none⟩ = ([.int .i64 yy, .int .i64 dd, .slice A4 nn c4] : List Value)[o]? := fun o => (hc5 (w4.heap.size) o (by first | (simp; done) | (simp; omega) | omega)).trans (by go_simp; try rfl)
    have l5_5 : w4.heap.size + 1 < w5.heap.size := by omega
    have g5_5 : ∀ o : Nat, w5.cell? ⟨w4.heap.size + 1, o, none⟩ = ([.int .i64 a1, .int .i64 a2, .int .i64 a3, .int .i64 a4, .bool a5, .bool a6] : List Value)[o]? := fun o => (hc5 (w4.heap.size + 1) o (by first | (simp; done) | (simp; omega) | omega)).trans (by go_simp; try rfl)
    have HB5 := Lib.hid (HB4.out.trans (hw5.mono HB4.out.size))
    have Ha_5 := Lib.hid (Ha_4.out.below (by omega) hw5)
    have Hs_5 := Lib.hid (Hs_4.out.below (by omega) hw5)
    have Hx_5 := Lib.hid (Hx_4.out.below (by omega) hw5)
    have Hg_5 := Lib.hid (Hg_4.out.below (by omega) hw5)
    clear hb5 hc5 hf5 hw5
    clear l4_0 g4_0
    clear l4_1 g4_1
    clear l4_2 g4_2
    clear l4_3 g4_3
    clear Ha_4
    clear Hs_4
    clear Hx_4
    clear Hg_4
    clear HB4
    go_wp2_with fail
    refine (eqPk_same _ _ _ _ _ _ _).mono ?_
    rintro e w6 ⟨rfl, hb6⟩
    have hw6 : Below w5.heap.size w5 w6 := by repeat (first | (with_reducible exact Below.refl _ _) | (with_reducible refine Bal ?_ _) | (with_reducible refine Below.drew ?_) | (with_reducible refine below_drewN ?_ _) | (with_reducible refine Bset ?_ ?_ _; focus (first | (with_reducible exact Nat.le_refl _) | (simp; done) | (simp; omega) | omega)) | (with_reducible refine Bt ?_ (by assumption)) | (with_reducible refine Bp (g := g) ?_ (by assumption) (by assumption)))
    have hz6 : w5.heap.size ≤ w6.heap.size := hw6.size
    obtain ⟨hc6, hf6⟩ := bcell hb6
    have hy6 := hb6.size
    try simp at hy6
    have l6_0 : w.heap.size < w6.heap.size := by omega
    have g6_0 : ∀ o : Nat, w6.cell? ⟨w.heap.size, o, none⟩ = ([.int .i64 y, .int .i64 d, .slice A n c] : List Value)[o]? := fun o => (hw6.cell (p := ⟨w.heap.size, o, none⟩) l5_0).trans (g5_0 o)
    have l6_1 : w2.heap.size < w6.heap.size := by omega
    have g6_1 : ∀ o : Nat, w6.cell? ⟨w2.heap.size, o, none⟩ = ([.int .i64 yy, .int .i64 dd, .slice A2 nn c2] : List Value)[o]? := fun o => (hw6.cell (p := ⟨w2.heap.size, o, none⟩) l5_1).trans (g5_1 o)
    have l6_2 : w2.heap.size + 1 < w6.heap.size := by omega
    have g6_2 : ∀ o : Nat, w6.cell? ⟨w2.heap.size + 1, o, none⟩ = ([.int .i64 a1, .int .i64 a2, .int .i64 a3, .int .i64 a4, .bool a5, .bool a6] : List Value)[o]? := fun o => (hw6.cell (p := ⟨w2.heap.size + 1, o, none⟩) l5_2).trans (g5_2 o)
    have l6_3 : w3.heap.size < w6.heap.size := by omega
    have g6_3 : ∀ o : Nat, w6.cell? ⟨w3.heap.size, o, none⟩ = ([.int .i64 y, .int .i64 d, .slice A3 n c3] : List Value)[o]? := fun o => (hw6.cell (p := ⟨w3.heap.size, o, none⟩) l5_3).trans (g5_3 o)
    have l6_4 : w4.heap.size < w6.heap.size := by omega
    have g6_4 : ∀ o : Nat, w6.cell? ⟨w4.heap.size, o, none⟩ = ([.int .i64 yy, .int .i64 dd, .slice A4 nn c4] : List Value)[o]? := fun o => (hw6.cell (p := ⟨w4.heap.size, o, none⟩) l5_4).trans (g5_4 o)
    have l6_5 : w4.heap.size + 1 < w6.heap.size := by omega
    have g6_5 : ∀ o : Nat, w6.cell? ⟨w4.heap.size + 1, o, none⟩ = ([.int .i64 a1, .int .i64 a2, .int .i64 a3, .int .i64 a4, .bool a5, .bool a6] : List Value)[o]? := fun o => (hw6.cell (p := ⟨w4.heap.size + 1, o, none⟩) l5_5).trans (g5_5 o)
    have HB6 := Lib.hid (HB5.out.trans (hw6.mono HB5.out.size))
    have Ha_6 := Lib.hid (Ha_5.out.below (by omega) hw6)
    have Hs_6 := Lib.hid (Hs_5.out.below (by omega) hw6)
    have Hx_6 := Lib.hid (Hx_5.out.below (by omega) hw6)
    have Hg_6 := Lib.hid (Hg_5.out.below (by omega) hw6)
    clear hb6 hc6 hf6 hw6
    clear l5_0 g5_0
    clear l5_1 g5_1
    clear l5_2 g5_2
    clear l5_3 g5_3
    clear l5_4 g5_4
    clear l5_5 g5_5
    clear Ha_5
    clear Hs_5
    clear Hx_5
    clear Hg_5
    clear HB5
    go_upto_region 10 with fail
    refine wp_region_mix (Below (w6.heap.size) w6) (by kernel_rfl) (by kernel_rfl) (Below.drew (Below.refl _ _)) ?_
    repeat (first
      | (refine mix_skip rfl ?_; have e0 : True := trivial; clear e0; refine mix_putK ?_; intro K hK; go_simp; refine hK _ ?_; clear hK K)
      | (refine mix_readE rfl rfl rfl ?_; apply Exists.intro; refine ⟨fun w' hb' => ?_, ?_⟩; (focus (obtain ⟨hc', hf'⟩ := below_cells hb'; clear hb'; go_simp; try exact rfl)); have e0 : True := trivial; clear e0; refine mix_putK ?_; intro K hK; go_simp; refine hK _ ?_; clear hK K)
      | (refine mix_pureE rfl rfl ?_; apply Exists.intro; refine ⟨fun w' => ?_, ?_⟩; (focus (go_simp; try exact rfl)); have e0 : True := trivial; clear e0; refine mix_putK ?_; intro K hK; go_simp; refine hK _ ?_; clear hK K)
      | (refine mix_eff rfl rfl ?_; go_wp2_with ((first | (go_at_call 18; refine (toBf_any _ 0 w.heap.size A n c y d q (Ha_6.out.below (B := w6.heap.size) (by omega) (by repeat (first | (with_reducible exact Below.refl _ _) | (with_reducible refine Bal ?_ _) | (with_reducible refine Below.drew ?_) | (with_reducible refine below_drewN ?_ _) | (with_reducible refine Bset ?_ ?_ _; focus (first | (with_reducible exact Nat.le_refl _) | (simp; done) | (simp; omega) | omega)) | (with_reducible refine Bt ?_ (by assumption)) | (with_reducible refine Bp (g := g) ?_ (by assumption) (by assumption))))) (by first | exact Nat.le_refl _ | (simp; done) | (simp; omega) | omega) hn).mono ?_; rintro e w7 ⟨A7, c7, hO7, rfl, hb7⟩; have hz7 := hb7.size; (try simp at hz7)) | (go_at_call 20; refine (eqBf_same _ (RowOwn.row (Hx_6.out.below (B := w6.heap.size) (by omega) (by repeat (first | (with_reducible exact Below.refl _ _) | (with_reducible refine Bal ?_ _) | (with_reducible refine Below.drew ?_) | (with_reducible refine below_drewN ?_ _) | (with_reducible refine Bset ?_ ?_ _; focus (first | (with_reducible exact Nat.le_refl _) | (simp; done) | (simp; omega) | omega)) | (with_reducible refine Bt ?_ (by assumption)) | (with_reducible refine Bp (g := g) ?_ (by assumption) (by assumption)))))) (RowOwn.row (RowOwn.below (Nat.le_refl _) hO7 (by repeat (first | (with_reducible exact Below.refl _ _) | (with_reducible refine Bal ?_ _) | (with_reducible refine Below.drew ?_) | (with_reducible refine below_drewN ?_ _) | (with_reducible refine Bset ?_ ?_ _; focus (first | (with_reducible exact Nat.le_refl _) | (simp; done) | (simp; omega) | omega)) | (with_reducible refine Bt ?_ (by assumption)) | (with_reducible refine Bp (g := g) ?_ (by assumption) (by assumption)))))) (by first | exact Nat.le_refl _ | (simp; done) | (simp; omega) | omega) (by first | exact Nat.le_refl _ | (simp; done) | (simp; omega) | omega) hn).mono ?_; rintro e w8 ⟨rfl, hb8⟩))); refine then_mix rfl ?_ ?_; (focus (first | (intro h; have h2 : false = true := h; cases h2) | (intro _; assumption) | (intro _; exact Below.drew (by assumption)) | (intro _; repeat (first | (with_reducible exact Below.refl _ _) | (with_reducible refine Bal ?_ _) | (with_reducible refine Below.drew ?_) | (with_reducible refine below_drewN ?_ _) | (with_reducible refine Bset ?_ ?_ _; focus (first | (with_reducible exact Nat.le_refl _) | (simp; done) | (simp; omega) | omega)) | (with_reducible refine Bt ?_ (by assumption)) | (with_reducible refine Bp (g := g) ?_ (by assumption) (by assumption))))))))
    refine mix_nil ?_
    have hw8 : Below w6.heap.size w6 w8 := by repeat (first | (with_reducible exact Below.refl _ _) | (with_reducible refine Bal ?_ _) | (with_reducible refine Below.drew ?_) | (with_reducible refine below_drewN ?_ _) | (with_reducible refine Bset ?_ ?_ _; focus (first | (with_reducible exact Nat.le_refl _) | (simp; done) | (simp; omega) | omega)) | (with_reducible refine Bt ?_ (by assumption)) | (with_reducible refine Bp (g := g) ?_ (by assumption) (by assumption)))
    have hz8 : w6.heap.size ≤ w8.heap.size := hw8.size
    have l8_0 : w.heap.size < w8.heap.size := by omega
    have g8_0 : ∀ o : Nat, w8.cell? ⟨w.heap.size, o, none⟩ = ([.int .i64 y, .int .i64 d, .slice A n c] : List Value)[o]? := fun o => (hw8.cell (p := ⟨w.heap.size, o, none⟩) l6_0).trans (g6_0 o)
    have l8_1 : w2.heap.size < w8.heap.size := by omega
    have g8_1 : ∀ o : Nat, w8.cell? ⟨w2.heap.size, o, none⟩ = ([.int .i64 yy, .int .i64 dd, .slice A2 nn c2] : List Value)[o]? := fun o => (hw8.cell (p := ⟨w2.heap.size, o, none⟩) l6_1).trans (g6_1 o)
    have l8_2 : w2.heap.size + 1 < w8.heap.size := by omega
    have g8_2 : ∀ o : Nat, w8.cell? ⟨w2.heap.size + 1, o, none⟩ = ([.int .i64 a1, .int .i64 a2, .int .i64 a3, .int .i64 a4, .bool a5, .bool a6] : List Value)[o]? := fun o => (hw8.cell (p := ⟨w2.heap.size + 1, o, none⟩) l6_2).trans (g6_2 o)
    have l8_3 : w3.heap.size < w8.heap.size := by omega
    have g8_3 : ∀ o : Nat, w8.cell? ⟨w3.heap.size, o, none⟩ = ([.int .i64 y, .int .i64 d, .slice A3 n c3] : List Value)[o]? := fun o => (hw8.cell (p := ⟨w3.heap.size, o, none⟩) l6_3).trans (g6_3 o)
    have l8_4 : w4.heap.size < w8.heap.size := by omega
    have g8_4 : ∀ o : Nat, w8.cell? ⟨w4.heap.size, o, none⟩ = ([.int .i64 yy, .int .i64 dd, .slice A4 nn c4] : List Value)[o]? := fun o => (hw8.cell (p := ⟨w4.heap.size, o, none⟩) l6_4).trans (g6_4 o)
    have l8_5 : w4.heap.size + 1 < w8.heap.size := by omega
    have g8_5 : ∀ o : Nat, w8.cell? ⟨w4.heap.size + 1, o, none⟩ = ([.int .i64 a1, .int .i64 a2, .int .i64 a3, .int .i64 a4, .bool a5, .bool a6] : List Value)[o]? := fun o => (hw8.cell (p := ⟨w4.heap.size + 1, o, none⟩) l6_5).trans (g6_5 o)
    have HB8 := Lib.hid (HB6.out.trans (hw8.mono HB6.out.size))
    have Ha_8 := Lib.hid (Ha_6.out.below (by omega) hw8)
    have Hs_8 := Lib.hid (Hs_6.out.below (by omega) hw8)
    have Hx_8 := Lib.hid (Hx_6.out.below (by omega) hw8)
    have Hg_8 := Lib.hid (Hg_6.out.below (by omega) hw8)
    clear hb8 hw8
    clear l6_0 g6_0
    clear l6_1 g6_1
    clear l6_2 g6_2
    clear l6_3 g6_3
    clear l6_4 g6_4
    clear l6_5 g6_5
    clear Ha_6
    clear Hs_6
    clear Hx_6
    clear Hg_6
    clear HB6
    go_wp2_with fail
    refine (markBf_any _ 1 Hx_8.out (by omega) hn (by omega)).mono ?_
    rintro e w9 ⟨hO9, rfl, hG9⟩
    have hz9 : w8.heap.size ≤ w9.heap.size := hG9.size
    have hlt9 : ∀ g, (Value.slice A3 n c3).ownBlock = some g → L3 ≤ g ∧ g < w3.heap.size := fun g hg => ⟨(Hx_8.out.1.lt g hg).1, Hx_8.out.2 g hg⟩
    have l9_0 : w.heap.size < w9.heap.size := by omega
    have g9_0 : ∀ o : Nat, w9.cell? ⟨w.heap.size, o, none⟩ = ([.int .i64 y, .int .i64 d, .slice A n c] : List Value)[o]? := fun o => (grown_cell hG9 l8_0 (fun e => by have := hlt9 _ e.symm; omega) o).trans (g8_0 o)
    have l9_1 : w2.heap.size < w9.heap.size := by omega
    have g9_1 : ∀ o : Nat, w9.cell? ⟨w2.heap.size, o, none⟩ = ([.int .i64 yy, .int .i64 dd, .slice A2 nn c2] : List Value)[o]? := fun o => (grown_cell hG9 l8_1 (fun e => by have := hlt9 _ e.symm; omega) o).trans (g8_1 o)
    have l9_2 : w2.heap.size + 1 < w9.heap.size := by omega
    have g9_2 : ∀ o : Nat, w9.cell? ⟨w2.heap.size + 1, o, none⟩ = ([.int .i64 a1, .int .i64 a2, .int .i64 a3, .int .i64 a4, .bool a5, .bool a6] : List Value)[o]? := fun o => (grown_cell hG9 l8_2 (fun e => by have := hlt9 _ e.symm; omega) o).trans (g8_2 o)
    have l9_3 : w3.heap.size < w9.heap.size := by omega
    have g9_3 : ∀ o : Nat, w9.cell? ⟨w3.heap.size, o, none⟩ = ([.int .i64 y, .int .i64 d, .slice A3 n c3] : List Value)[o]? := fun o => (grown_cell hG9 l8_3 (fun e => by have := hlt9 _ e.symm; omega) o).trans (g8_3 o)
    have l9_4 : w4.heap.size < w9.heap.size := by omega
    have g9_4 : ∀ o : Nat, w9.cell? ⟨w4.heap.size, o, none⟩ = ([.int .i64 yy, .int .i64 dd, .slice A4 nn c4] : List Value)[o]? := fun o => (grown_cell hG9 l8_4 (fun e => by have := hlt9 _ e.symm; omega) o).trans (g8_4 o)
    have l9_5 : w4.heap.size + 1 < w9.heap.size := by omega
    have g9_5 : ∀ o : Nat, w9.cell? ⟨w4.heap.size + 1, o, none⟩ = ([.int .i64 a1, .int .i64 a2, .int .i64 a3, .int .i64 a4, .bool a5, .bool a6] : List Value)[o]? := fun o => (grown_cell hG9 l8_5 (fun e => by have := hlt9 _ e.symm; omega) o).trans (g8_5 o)
    have HB9 := Lib.hid (grown_below HB8.out hG9 (fun g hg => by have := hlt9 g hg; omega))
    have Ha_9 := Lib.hid (RowAt.only (by omega) (fun g hg => by have := hlt9 g hg; omega) Ha_8.out hG9)
    have Hs_9 := Lib.hid (RowOwn.only (fun g hg => by have := hlt9 g hg; omega) Hs_8.out hG9)
    have Hx_9 := Lib.hid hO9
    have Hg_9 := Lib.hid (RowOwn.only (fun g hg => by have := hlt9 g hg; omega) Hg_8.out hG9)
    clear hO9 hG9 hlt9
    clear l8_0 g8_0
    clear l8_1 g8_1
    clear l8_2 g8_2
    clear l8_3 g8_3
    clear l8_4 g8_4
    clear l8_5 g8_5
    clear Ha_8
    clear Hs_8
    clear Hx_8
    clear Hg_8
    clear HB8
    go_wp2_with fail
    refine (eqBf_same _ (RowOwn.row (Hg_9.out.below (B := w9.heap.size) (by omega) (by repeat (first | (with_reducible exact Below.refl _ _) | (with_reducible refine Bal ?_ _) | (with_reducible refine Below.drew ?_) | (with_reducible refine below_drewN ?_ _) | (with_reducible refine Bset ?_ ?_ _; focus (first | (with_reducible exact Nat.le_refl _) | (simp; done) | (simp; omega) | omega)) | (with_reducible refine Bt ?_ (by assumption)) | (with_reducible refine Bp (g := g) ?_ (by assumption) (by assumption)))))) (RowOwn.row (Hs_9.out.below (B := w9.heap.size) (by omega) (by repeat (first | (with_reducible exact Below.refl _ _) | (with_reducible refine Bal ?_ _) | (with_reducible refine Below.drew ?_) | (with_reducible refine below_drewN ?_ _) | (with_reducible refine Bset ?_ ?_ _; focus (first | (with_reducible exact Nat.le_refl _) | (simp; done) | (simp; omega) | omega)) | (with_reducible refine Bt ?_ (by assumption)) | (with_reducible refine Bp (g := g) ?_ (by assumption) (by assumption)))))) (by first | exact Nat.le_refl _ | (simp; done) | (simp; omega) | omega) (by first | exact Nat.le_refl _ | (simp; done) | (simp; omega) | omega) hnn).mono ?_
    rintro e w10 ⟨rfl, hb10⟩
    have hw10 : Below w9.heap.size w9 w10 := by repeat (first | (with_reducible exact Below.refl _ _) | (with_reducible refine Bal ?_ _) | (with_reducible refine Below.drew ?_) | (with_reducible refine below_drewN ?_ _) | (with_reducible refine Bset ?_ ?_ _; focus (first | (with_reducible exact Nat.le_refl _) | (simp; done) | (simp; omega) | omega)) | (with_reducible refine Bt ?_ (by assumption)) | (with_reducible refine Bp (g := g) ?_ (by assumption) (by assumption)))
    have hz10 : w9.heap.size ≤ w10.heap.size := hw10.size
    obtain ⟨hc10, hf10⟩ := bcell hb10
    have hy10 := hb10.size
    try simp at hy10
    have l10_0 : w.heap.size < w10.heap.size := by omega
    have g10_0 : ∀ o : Nat, w10.cell? ⟨w.heap.size, o, none⟩ = ([.int .i64 y, .int .i64 d, .slice A n c] : List Value)[o]? := fun o => (hw10.cell (p := ⟨w.heap.size, o, none⟩) l9_0).trans (g9_0 o)
    have l10_1 : w2.heap.size < w10.heap.size := by omega
    have g10_1 : ∀ o : Nat, w10.cell? ⟨w2.heap.size, o, none⟩ = ([.int .i64 yy, .int .i64 dd, .slice A2 nn c2] : List Value)[o]? := fun o => (hw10.cell (p := ⟨w2.heap.size, o, none⟩) l9_1).trans (g9_1 o)
    have l10_2 : w2.heap.size + 1 < w10.heap.size := by omega
    have g10_2 : ∀ o : Nat, w10.cell? ⟨w2.heap.size + 1, o, none⟩ = ([.int .i64 a1, .int .i64 a2, .int .i64 a3, .int .i64 a4, .bool a5, .bool a6] : List Value)[o]? := fun o => (hw10.cell (p := ⟨w2.heap.size + 1, o, none⟩) l9_2).trans (g9_2 o)
    have l10_3 : w3.heap.size < w10.heap.size := by omega
    have g10_3 : ∀ o : Nat, w10.cell? ⟨w3.heap.size, o, none⟩ = ([.int .i64 y, .int .i64 d, .slice A3 n c3] : List Value)[o]? := fun o => (hw10.cell (p := ⟨w3.heap.size, o, none⟩) l9_3).trans (g9_3 o)
    have l10_4 : w4.heap.size < w10.heap.size := by omega
    have g10_4 : ∀ o : Nat, w10.cell? ⟨w4.heap.size, o, none⟩ = ([.int .i64 yy, .int .i64 dd, .slice A4 nn c4] : List Value)[o]? := fun o => (hw10.cell (p := ⟨w4.heap.size, o, none⟩) l9_4).trans (g9_4 o)
    have l10_5 : w4.heap.size + 1 < w10.heap.size := by omega
    have g10_5 : ∀ o : Nat, w10.cell? ⟨w4.heap.size + 1, o, none⟩ = ([.int .i64 a1, .int .i64 a2, .int .i64 a3, .int .i64 a4, .bool a5, .bool a6] : List Value)[o]? := fun o => (hw10.cell (p := ⟨w4.heap.size + 1, o, none⟩) l9_5).trans (g9_5 o)
    have HB10 := Lib.hid (HB9.out.trans (hw10.mono HB9.out.size))
    have Ha_10 := Lib.hid (Ha_9.out.below (by omega) hw10)
    have Hs_10 := Lib.hid (Hs_9.out.below (by omega) hw10)
    have Hg_10 := Lib.hid (Hg_9.out.below (by omega) hw10)
    clear hb10 hc10 hf10 hw10
    clear l9_0 g9_0
    clear l9_1 g9_1
    clear l9_2 g9_2
    clear l9_3 g9_3
    clear l9_4 g9_4
    clear l9_5 g9_5
    clear Ha_9
    clear Hs_9
    clear Hx_9
    clear Hg_9
    clear HB9
    go_wp2_with fail
    refine (eqPk_same _ _ _ _ _ _ _).mono ?_
    rintro e w11 ⟨rfl, hb11⟩
    have hw11 : Below w10.heap.size w10 w11 := by repeat (first | (with_reducible exact Below.refl _ _) | (with_reducible refine Bal ?_ _) | (with_reducible refine Below.drew ?_) | (with_reducible refine below_drewN ?_ _) | (with_reducible refine Bset ?_ ?_ _; focus (first | (with_reducible exact Nat.le_refl _) | (simp; done) | (simp; omega) | omega)) | (with_reducible refine Bt ?_ (by assumption)) | (with_reducible refine Bp (g := g) ?_ (by assumption) (by assumption)))
    have hz11 : w10.heap.size ≤ w11.heap.size := hw11.size
    obtain ⟨hc11, hf11⟩ := bcell hb11
    have hy11 := hb11.size
    try simp at hy11
    have l11_0 : w.heap.size < w11.heap.size := by omega
    have g11_0 : ∀ o : Nat, w11.cell? ⟨w.heap.size, o, none⟩ = ([.int .i64 y, .int .i64 d, .slice A n c] : List Value)[o]? := fun o => (hw11.cell (p := ⟨w.heap.size, o, none⟩) l10_0).trans (g10_0 o)
    have l11_1 : w2.heap.size < w11.heap.size := by omega
    have g11_1 : ∀ o : Nat, w11.cell? ⟨w2.heap.size, o, none⟩ = ([.int .i64 yy, .int .i64 dd, .slice A2 nn c2] : List Value)[o]? := fun o => (hw11.cell (p := ⟨w2.heap.size, o, none⟩) l10_1).trans (g10_1 o)
    have l11_2 : w2.heap.size + 1 < w11.heap.size := by omega
    have g11_2 : ∀ o : Nat, w11.cell? ⟨w2.heap.size + 1, o, none⟩ = ([.int .i64 a1, .int .i64 a2, .int .i64 a3, .int .i64 a4, .bool a5, .bool a6] : List Value)[o]? := fun o => (hw11.cell (p := ⟨w2.heap.size + 1, o, none⟩) l10_2).trans (g10_2 o)
    have l11_3 : w3.heap.size < w11.heap.size := by omega
    have g11_3 : ∀ o : Nat, w11.cell? ⟨w3.heap.size, o, none⟩ = ([.int .i64 y, .int .i64 d, .slice A3 n c3] : List Value)[o]? := fun o => (hw11.cell (p := ⟨w3.heap.size, o, none⟩) l10_3).trans (g10_3 o)
    have l11_4 : w4.heap.size < w11.heap.size := by omega
    have g11_4 : ∀ o : Nat, w11.cell? ⟨w4.heap.size, o, none⟩ = ([.int .i64 yy, .int .i64 dd, .slice A4 nn c4] : List Value)[o]? := fun o => (hw11.cell (p := ⟨w4.heap.size, o, none⟩) l10_4).trans (g10_4 o)
    have l11_5 : w4.heap.size + 1 < w11.heap.size := by omega
    have g11_5 : ∀ o : Nat, w11.cell? ⟨w4.heap.size + 1, o, none⟩ = ([.int .i64 a1, .int .i64 a2, .int .i64 a3, .int .i64 a4, .bool a5, .bool a6] : List Value)[o]? := fun o => (hw11.cell (p := ⟨w4.heap.size + 1, o, none⟩) l10_5).trans (g10_5 o)
    have HB11 := Lib.hid (HB10.out.trans (hw11.mono HB10.out.size))
    have Ha_11 := Lib.hid (Ha_10.out.below (by omega) hw11)
    have Hs_11 := Lib.hid (Hs_10.out.below (by omega) hw11)
    have Hg_11 := Lib.hid (Hg_10.out.below (by omega) hw11)
    clear hb11 hc11 hf11 hw11
    clear l10_0 g10_0
    clear l10_1 g10_1
    clear l10_2 g10_2
    clear l10_3 g10_3
    clear l10_4 g10_4
    clear l10_5 g10_5
    clear Ha_10
    clear Hs_10
    clear Hg_10
    clear HB10
    go_wp2_with fail
    refine (markBf_any _ 1 Hg_11.out (by omega) hnn (by omega)).mono ?_
    rintro e w12 ⟨hO12, rfl, hG12⟩
    have hz12 : w11.heap.size ≤ w12.heap.size := hG12.size
    have hlt12 : ∀ g, (Value.slice A4 nn c4).ownBlock = some g → L4 ≤ g ∧ g < w4.heap.size := fun g hg => ⟨(Hg_11.out.1.lt g hg).1, Hg_11.out.2 g hg⟩
    have l12_0 : w.heap.size < w12.heap.size := by omega
    have g12_0 : ∀ o : Nat, w12.cell? ⟨w.heap.size, o, none⟩ = ([.int .i64 y, .int .i64 d, .slice A n c] : List Value)[o]? := fun o => (grown_cell hG12 l11_0 (fun e => by have := hlt12 _ e.symm; omega) o).trans (g11_0 o)
    have l12_1 : w2.heap.size < w12.heap.size := by omega
    have g12_1 : ∀ o : Nat, w12.cell? ⟨w2.heap.size, o, none⟩ = ([.int .i64 yy, .int .i64 dd, .slice A2 nn c2] : List Value)[o]? := fun o => (grown_cell hG12 l11_1 (fun e => by have := hlt12 _ e.symm; omega) o).trans (g11_1 o)
    have l12_2 : w2.heap.size + 1 < w12.heap.size := by omega
    have g12_2 : ∀ o : Nat, w12.cell? ⟨w2.heap.size + 1, o, none⟩ = ([.int .i64 a1, .int .i64 a2, .int .i64 a3, .int .i64 a4, .bool a5, .bool a6] : List Value)[o]? := fun o => (grown_cell hG12 l11_2 (fun e => by have := hlt12 _ e.symm; omega) o).trans (g11_2 o)
    have l12_3 : w3.heap.size < w12.heap.size := by omega
    have g12_3 : ∀ o : Nat, w12.cell? ⟨w3.heap.size, o, none⟩ = ([.int .i64 y, .int .i64 d, .slice A3 n c3] : List Value)[o]? := fun o => (grown_cell hG12 l11_3 (fun e => by have := hlt12 _ e.symm; omega) o).trans (g11_3 o)
    have l12_4 : w4.heap.size < w12.heap.size := by omega
    have g12_4 : ∀ o : Nat, w12.cell? ⟨w4.heap.size, o, none⟩ = ([.int .i64 yy, .int .i64 dd, .slice A4 nn c4] : List Value)[o]? := fun o => (grown_cell hG12 l11_4 (fun e => by have := hlt12 _ e.symm; omega) o).trans (g11_4 o)
    have l12_5 : w4.heap.size + 1 < w12.heap.size := by omega
    have g12_5 : ∀ o : Nat, w12.cell? ⟨w4.heap.size + 1, o, none⟩ = ([.int .i64 a1, .int .i64 a2, .int .i64 a3, .int .i64 a4, .bool a5, .bool a6] : List Value)[o]? := fun o => (grown_cell hG12 l11_5 (fun e => by have := hlt12 _ e.symm; omega) o).trans (g11_5 o)
    have HB12 := Lib.hid (grown_below HB11.out hG12 (fun g hg => by have := hlt12 g hg; omega))
    have Ha_12 := Lib.hid (RowAt.only (by omega) (fun g hg => by have := hlt12 g hg; omega) Ha_11.out hG12)
    have Hs_12 := Lib.hid (RowOwn.only (fun g hg => by have := hlt12 g hg; omega) Hs_11.out hG12)
    have Hg_12 := Lib.hid hO12
    clear hO12 hG12 hlt12
    clear l11_0 g11_0
    clear l11_1 g11_1
    clear l11_2 g11_2
    clear l11_3 g11_3
    clear l11_4 g11_4
    clear l11_5 g11_5
    clear Ha_11
    clear Hs_11
    clear Hg_11
    clear HB11
    go_wp2_with fail
    refine (heldBf_any _ 1 (RowOwn.row (Hg_12.out.below (B := w12.heap.size) (by omega) (by repeat (first | (with_reducible exact Below.refl _ _) | (with_reducible refine Bal ?_ _) | (with_reducible refine Below.drew ?_) | (with_reducible refine below_drewN ?_ _) | (with_reducible refine Bset ?_ ?_ _; focus (first | (with_reducible exact Nat.le_refl _) | (simp; done) | (simp; omega) | omega)) | (with_reducible refine Bt ?_ (by assumption)) | (with_reducible refine Bp (g := g) ?_ (by assumption) (by assumption)))))) (by first | exact Nat.le_refl _ | (simp; done) | (simp; omega) | omega) hnn (by omega)).mono ?_
    rintro e w13 ⟨rfl, hb13⟩
    have hw13 : Below w12.heap.size w12 w13 := by repeat (first | (with_reducible exact Below.refl _ _) | (with_reducible refine Bal ?_ _) | (with_reducible refine Below.drew ?_) | (with_reducible refine below_drewN ?_ _) | (with_reducible refine Bset ?_ ?_ _; focus (first | (with_reducible exact Nat.le_refl _) | (simp; done) | (simp; omega) | omega)) | (with_reducible refine Bt ?_ (by assumption)) | (with_reducible refine Bp (g := g) ?_ (by assumption) (by assumption)))
    have hz13 : w12.heap.size ≤ w13.heap.size := hw13.size
    obtain ⟨hc13, hf13⟩ := bcell hb13
    have hy13 := hb13.size
    try simp at hy13
    have l13_0 : w.heap.size < w13.heap.size := by omega
    have g13_0 : ∀ o : Nat, w13.cell? ⟨w.heap.size, o, none⟩ = ([.int .i64 y, .int .i64 d, .slice A n c] : List Value)[o]? := fun o => (hw13.cell (p := ⟨w.heap.size, o, none⟩) l12_0).trans (g12_0 o)
    have l13_1 : w2.heap.size < w13.heap.size := by omega
    have g13_1 : ∀ o : Nat, w13.cell? ⟨w2.heap.size, o, none⟩ = ([.int .i64 yy, .int .i64 dd, .slice A2 nn c2] : List Value)[o]? := fun o => (hw13.cell (p := ⟨w2.heap.size, o, none⟩) l12_1).trans (g12_1 o)
    have l13_2 : w2.heap.size + 1 < w13.heap.size := by omega
    have g13_2 : ∀ o : Nat, w13.cell? ⟨w2.heap.size + 1, o, none⟩ = ([.int .i64 a1, .int .i64 a2, .int .i64 a3, .int .i64 a4, .bool a5, .bool a6] : List Value)[o]? := fun o => (hw13.cell (p := ⟨w2.heap.size + 1, o, none⟩) l12_2).trans (g12_2 o)
    have l13_3 : w3.heap.size < w13.heap.size := by omega
    have g13_3 : ∀ o : Nat, w13.cell? ⟨w3.heap.size, o, none⟩ = ([.int .i64 y, .int .i64 d, .slice A3 n c3] : List Value)[o]? := fun o => (hw13.cell (p := ⟨w3.heap.size, o, none⟩) l12_3).trans (g12_3 o)
    have l13_4 : w4.heap.size < w13.heap.size := by omega
    have g13_4 : ∀ o : Nat, w13.cell? ⟨w4.heap.size, o, none⟩ = ([.int .i64 yy, .int .i64 dd, .slice A4 nn c4] : List Value)[o]? := fun o => (hw13.cell (p := ⟨w4.heap.size, o, none⟩) l12_4).trans (g12_4 o)
    have l13_5 : w4.heap.size + 1 < w13.heap.size := by omega
    have g13_5 : ∀ o : Nat, w13.cell? ⟨w4.heap.size + 1, o, none⟩ = ([.int .i64 a1, .int .i64 a2, .int .i64 a3, .int .i64 a4, .bool a5, .bool a6] : List Value)[o]? := fun o => (hw13.cell (p := ⟨w4.heap.size + 1, o, none⟩) l12_5).trans (g12_5 o)
    have HB13 := Lib.hid (HB12.out.trans (hw13.mono HB12.out.size))
    have Ha_13 := Lib.hid (Ha_12.out.below (by omega) hw13)
    have Hs_13 := Lib.hid (Hs_12.out.below (by omega) hw13)
    have Hg_13 := Lib.hid (Hg_12.out.below (by omega) hw13)
    clear hb13 hc13 hf13 hw13
    clear l12_0 g12_0
    clear l12_1 g12_1
    clear l12_2 g12_2
    clear l12_3 g12_3
    clear l12_4 g12_4
    clear l12_5 g12_5
    clear Ha_12
    clear Hs_12
    clear Hg_12
    clear HB12
    go_wp2_with fail
    refine (toBf_any _ 0 w.heap.size A n c y d q (Ha_13.out.below (B := w13.heap.size) (by omega) (by repeat (first | (with_reducible exact Below.refl _ _) | (with_reducible refine Bal ?_ _) | (with_reducible refine Below.drew ?_) | (with_reducible refine below_drewN ?_ _) | (with_reducible refine Bset ?_ ?_ _; focus (first | (with_reducible exact Nat.le_refl _) | (simp; done) | (simp; omega) | omega)) | (with_reducible refine Bt ?_ (by assumption)) | (with_reducible refine Bp (g := g) ?_ (by assumption) (by assumption))))) (by first | exact Nat.le_refl _ | (simp; done) | (simp; omega) | omega) hn).mono ?_
    rintro e w14 ⟨A14, c14, hO, rfl, hb14⟩
    obtain ⟨L14, hL14, hO14⟩ : ∃ L : Nat, L = _ ∧ RowOwn 54 w14 L w14.heap.size A14 n c14 7 (HdF q) := ⟨_, rfl, hO⟩
    try simp at hL14
    clear hO
    have hw14 : Below w13.heap.size w13 w14 := by repeat (first | (with_reducible exact Below.refl _ _) | (with_reducible refine Bal ?_ _) | (with_reducible refine Below.drew ?_) | (with_reducible refine below_drewN ?_ _) | (with_reducible refine Bset ?_ ?_ _; focus (first | (with_reducible exact Nat.le_refl _) | (simp; done) | (simp; omega) | omega)) | (with_reducible refine Bt ?_ (by assumption)) | (with_reducible refine Bp (g := g) ?_ (by assumption) (by assumption)))
    have hz14 : w13.heap.size ≤ w14.heap.size := hw14.size
    obtain ⟨hc14, hf14⟩ := bcell hb14
    have hy14 := hb14.size
    try simp at hy14
    have l14_0 : w.heap.size < w14.heap.size := by omega
    have g14_0 : ∀ o : Nat, w14.cell? ⟨w.heap.size, o, none⟩ = ([.int .i64 y, .int .i64 d, .slice A n c] : List Value)[o]? := fun o => (hw14.cell (p := ⟨w.heap.size, o, none⟩) l13_0).trans (g13_0 o)
    have l14_1 : w2.heap.size < w14.heap.size := by omega
    have g14_1 : ∀ o : Nat, w14.cell? ⟨w2.heap.size, o, none⟩ = ([.int .i64 yy, .int .i64 dd, .slice A2 nn c2] : List Value)[o]? := fun o => (hw14.cell (p := ⟨w2.heap.size, o, none⟩) l13_1).trans (g13_1 o)
    have l14_2 : w2.heap.size + 1 < w14.heap.size := by omega
    have g14_2 : ∀ o : Nat, w14.cell? ⟨w2.heap.size + 1, o, none⟩ = ([.int .i64 a1, .int .i64 a2, .int .i64 a3, .int .i64 a4, .bool a5, .bool a6] : List Value)[o]? := fun o => (hw14.cell (p := ⟨w2.heap.size + 1, o, none⟩) l13_2).trans (g13_2 o)
    have l14_3 : w3.heap.size < w14.heap.size := by omega
    have g14_3 : ∀ o : Nat, w14.cell? ⟨w3.heap.size, o, none⟩ = ([.int .i64 y, .int .i64 d, .slice A3 n c3] : List Value)[o]? := fun o => (hw14.cell (p := ⟨w3.heap.size, o, none⟩) l13_3).trans (g13_3 o)
    have l14_4 : w4.heap.size < w14.heap.size := by omega
    have g14_4 : ∀ o : Nat, w14.cell? ⟨w4.heap.size, o, none⟩ = ([.int .i64 yy, .int .i64 dd, .slice A4 nn c4] : List Value)[o]? := fun o => (hw14.cell (p := ⟨w4.heap.size, o, none⟩) l13_4).trans (g13_4 o)
    have l14_5 : w4.heap.size + 1 < w14.heap.size := by omega
    have g14_5 : ∀ o : Nat, w14.cell? ⟨w4.heap.size + 1, o, none⟩ = ([.int .i64 a1, .int .i64 a2, .int .i64 a3, .int .i64 a4, .bool a5, .bool a6] : List Value)[o]? := fun o => (hw14.cell (p := ⟨w4.heap.size + 1, o, none⟩) l13_5).trans (g13_5 o)
    have HB14 := Lib.hid (HB13.out.trans (hw14.mono HB13.out.size))
    have Ha_14 := Lib.hid (Ha_13.out.below (by omega) hw14)
    have Hs_14 := Lib.hid (Hs_13.out.below (by omega) hw14)
    have Hg_14 := Lib.hid (Hg_13.out.below (by omega) hw14)
    clear hb14 hc14 hf14 hw14
    clear l13_0 g13_0
    clear l13_1 g13_1
    clear l13_2 g13_2
    clear l13_3 g13_3
    clear l13_4 g13_4
    clear l13_5 g13_5
    clear Ha_13
    clear Hs_13
    clear Hg_13
    clear HB13
    have M14 := Nat.le_of_eq hL14.symm
    have N14 : L14 ≤ w14.heap.size := by omega
    clear hL14
    have Hz_14 := Lib.hid hO14
    clear hO14
    go_wp2_with fail
    refine (HI.out _ _ _ _ _ (RowOwn.row (Hz_14.out.below (B := w14.heap.size) (by omega) (by repeat (first | (with_reducible exact Below.refl _ _) | (with_reducible refine Bal ?_ _) | (with_reducible refine Below.drew ?_) | (with_reducible refine below_drewN ?_ _) | (with_reducible refine Bset ?_ ?_ _; focus (first | (with_reducible exact Nat.le_refl _) | (simp; done) | (simp; omega) | omega)) | (with_reducible refine Bt ?_ (by assumption)) | (with_reducible refine Bp (g := g) ?_ (by assumption) (by assumption)))))) (by first | exact Nat.le_refl _ | (simp; done) | (simp; omega) | omega)).mono ?_
    rintro e w15 ⟨A15, c15, hO, rfl, hb15⟩
    obtain ⟨L15, hL15, hO15⟩ : ∃ L : Nat, L = _ ∧ RowOwn 54 w15 L w15.heap.size A15 nn c15 7 (HdF qq) := ⟨_, rfl, hO⟩
    try simp at hL15
    clear hO
    have hw15 : Below w14.heap.size w14 w15 := by repeat (first | (with_reducible exact Below.refl _ _) | (with_reducible refine Bal ?_ _) | (with_reducible refine Below.drew ?_) | (with_reducible refine below_drewN ?_ _) | (with_reducible refine Bset ?_ ?_ _; focus (first | (with_reducible exact Nat.le_refl _) | (simp; done) | (simp; omega) | omega)) | (with_reducible refine Bt ?_ (by assumption)) | (with_reducible refine Bp (g := g) ?_ (by assumption) (by assumption)))
    have hz15 : w14.heap.size ≤ w15.heap.size := hw15.size
    obtain ⟨hc15, hf15⟩ := bcell hb15
    have hy15 := hb15.size
    try simp at hy15
    have l15_0 : w.heap.size < w15.heap.size := by omega
    have g15_0 : ∀ o : Nat, w15.cell? ⟨w.heap.size, o, none⟩ = ([.int .i64 y, .int .i64 d, .slice A n c] : List Value)[o]? := fun o => (hw15.cell (p := ⟨w.heap.size, o, none⟩) l14_0).trans (g14_0 o)
    have l15_1 : w2.heap.size < w15.heap.size := by omega
    have g15_1 : ∀ o : Nat, w15.cell? ⟨w2.heap.size, o, none⟩ = ([.int .i64 yy, .int .i64 dd, .slice A2 nn c2] : List Value)[o]? := fun o => (hw15.cell (p := ⟨w2.heap.size, o, none⟩) l14_1).trans (g14_1 o)
    have l15_2 : w2.heap.size + 1 < w15.heap.size := by omega
    have g15_2 : ∀ o : Nat, w15.cell? ⟨w2.heap.size + 1, o, none⟩ = ([.int .i64 a1, .int .i64 a2, .int .i64 a3, .int .i64 a4, .bool a5, .bool a6] : List Value)[o]? := fun o => (hw15.cell (p := ⟨w2.heap.size + 1, o, none⟩) l14_2).trans (g14_2 o)
    have l15_3 : w3.heap.size < w15.heap.size := by omega
    have g15_3 : ∀ o : Nat, w15.cell? ⟨w3.heap.size, o, none⟩ = ([.int .i64 y, .int .i64 d, .slice A3 n c3] : List Value)[o]? := fun o => (hw15.cell (p := ⟨w3.heap.size, o, none⟩) l14_3).trans (g14_3 o)
    have l15_4 : w4.heap.size < w15.heap.size := by omega
    have g15_4 : ∀ o : Nat, w15.cell? ⟨w4.heap.size, o, none⟩ = ([.int .i64 yy, .int .i64 dd, .slice A4 nn c4] : List Value)[o]? := fun o => (hw15.cell (p := ⟨w4.heap.size, o, none⟩) l14_4).trans (g14_4 o)
    have l15_5 : w4.heap.size + 1 < w15.heap.size := by omega
    have g15_5 : ∀ o : Nat, w15.cell? ⟨w4.heap.size + 1, o, none⟩ = ([.int .i64 a1, .int .i64 a2, .int .i64 a3, .int .i64 a4, .bool a5, .bool a6] : List Value)[o]? := fun o => (hw15.cell (p := ⟨w4.heap.size + 1, o, none⟩) l14_5).trans (g14_5 o)
    have HB15 := Lib.hid (HB14.out.trans (hw15.mono HB14.out.size))
    have Ha_15 := Lib.hid (Ha_14.out.below (by omega) hw15)
    have Hs_15 := Lib.hid (Hs_14.out.below (by omega) hw15)
    have Hg_15 := Lib.hid (Hg_14.out.below (by omega) hw15)
    have Hz_15 := Lib.hid (Hz_14.out.below (by omega) hw15)
    clear hb15 hc15 hf15 hw15
    clear l14_0 g14_0
    clear l14_1 g14_1
    clear l14_2 g14_2
    clear l14_3 g14_3
    clear l14_4 g14_4
    clear l14_5 g14_5
    clear Ha_14
    clear Hs_14
    clear Hg_14
    clear Hz_14
    clear HB14
    have M15 := Nat.le_of_eq hL15.symm
    have N15 : L15 ≤ w15.heap.size := by omega
    clear hL15
    have Hh_15 := Lib.hid hO15
    clear hO15
    go_wp2_with fail
    refine (eqBf_same _ (RowOwn.row (Hh_15.out.below (B := w15.heap.size) (by omega) (by repeat (first | (with_reducible exact Below.refl _ _) | (with_reducible refine Bal ?_ _) | (with_reducible refine Below.drew ?_) | (with_reducible refine below_drewN ?_ _) | (with_reducible refine Bset ?_ ?_ _; focus (first | (with_reducible exact Nat.le_refl _) | (simp; done) | (simp; omega) | omega)) | (with_reducible refine Bt ?_ (by assumption)) | (with_reducible refine Bp (g := g) ?_ (by assumption) (by assumption)))))) (RowOwn.row (Hs_15.out.below (B := w15.heap.size) (by omega) (by repeat (first | (with_reducible exact Below.refl _ _) | (with_reducible refine Bal ?_ _) | (with_reducible refine Below.drew ?_) | (with_reducible refine below_drewN ?_ _) | (with_reducible refine Bset ?_ ?_ _; focus (first | (with_reducible exact Nat.le_refl _) | (simp; done) | (simp; omega) | omega)) | (with_reducible refine Bt ?_ (by assumption)) | (with_reducible refine Bp (g := g) ?_ (by assumption) (by assumption)))))) (by first | exact Nat.le_refl _ | (simp; done) | (simp; omega) | omega) (by first | exact Nat.le_refl _ | (simp; done) | (simp; omega) | omega) hnn).mono ?_
    rintro e w16 ⟨rfl, hb16⟩
    have hw16 : Below w15.heap.size w15 w16 := by repeat (first | (with_reducible exact Below.refl _ _) | (with_reducible refine Bal ?_ _) | (with_reducible refine Below.drew ?_) | (with_reducible refine below_drewN ?_ _) | (with_reducible refine Bset ?_ ?_ _; focus (first | (with_reducible exact Nat.le_refl _) | (simp; done) | (simp; omega) | omega)) | (with_reducible refine Bt ?_ (by assumption)) | (with_reducible refine Bp (g := g) ?_ (by assumption) (by assumption)))
    have hz16 : w15.heap.size ≤ w16.heap.size := hw16.size
    obtain ⟨hc16, hf16⟩ := bcell hb16
    have hy16 := hb16.size
    try simp at hy16
    have l16_0 : w.heap.size < w16.heap.size := by omega
    have g16_0 : ∀ o : Nat, w16.cell? ⟨w.heap.size, o, none⟩ = ([.int .i64 y, .int .i64 d, .slice A n c] : List Value)[o]? := fun o => (hw16.cell (p := ⟨w.heap.size, o, none⟩) l15_0).trans (g15_0 o)
    have l16_1 : w2.heap.size < w16.heap.size := by omega
    have g16_1 : ∀ o : Nat, w16.cell? ⟨w2.heap.size, o, none⟩ = ([.int .i64 yy, .int .i64 dd, .slice A2 nn c2] : List Value)[o]? := fun o => (hw16.cell (p := ⟨w2.heap.size, o, none⟩) l15_1).trans (g15_1 o)
    have l16_2 : w2.heap.size + 1 < w16.heap.size := by omega
    have g16_2 : ∀ o : Nat, w16.cell? ⟨w2.heap.size + 1, o, none⟩ = ([.int .i64 a1, .int .i64 a2, .int .i64 a3, .int .i64 a4, .bool a5, .bool a6] : List Value)[o]? := fun o => (hw16.cell (p := ⟨w2.heap.size + 1, o, none⟩) l15_2).trans (g15_2 o)
    have l16_3 : w3.heap.size < w16.heap.size := by omega
    have g16_3 : ∀ o : Nat, w16.cell? ⟨w3.heap.size, o, none⟩ = ([.int .i64 y, .int .i64 d, .slice A3 n c3] : List Value)[o]? := fun o => (hw16.cell (p := ⟨w3.heap.size, o, none⟩) l15_3).trans (g15_3 o)
    have l16_4 : w4.heap.size < w16.heap.size := by omega
    have g16_4 : ∀ o : Nat, w16.cell? ⟨w4.heap.size, o, none⟩ = ([.int .i64 yy, .int .i64 dd, .slice A4 nn c4] : List Value)[o]? := fun o => (hw16.cell (p := ⟨w4.heap.size, o, none⟩) l15_4).trans (g15_4 o)
    have l16_5 : w4.heap.size + 1 < w16.heap.size := by omega
    have g16_5 : ∀ o : Nat, w16.cell? ⟨w4.heap.size + 1, o, none⟩ = ([.int .i64 a1, .int .i64 a2, .int .i64 a3, .int .i64 a4, .bool a5, .bool a6] : List Value)[o]? := fun o => (hw16.cell (p := ⟨w4.heap.size + 1, o, none⟩) l15_5).trans (g15_5 o)
    have l16_6 : w15.heap.size < w16.heap.size := by omega
    have g16_6 : ∀ o : Nat, w16.cell? ⟨w15.heap.size, o, none⟩ = ([.int .i64 yy, .int .i64 dd, .slice A15 nn c15] : List Value)[o]? := fun o => (hc16 (w15.heap.size) o (by first | (simp; done) | (simp; omega) | omega)).trans (by go_simp; try rfl)
    have l16_7 : w15.heap.size + 1 < w16.heap.size := by omega
    have g16_7 : ∀ o : Nat, w16.cell? ⟨w15.heap.size + 1, o, none⟩ = ([.int .i64 a1, .int .i64 a2, .int .i64 a3, .int .i64 a4, .bool a5, .bool a6] : List Value)[o]? := fun o => (hc16 (w15.heap.size + 1) o (by first | (simp; done) | (simp; omega) | omega)).trans (by go_simp; try rfl)
    have HB16 := Lib.hid (HB15.out.trans (hw16.mono HB15.out.size))
    have Ha_16 := Lib.hid (Ha_15.out.below (by omega) hw16)
    have Hs_16 := Lib.hid (Hs_15.out.below (by omega) hw16)
    have Hg_16 := Lib.hid (Hg_15.out.below (by omega) hw16)
    have Hh_16 := Lib.hid (Hh_15.out.below (by omega) hw16)
    clear hb16 hc16 hf16 hw16
    clear l15_0 g15_0
    clear l15_1 g15_1
    clear l15_2 g15_2
    clear l15_3 g15_3
    clear l15_4 g15_4
    clear l15_5 g15_5
    clear Ha_15
    clear Hs_15
    clear Hg_15
    clear Hz_15
    clear Hh_15
    clear HB15
    go_wp2_with fail
    refine (eqPk_same _ _ _ _ _ _ _).mono ?_
    rintro e w17 ⟨rfl, hb17⟩
    have hw17 : Below w16.heap.size w16 w17 := by repeat (first | (with_reducible exact Below.refl _ _) | (with_reducible refine Bal ?_ _) | (with_reducible refine Below.drew ?_) | (with_reducible refine below_drewN ?_ _) | (with_reducible refine Bset ?_ ?_ _; focus (first | (with_reducible exact Nat.le_refl _) | (simp; done) | (simp; omega) | omega)) | (with_reducible refine Bt ?_ (by assumption)) | (with_reducible refine Bp (g := g) ?_ (by assumption) (by assumption)))
    have hz17 : w16.heap.size ≤ w17.heap.size := hw17.size
    obtain ⟨hc17, hf17⟩ := bcell hb17
    have hy17 := hb17.size
    try simp at hy17
    have l17_0 : w.heap.size < w17.heap.size := by omega
    have g17_0 : ∀ o : Nat, w17.cell? ⟨w.heap.size, o, none⟩ = ([.int .i64 y, .int .i64 d, .slice A n c] : List Value)[o]? := fun o => (hw17.cell (p := ⟨w.heap.size, o, none⟩) l16_0).trans (g16_0 o)
    have l17_1 : w2.heap.size < w17.heap.size := by omega
    have g17_1 : ∀ o : Nat, w17.cell? ⟨w2.heap.size, o, none⟩ = ([.int .i64 yy, .int .i64 dd, .slice A2 nn c2] : List Value)[o]? := fun o => (hw17.cell (p := ⟨w2.heap.size, o, none⟩) l16_1).trans (g16_1 o)
    have l17_2 : w2.heap.size + 1 < w17.heap.size := by omega
    have g17_2 : ∀ o : Nat, w17.cell? ⟨w2.heap.size + 1, o, none⟩ = ([.int .i64 a1, .int .i64 a2, .int .i64 a3, .int .i64 a4, .bool a5, .bool a6] : List Value)[o]? := fun o => (hw17.cell (p := ⟨w2.heap.size + 1, o, none⟩) l16_2).trans (g16_2 o)
    have l17_3 : w3.heap.size < w17.heap.size := by omega
    have g17_3 : ∀ o : Nat, w17.cell? ⟨w3.heap.size, o, none⟩ = ([.int .i64 y, .int .i64 d, .slice A3 n c3] : List Value)[o]? := fun o => (hw17.cell (p := ⟨w3.heap.size, o, none⟩) l16_3).trans (g16_3 o)
    have l17_4 : w4.heap.size < w17.heap.size := by omega
    have g17_4 : ∀ o : Nat, w17.cell? ⟨w4.heap.size, o, none⟩ = ([.int .i64 yy, .int .i64 dd, .slice A4 nn c4] : List Value)[o]? := fun o => (hw17.cell (p := ⟨w4.heap.size, o, none⟩) l16_4).trans (g16_4 o)
    have l17_5 : w4.heap.size + 1 < w17.heap.size := by omega
    have g17_5 : ∀ o : Nat, w17.cell? ⟨w4.heap.size + 1, o, none⟩ = ([.int .i64 a1, .int .i64 a2, .int .i64 a3, .int .i64 a4, .bool a5, .bool a6] : List Value)[o]? := fun o => (hw17.cell (p := ⟨w4.heap.size + 1, o, none⟩) l16_5).trans (g16_5 o)
    have l17_6 : w15.heap.size < w17.heap.size := by omega
    have g17_6 : ∀ o : Nat, w17.cell? ⟨w15.heap.size, o, none⟩ = ([.int .i64 yy, .int .i64 dd, .slice A15 nn c15] : List Value)[o]? := fun o => (hw17.cell (p := ⟨w15.heap.size, o, none⟩) l16_6).trans (g16_6 o)
    have l17_7 : w15.heap.size + 1 < w17.heap.size := by omega
    have g17_7 : ∀ o : Nat, w17.cell? ⟨w15.heap.size + 1, o, none⟩ = ([.int .i64 a1, .int .i64 a2, .int .i64 a3, .int .i64 a4, .bool a5, .bool a6] : List Value)[o]? := fun o => (hw17.cell (p := ⟨w15.heap.size + 1, o, none⟩) l16_7).trans (g16_7 o)
    have HB17 := Lib.hid (HB16.out.trans (hw17.mono HB16.out.size))
    have Ha_17 := Lib.hid (Ha_16.out.below (by omega) hw17)
    have Hs_17 := Lib.hid (Hs_16.out.below (by omega) hw17)
    have Hg_17 := Lib.hid (Hg_16.out.below (by omega) hw17)
    have Hh_17 := Lib.hid (Hh_16.out.below (by omega) hw17)
    clear hb17 hc17 hf17 hw17
    clear l16_0 g16_0
    clear l16_1 g16_1
    clear l16_2 g16_2
    clear l16_3 g16_3
    clear l16_4 g16_4
    clear l16_5 g16_5
    clear l16_6 g16_6
    clear l16_7 g16_7
    clear Ha_16
    clear Hs_16
    clear Hg_16
    clear Hh_16
    clear HB16
    go_wp2_with fail
    refine (heldBf_any _ 1 (RowOwn.row (Hg_17.out.below (B := w17.heap.size) (by omega) (by repeat (first | (with_reducible exact Below.refl _ _) | (with_reducible refine Bal ?_ _) | (with_reducible refine Below.drew ?_) | (with_reducible refine below_drewN ?_ _) | (with_reducible refine Bset ?_ ?_ _; focus (first | (with_reducible exact Nat.le_refl _) | (simp; done) | (simp; omega) | omega)) | (with_reducible refine Bt ?_ (by assumption)) | (with_reducible refine Bp (g := g) ?_ (by assumption) (by assumption)))))) (by first | exact Nat.le_refl _ | (simp; done) | (simp; omega) | omega) hnn (by omega)).mono ?_
    rintro e w18 ⟨rfl, hb18⟩
    have hw18 : Below w17.heap.size w17 w18 := by repeat (first | (with_reducible exact Below.refl _ _) | (with_reducible refine Bal ?_ _) | (with_reducible refine Below.drew ?_) | (with_reducible refine below_drewN ?_ _) | (with_reducible refine Bset ?_ ?_ _; focus (first | (with_reducible exact Nat.le_refl _) | (simp; done) | (simp; omega) | omega)) | (with_reducible refine Bt ?_ (by assumption)) | (with_reducible refine Bp (g := g) ?_ (by assumption) (by assumption)))
    have HB18 := Lib.hid (HB17.out.trans (hw18.mono HB17.out.size))
    clear hb18 hw18
    go_wp2_with fail
    go_ret
    exact ⟨rfl, HB18.out⟩

end Go.Proofs.Ytegdogamenoaiaa
namespace Go.Proofs.Ytegdogamenoaiaa.fnExactBufferTake
open Go.ChangeShapes Go.WideShapes Go.ChangeAt Go.RowKit
set_option linter.unusedVariables false

theorem own : ownKnob Try.prog.godebug = none := by kernel_rfl
theorem laidOut : laidOutB Try.prog = true := by kernel_rfl

set_option maxRecDepth 100000 in
theorem lifted (os : Os) (started : os.Started) (H : Type) (enc : TypeId × Value → H) :
    ReturnsInHanded {} Try.checked os 3 .any (Rows.fnExactBufferTakeSpec.pre6 enc Try.prog Try.f3 Rows.fnExactBufferTakeRow.domain false) (Rows.fnExactBufferTakeSpec.post enc Try.prog Try.f3 false true false false) := by
  refine returnsInHanded_of_change (C := Try.checked) own started (by kernel_rfl) Try.func3
    (ChangeSpec.witness6 (enc := enc) (C := Try.checked) false ⟨#[], #[.agg #[.int .i64 0, .int .i64 0, .slice none 0 0], .int .i64 0], []⟩ 8 (by kernel_rfl) (by kernel_rfl) (by kernel_rfl) (by kernel_rfl)) ?_
  intro W base args ds gs before hval0 hW hcnd _
  have hval : ∀ (j : Nat) t v, Try.f3.params[j]? = some t → args[j]? = some v → Value.okWide Try.prog W .any base t v := hval0
  have hW' := hW
  obtain ⟨p, q, hA0, hV, rfl, hfz, hnd⟩ := hW
  have hA : DataW.TrodAll enc Try.prog W 0 (fun _ => true) true Try.f3.params.toList args.toList ds p := hA0
  rw [Try.params3] at hA hval
  obtain ⟨v0, vs0, d0, ds0, p0, q0, hargs, rfl, rfl, h0, r0⟩ := trodAll_cons hA
  obtain ⟨v1, vs1, d1, ds1, p1, q1, rfl, rfl, rfl, h1, r1⟩ := trodAll_cons r0
  obtain ⟨rfl, rfl, rfl⟩ := trodAll_nil r1
  obtain rfl : args = #[v0, v1] := by cases args; simp_all
  obtain ⟨rfl, rfl⟩ := trodVars_none hV
  have k0 := h0
  have lt0 : ∀ x ∈ p0, x.block < W.heap.size := by obtain ⟨m, hm⟩ := k0; exact DataW.trod_lt m _ _ _ hm
  obtain ⟨by0, be0, a0, n0, c0, bq0, rfl, w0, l0⟩ := open_buffer (hval 0 24 v0 rfl rfl) h0
  obtain ⟨a1, rfl, rfl, rfl, w1⟩ := open_int Try.underlying3 (hval 1 3 v1 rfl rfl) h1
  clear hA0 hval0
  refine (walk_FnExactBufferTake by0 be0 a0 n0 c0 bq0 a1 W w0 l0 w1).mono fun e W' ⟨he, bel⟩ => ?_
  subst he
  exact ⟨_, rfl, _, _, _, [], _, [], hW', trodAll_mk1 (shut_bool Try.underlying4 _), (trodAll_cons_mk (Below.trod laidOut (by kernel_rfl) (of_decide_eq_true (by kernel_rfl)) k0 bel lt0) (trodAll_cons_mk (shut_int Try.underlying3 w1) trodAll_mk0)), rfl, bel.frame _, fun h => by cases h⟩

theorem over : Rows.fnExactBufferTakeRow.holds Try.pinned (OpenSpec.ofChange Rows.fnExactBufferTakeSpec) :=
  OpenClaim.holds_of_wide 3 Try.f3 rfl rfl rfl rfl rfl rfl rfl ⟨rfl, rfl, rfl, rfl, rfl⟩ rfl rfl rfl rfl rfl (by kernel_rfl) Try.func3 (by kernel_rfl)
    (of_decide_eq_true (by kernel_rfl)) (by unfold Func.isWrapper; first | (rw [if_pos (by decide +kernel)]; kernel_rfl) | (rw [if_neg (by decide +kernel)]; exact ⟨rfl, rfl⟩))
    (fun os started H enc _ => lifted os started H enc)

/-- The statement. -/
theorem proved : Rows.FnExactBufferTakeSaid := over
#print axioms proved
end Go.Proofs.Ytegdogamenoaiaa.fnExactBufferTake
