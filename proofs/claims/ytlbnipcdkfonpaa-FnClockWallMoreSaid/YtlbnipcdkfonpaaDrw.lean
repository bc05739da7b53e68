/- The draws of the laws on serial numbers and clocks. -/
import Derived.Test.YtlbnipcdkfonpaaDraw
namespace Go.Proofs.Ytlbnipcdkfonpaa
open Go Go.RowKit
set_option linter.unusedVariables false
set_option linter.unusedSimpArgs false

theorem w64_in (x : Int) : In64 (wrap64 x) := by unfold In64 wrap64; omega
/-- What a draw leaves, whatever the numbers. -/
def Drawn1 (g k : Nat) (w : World) (e : Ending) (w' : World) : Prop := ∃ a : Int, e = .returned (.int .i64 a) ∧ RdLe w' g k ∧ Past g w.heap.size w w'
def Drawn2 (g k : Nat) (w : World) (e : Ending) (w' : World) : Prop := ∃ a b : Int, e = .returned (.tuple #[.int .i64 a, .int .i64 b]) ∧ RdLe w' g k ∧ Past g w.heap.size w w'
def Drawn3 (g k : Nat) (w : World) (e : Ending) (w' : World) : Prop := ∃ a b c : Int, e = .returned (.tuple #[.int .i64 a, .int .i64 b, .int .i64 c]) ∧ RdLe w' g k ∧ Past g w.heap.size w w'
def DrawnC (g k : Nat) (w : World) (e : Ending) (w' : World) : Prop := ∃ a b c : Int, e = .returned (.agg #[.int .i64 a, .int .i64 b, .int .i64 c]) ∧ RdLe w' g k ∧ Past g w.heap.size w w'
/-- What a draw of arguments leaves. -/
def Made2 (w : World) (e : Ending) (w' : World) : Prop := ∃ a b : Int, In64 b ∧ e = .returned (.tuple #[.int .i64 a, .int .i64 b]) ∧ Below w.heap.size w w'
def Made2' (w : World) (e : Ending) (w' : World) : Prop := ∃ a b : Int, e = .returned (.tuple #[.int .i64 a, .int .i64 b]) ∧ Below w.heap.size w w'
def Made3 (w : World) (e : Ending) (w' : World) : Prop := ∃ a b c : Int, e = .returned (.tuple #[.int .i64 a, .int .i64 b, .int .i64 c]) ∧ Below w.heap.size w w'
def Made4 (w : World) (e : Ending) (w' : World) : Prop := ∃ a b c d : Int, e = .returned (.tuple #[.int .i64 a, .int .i64 b, .int .i64 c, .int .i64 d]) ∧ Below w.heap.size w w'
def MadeC (w : World) (e : Ending) (w' : World) : Prop := ∃ a b c d : Int, e = .returned (.tuple #[.agg #[.int .i64 a, .int .i64 b, .int .i64 c], .int .i64 d]) ∧ Below w.heap.size w w'

set_option maxHeartbeats 2000000 in
theorem serial_draw (w : World) (g k : Nat) (h : RdLe w g k) (hk : k ≤ 999990) :
    Calls Try.prog 43 #[.pointer (some ⟨g, 0, none⟩)] w (Drawn1 g (k + 4) w) := by
  have hg := h.lt
  go_enter Try.func43, Try.ntmps43
  go_wp2_with fail
  refine (pk _ g (k) _ (by repeat (first | assumption | (with_reducible refine RdLe.drew ?_) | (with_reducible refine RdLe.drewN ?_ _) | (with_reducible refine RdLe.alloc ?_ _) | (with_reducible refine RdLe.setC ?_ ?_ _; (first | (simp; done) | (simp; omega) | omega)))) (by omega) (by omega) (by omega)).mono ?_
  rintro e w1 ⟨⟨v1, ⟨vl1, vh1⟩, rfl, hR1, hb1⟩, hs1⟩
  obtain ⟨hc1, hf1⟩ := hb1.cells
  have hy1 := hb1.size
  try simp at hy1
  try simp at hs1
  rcases (by omega : v1 = 0 ∨ v1 = 1 ∨ (v1 ≠ 0 ∧ v1 ≠ 1)) with rfl | rfl | ⟨hne0, hne1⟩
  · skip
    go_wp2_with fail
    refine (pk _ g (k + 1) _ (by repeat (first | assumption | (with_reducible refine RdLe.drew ?_) | (with_reducible refine RdLe.drewN ?_ _) | (with_reducible refine RdLe.alloc ?_ _) | (with_reducible refine RdLe.setC ?_ ?_ _; (first | (simp; done) | (simp; omega) | omega)))) (by omega) (by omega) (by omega)).mono ?_
    rintro e w2 ⟨⟨v2, ⟨vl2, vh2⟩, rfl, hR2, hb2⟩, hs2⟩
    obtain ⟨hc2, hf2⟩ := hb2.cells
    have hy2 := hb2.size
    try simp at hy2
    try simp at hs2
    have ho2_0 : w.heap.size < w2.heap.size := by (have := hb2.size; (try simp at this); omega)
    have hg2_0 := fun o => hc2 (w.heap.size) o (by first | (simp; done) | (simp; omega) | omega) (by first | (simp; done) | (simp; omega) | omega)
    have hk2_0 := fun o => hf2 (w.heap.size) o (by first | (simp; done) | (simp; omega) | omega) (by first | (simp; done) | (simp; omega) | omega)
    try simp [go_sem] at hg2_0
    try simp [go_sem] at hk2_0
    obtain ⟨R2, hL2⟩ : ∃ R : Int, w2.cell? ⟨w.heap.size, v2.toNat, none⟩ = some (.int .i64 R) := by
      rcases (by omega : v2 = 0 ∨ v2 = 1 ∨ v2 = 2 ∨ v2 = 3 ∨ v2 = 4) with rfl | rfl | rfl | rfl | rfl <;> (apply Exists.intro; go_simp; try rfl)
    clear hg2_0; (try clear hc2)
    all_goals (
      go_wp2_with fail
      go_ret
      go_light
      refine ⟨_, rfl, RdLe.mono (k := k + 1 + 1) (by repeat (first | assumption | (with_reducible refine RdLe.drew ?_) | (with_reducible refine RdLe.drewN ?_ _) | (with_reducible refine RdLe.alloc ?_ _) | (with_reducible refine RdLe.setC ?_ ?_ _; (first | (simp; done) | (simp; omega) | omega)))) (by omega), ?_⟩
      repeat (first | (with_reducible exact Past.refl _ _ _) | (with_reducible refine Past.alloc ?_ (by simp) _) | (with_reducible refine Past.drew ?_) | (with_reducible refine Past.drewN ?_ _) | (with_reducible refine Past.setC ?_ ?_ _; (first | (with_reducible exact Nat.le_refl _) | (simp; done) | (simp; omega) | omega)) | (with_reducible refine Past.step ?_ (by simp) (by assumption)))
      done)
  · skip
    go_wp2_with fail
    refine (pk _ g (k + 1) _ (by repeat (first | assumption | (with_reducible refine RdLe.drew ?_) | (with_reducible refine RdLe.drewN ?_ _) | (with_reducible refine RdLe.alloc ?_ _) | (with_reducible refine RdLe.setC ?_ ?_ _; (first | (simp; done) | (simp; omega) | omega)))) (by omega) (by omega) (by omega)).mono ?_
    rintro e w2 ⟨⟨v2, ⟨vl2, vh2⟩, rfl, hR2, hb2⟩, hs2⟩
    obtain ⟨hc2, hf2⟩ := hb2.cells
    have hy2 := hb2.size
    try simp at hy2
    try simp at hs2
    by_cases h20 : v2 = 0
    · subst h20
      go_wp2_with fail
      refine (pk _ g (k + 1 + 1) _ (by repeat (first | assumption | (with_reducible refine RdLe.drew ?_) | (with_reducible refine RdLe.drewN ?_ _) | (with_reducible refine RdLe.alloc ?_ _) | (with_reducible refine RdLe.setC ?_ ?_ _; (first | (simp; done) | (simp; omega) | omega)))) (by omega) (by omega) (by omega)).mono ?_
      rintro e w3 ⟨⟨v3, ⟨vl3, vh3⟩, rfl, hR3, hb3⟩, hs3⟩
      obtain ⟨hc3, hf3⟩ := hb3.cells
      have hy3 := hb3.size
      try simp at hy3
      try simp at hs3
      have ho3_0 : w.heap.size < w3.heap.size := by (have := hb3.size; (try simp at this); omega)
      have hg3_0 := fun o => hc3 (w.heap.size) o (by first | (simp; done) | (simp; omega) | omega) (by first | (simp; done) | (simp; omega) | omega)
      have hk3_0 := fun o => hf3 (w.heap.size) o (by first | (simp; done) | (simp; omega) | omega) (by first | (simp; done) | (simp; omega) | omega)
      try simp [go_sem] at hg3_0
      try simp [go_sem] at hk3_0
      obtain ⟨R3, hL3⟩ : ∃ R : Int, w3.cell? ⟨w.heap.size, v3.toNat, none⟩ = some (.int .i64 R) := by
        rcases (by omega : v3 = 0 ∨ v3 = 1) with rfl | rfl <;> (apply Exists.intro; go_simp; try rfl)
      clear hg3_0; (try clear hc3)
      all_goals (
        go_wp2_with fail
        go_ret
        go_light
        refine ⟨_, rfl, RdLe.mono (k := k + 1 + 1 + 1) (by repeat (first | assumption | (with_reducible refine RdLe.drew ?_) | (with_reducible refine RdLe.drewN ?_ _) | (with_reducible refine RdLe.alloc ?_ _) | (with_reducible refine RdLe.setC ?_ ?_ _; (first | (simp; done) | (simp; omega) | omega)))) (by omega), ?_⟩
        repeat (first | (with_reducible exact Past.refl _ _ _) | (with_reducible refine Past.alloc ?_ (by simp) _) | (with_reducible refine Past.drew ?_) | (with_reducible refine Past.drewN ?_ _) | (with_reducible refine Past.setC ?_ ?_ _; (first | (with_reducible exact Nat.le_refl _) | (simp; done) | (simp; omega) | omega)) | (with_reducible refine Past.step ?_ (by simp) (by assumption)))
        done)
    · skip
      go_wp2_with fail
      refine (pk _ g (k + 1 + 1) _ (by repeat (first | assumption | (with_reducible refine RdLe.drew ?_) | (with_reducible refine RdLe.drewN ?_ _) | (with_reducible refine RdLe.alloc ?_ _) | (with_reducible refine RdLe.setC ?_ ?_ _; (first | (simp; done) | (simp; omega) | omega)))) (by omega) (by omega) (by omega)).mono ?_
      rintro e w3 ⟨⟨v3, ⟨vl3, vh3⟩, rfl, hR3, hb3⟩, hs3⟩
      obtain ⟨hc3, hf3⟩ := hb3.cells
      have hy3 := hb3.size
      try simp at hy3
      try simp at hs3
      go_wp2_with fail
      refine (pk _ g (k + 1 + 1 + 1) _ (by repeat (first | assumption | (with_reducible refine RdLe.drew ?_) | (with_reducible refine RdLe.drewN ?_ _) | (with_reducible refine RdLe.alloc ?_ _) | (with_reducible refine RdLe.setC ?_ ?_ _; (first | (simp; done) | (simp; omega) | omega)))) (by omega) (by omega) (by omega)).mono ?_
      rintro e w4 ⟨⟨v4, ⟨vl4, vh4⟩, rfl, hR4, hb4⟩, hs4⟩
      obtain ⟨hc4, hf4⟩ := hb4.cells
      have hy4 := hb4.size
      try simp at hy4
      try simp at hs4
      go_wp2_with fail
      go_ret
      go_light
      refine ⟨_, rfl, RdLe.mono (k := k + 1 + 1 + 1 + 1) (by repeat (first | assumption | (with_reducible refine RdLe.drew ?_) | (with_reducible refine RdLe.drewN ?_ _) | (with_reducible refine RdLe.alloc ?_ _) | (with_reducible refine RdLe.setC ?_ ?_ _; (first | (simp; done) | (simp; omega) | omega)))) (by omega), ?_⟩
      repeat (first | (with_reducible exact Past.refl _ _ _) | (with_reducible refine Past.alloc ?_ (by simp) _) | (with_reducible refine Past.drew ?_) | (with_reducible refine Past.drewN ?_ _) | (with_reducible refine Past.setC ?_ ?_ _; (first | (with_reducible exact Nat.le_refl _) | (simp; done) | (simp; omega) | omega)) | (with_reducible refine Past.step ?_ (by simp) (by assumption)))
  · skip
    go_wp2_with fail
    refine (pk _ g (k + 1) _ (by repeat (first | assumption | (with_reducible refine RdLe.drew ?_) | (with_reducible refine RdLe.drewN ?_ _) | (with_reducible refine RdLe.alloc ?_ _) | (with_reducible refine RdLe.setC ?_ ?_ _; (first | (simp; done) | (simp; omega) | omega)))) (by omega) (by omega) (by omega)).mono ?_
    rintro e w3 ⟨⟨v3, ⟨vl3, vh3⟩, rfl, hR3, hb3⟩, hs3⟩
    obtain ⟨hc3, hf3⟩ := hb3.cells
    have hy3 := hb3.size
    try simp at hy3
    try simp at hs3
    go_wp2_with fail
    refine (pk _ g (k + 1 + 1) _ (by repeat (first | assumption | (with_reducible refine RdLe.drew ?_) | (with_reducible refine RdLe.drewN ?_ _) | (with_reducible refine RdLe.alloc ?_ _) | (with_reducible refine RdLe.setC ?_ ?_ _; (first | (simp; done) | (simp; omega) | omega)))) (by omega) (by omega) (by omega)).mono ?_
    rintro e w4 ⟨⟨v4, ⟨vl4, vh4⟩, rfl, hR4, hb4⟩, hs4⟩
    obtain ⟨hc4, hf4⟩ := hb4.cells
    have hy4 := hb4.size
    try simp at hy4
    try simp at hs4
    go_wp2_with fail
    go_ret
    go_light
    refine ⟨_, rfl, RdLe.mono (k := k + 1 + 1 + 1) (by repeat (first | assumption | (with_reducible refine RdLe.drew ?_) | (with_reducible refine RdLe.drewN ?_ _) | (with_reducible refine RdLe.alloc ?_ _) | (with_reducible refine RdLe.setC ?_ ?_ _; (first | (simp; done) | (simp; omega) | omega)))) (by omega), ?_⟩
    repeat (first | (with_reducible exact Past.refl _ _ _) | (with_reducible refine Past.alloc ?_ (by simp) _) | (with_reducible refine Past.drew ?_) | (with_reducible refine Past.drewN ?_ _) | (with_reducible refine Past.setC ?_ ?_ _; (first | (with_reducible exact Nat.le_refl _) | (simp; done) | (simp; omega) | omega)) | (with_reducible refine Past.step ?_ (by simp) (by assumption)))
set_option maxHeartbeats 2000000 in
theorem serials_draw (w : World) (g k : Nat) (h : RdLe w g k) (hk : k ≤ 999900) :
    Calls Try.prog 49 #[.pointer (some ⟨g, 0, none⟩)] w (Drawn2 g (k + 20) w) := by
  have hg := h.lt
  go_enter Try.func49, Try.ntmps49
  go_wp2_with fail
  refine (serial_draw _ g k (by repeat (first | assumption | (with_reducible refine RdLe.drew ?_) | (with_reducible refine RdLe.drewN ?_ _) | (with_reducible refine RdLe.alloc ?_ _) | (with_reducible refine RdLe.setC ?_ ?_ _; (first | (simp; done) | (simp; omega) | omega)))) (by omega)).mono ?_
  rintro e w1 ⟨a1, rfl, hR1, hb1⟩
  obtain ⟨hc1, hf1⟩ := hb1.cells
  have hy1 := hb1.size
  try simp at hy1
  go_wp2_with fail
  refine (pk _ g (k + 4) _ (by repeat (first | assumption | (with_reducible refine RdLe.drew ?_) | (with_reducible refine RdLe.drewN ?_ _) | (with_reducible refine RdLe.alloc ?_ _) | (with_reducible refine RdLe.setC ?_ ?_ _; (first | (simp; done) | (simp; omega) | omega)))) (by omega) (by omega) (by omega)).mono ?_
  rintro e w2 ⟨⟨v2, ⟨vl2, vh2⟩, rfl, hR2, hb2⟩, hs2⟩
  obtain ⟨hc2, hf2⟩ := hb2.cells
  have hy2 := hb2.size
  try simp at hy2
  try simp at hs2
  by_cases h2 : v2 = 0
  · subst h2
    go_wp2_with fail
    refine (serial_draw _ g (k + 4 + 1) (by repeat (first | assumption | (with_reducible refine RdLe.drew ?_) | (with_reducible refine RdLe.drewN ?_ _) | (with_reducible refine RdLe.alloc ?_ _) | (with_reducible refine RdLe.setC ?_ ?_ _; (first | (simp; done) | (simp; omega) | omega)))) (by omega)).mono ?_
    rintro e w3 ⟨a3, rfl, hR3, hb3⟩
    obtain ⟨hc3, hf3⟩ := hb3.cells
    have hy3 := hb3.size
    try simp at hy3
    go_wp2_with fail
    go_ret2
    go_light
    refine ⟨_, _, rfl, RdLe.mono (k := k + 4 + 1 + 4) (by repeat (first | assumption | (with_reducible refine RdLe.drew ?_) | (with_reducible refine RdLe.drewN ?_ _) | (with_reducible refine RdLe.alloc ?_ _) | (with_reducible refine RdLe.setC ?_ ?_ _; (first | (simp; done) | (simp; omega) | omega)))) (by omega), ?_⟩
    repeat (first | (with_reducible exact Past.refl _ _ _) | (with_reducible refine Past.alloc ?_ (by simp) _) | (with_reducible refine Past.drew ?_) | (with_reducible refine Past.drewN ?_ _) | (with_reducible refine Past.setC ?_ ?_ _; (first | (with_reducible exact Nat.le_refl _) | (simp; done) | (simp; omega) | omega)) | (with_reducible refine Past.step ?_ (by simp) (by assumption)))
  · skip
    go_wp2_with fail
    refine (pk _ g (k + 4 + 1) _ (by repeat (first | assumption | (with_reducible refine RdLe.drew ?_) | (with_reducible refine RdLe.drewN ?_ _) | (with_reducible refine RdLe.alloc ?_ _) | (with_reducible refine RdLe.setC ?_ ?_ _; (first | (simp; done) | (simp; omega) | omega)))) (by omega) (by omega) (by omega)).mono ?_
    rintro e w3 ⟨⟨v3, ⟨vl3, vh3⟩, rfl, hR3, hb3⟩, hs3⟩
    obtain ⟨hc3, hf3⟩ := hb3.cells
    have hy3 := hb3.size
    try simp at hy3
    try simp at hs3
    go_wp2_with fail
    refine (pk _ g (k + 4 + 1 + 1) _ (by repeat (first | assumption | (with_reducible refine RdLe.drew ?_) | (with_reducible refine RdLe.drewN ?_ _) | (with_reducible refine RdLe.alloc ?_ _) | (with_reducible refine RdLe.setC ?_ ?_ _; (first | (simp; done) | (simp; omega) | omega)))) (by omega) (by omega) (by omega)).mono ?_
    rintro e w4 ⟨⟨v4, ⟨vl4, vh4⟩, rfl, hR4, hb4⟩, hs4⟩
    obtain ⟨hc4, hf4⟩ := hb4.cells
    have hy4 := hb4.size
    try simp at hy4
    try simp at hs4
    go_wp2_with fail
    refine (l1Rest_any _ _).mono ?_
    rintro e w' ⟨rfl, rfl⟩
    go_wp2_with fail
    go_ret2
    go_light
    refine ⟨_, _, rfl, RdLe.mono (k := k + 4 + 1 + 1 + 1) (by repeat (first | assumption | (with_reducible refine RdLe.drew ?_) | (with_reducible refine RdLe.drewN ?_ _) | (with_reducible refine RdLe.alloc ?_ _) | (with_reducible refine RdLe.setC ?_ ?_ _; (first | (simp; done) | (simp; omega) | omega)))) (by omega), ?_⟩
    repeat (first | (with_reducible exact Past.refl _ _ _) | (with_reducible refine Past.alloc ?_ (by simp) _) | (with_reducible refine Past.drew ?_) | (with_reducible refine Past.drewN ?_ _) | (with_reducible refine Past.setC ?_ ?_ _; (first | (with_reducible exact Nat.le_refl _) | (simp; done) | (simp; omega) | omega)) | (with_reducible refine Past.step ?_ (by simp) (by assumption)))
set_option maxHeartbeats 2000000 in
theorem draw_add (w : World) (A : Option Addr) (n c : Nat) (h : IsInts .u8 w A n c) (hn : n ≤ 1048576) :
    Calls Try.prog 16 #[.slice A n c] w (Made2 w) := by
  have H := Lib.hid h
  clear h
  go_enter Try.func16, Try.ntmps16
  go_wp2_with fail
  refine (open_any _ A n c (H.out.below (by repeat (first | (with_reducible exact Below.refl _ _) | (with_reducible refine Bal ?_ _) | (with_reducible refine Below.drew ?_) | (with_reducible refine below_drewN ?_ _) | (with_reducible refine Bset ?_ ?_ _; (first | (with_reducible exact Nat.le_refl _) | (simp; done) | (simp; omega) | omega)) | (with_reducible refine Bt ?_ (by assumption)) | (with_reducible refine Bp (g := g) ?_ (by assumption) (by assumption))))) hn).mono ?_
  rintro e w0 ⟨g, rfl, hgo, hR0, hb0⟩
  obtain ⟨hc0, hf0⟩ := bcell hb0
  have hy0 := hb0.size
  try simp at hy0
  try simp at hgo
  have hgo2 : w.heap.size ≤ g := by omega
  have hgl := hR0.lt
  go_wp2_with fail
  refine (serial_draw _ g 0 (by repeat (first | assumption | (with_reducible refine RdLe.drew ?_) | (with_reducible refine RdLe.drewN ?_ _) | (with_reducible refine RdLe.alloc ?_ _) | (with_reducible refine RdLe.setC ?_ ?_ _; (first | (simp; done) | (simp; omega) | omega)))) (by omega)).mono ?_
  rintro e w1 ⟨a1, rfl, hR1, hb1⟩
  obtain ⟨hc1, hf1⟩ := hb1.cells
  have hy1 := hb1.size
  try simp at hy1
  go_wp2_with fail
  refine (pk _ g (4) _ (by repeat (first | assumption | (with_reducible refine RdLe.drew ?_) | (with_reducible refine RdLe.drewN ?_ _) | (with_reducible refine RdLe.alloc ?_ _) | (with_reducible refine RdLe.setC ?_ ?_ _; (first | (simp; done) | (simp; omega) | omega)))) (by omega) (by omega) (by omega)).mono ?_
  rintro e w2 ⟨⟨v2, ⟨vl2, vh2⟩, rfl, hR2, hb2⟩, hs2⟩
  obtain ⟨hc2, hf2⟩ := hb2.cells
  have hy2 := hb2.size
  try simp at hy2
  try simp at hs2
  go_wp2_with fail
  refine (pk _ g (4 + 1) _ (by repeat (first | assumption | (with_reducible refine RdLe.drew ?_) | (with_reducible refine RdLe.drewN ?_ _) | (with_reducible refine RdLe.alloc ?_ _) | (with_reducible refine RdLe.setC ?_ ?_ _; (first | (simp; done) | (simp; omega) | omega)))) (by omega) (by omega) (by omega)).mono ?_
  rintro e w3 ⟨⟨v3, ⟨vl3, vh3⟩, rfl, hR3, hb3⟩, hs3⟩
  obtain ⟨hc3, hf3⟩ := hb3.cells
  have hy3 := hb3.size
  try simp at hy3
  try simp at hs3
  go_wp2_with fail
  refine (pk _ g (4 + 1 + 1) _ (by repeat (first | assumption | (with_reducible refine RdLe.drew ?_) | (with_reducible refine RdLe.drewN ?_ _) | (with_reducible refine RdLe.alloc ?_ _) | (with_reducible refine RdLe.setC ?_ ?_ _; (first | (simp; done) | (simp; omega) | omega)))) (by omega) (by omega) (by omega)).mono ?_
  rintro e w4 ⟨⟨v4, ⟨vl4, vh4⟩, rfl, hR4, hb4⟩, hs4⟩
  obtain ⟨hc4, hf4⟩ := hb4.cells
  have hy4 := hb4.size
  try simp at hy4
  try simp at hs4
  go_wp2_with fail
  go_ret2
  go_light
  refine ⟨_, _, ?_, rfl, ?_⟩
  · exact w64_in _
  repeat (first | (with_reducible exact Below.refl _ _) | (with_reducible refine Bal ?_ _) | (with_reducible refine Below.drew ?_) | (with_reducible refine below_drewN ?_ _) | (with_reducible refine Bset ?_ ?_ _; (first | (with_reducible exact Nat.le_refl _) | (simp; done) | (simp; omega) | omega)) | (with_reducible refine Bt ?_ (by assumption)) | (with_reducible refine Bp (g := g) ?_ (by assumption) (by assumption)))
set_option maxHeartbeats 2000000 in
theorem draw_diff (w : World) (A : Option Addr) (n c : Nat) (h : IsInts .u8 w A n c) (hn : n ≤ 1048576) :
    Calls Try.prog 19 #[.slice A n c] w (Made2' w) := by
  have H := Lib.hid h
  clear h
  go_enter Try.func19, Try.ntmps19
  go_wp2_with fail
  refine (open_any _ A n c (H.out.below (by repeat (first | (with_reducible exact Below.refl _ _) | (with_reducible refine Bal ?_ _) | (with_reducible refine Below.drew ?_) | (with_reducible refine below_drewN ?_ _) | (with_reducible refine Bset ?_ ?_ _; (first | (with_reducible exact Nat.le_refl _) | (simp; done) | (simp; omega) | omega)) | (with_reducible refine Bt ?_ (by assumption)) | (with_reducible refine Bp (g := g) ?_ (by assumption) (by assumption))))) hn).mono ?_
  rintro e w0 ⟨g, rfl, hgo, hR0, hb0⟩
  obtain ⟨hc0, hf0⟩ := bcell hb0
  have hy0 := hb0.size
  try simp at hy0
  try simp at hgo
  have hgo2 : w.heap.size ≤ g := by omega
  have hgl := hR0.lt
  go_wp2_with fail
  refine (serials_draw _ g 0 (by repeat (first | assumption | (with_reducible refine RdLe.drew ?_) | (with_reducible refine RdLe.drewN ?_ _) | (with_reducible refine RdLe.alloc ?_ _) | (with_reducible refine RdLe.setC ?_ ?_ _; (first | (simp; done) | (simp; omega) | omega)))) (by omega)).mono ?_
  rintro e w1 ⟨a1, b1, rfl, hR1, hb1⟩
  obtain ⟨hc1, hf1⟩ := hb1.cells
  have hy1 := hb1.size
  try simp at hy1
  go_wp2_with fail
  go_ret2
  go_light
  refine ⟨_, _, rfl, ?_⟩
  repeat (first | (with_reducible exact Below.refl _ _) | (with_reducible refine Bal ?_ _) | (with_reducible refine Below.drew ?_) | (with_reducible refine below_drewN ?_ _) | (with_reducible refine Bset ?_ ?_ _; (first | (with_reducible exact Nat.le_refl _) | (simp; done) | (simp; omega) | omega)) | (with_reducible refine Bt ?_ (by assumption)) | (with_reducible refine Bp (g := g) ?_ (by assumption) (by assumption)))
set_option maxHeartbeats 2000000 in
theorem draw_less (w : World) (A : Option Addr) (n c : Nat) (h : IsInts .u8 w A n c) (hn : n ≤ 1048576) :
    Calls Try.prog 22 #[.slice A n c] w (Made2' w) := by
  have H := Lib.hid h
  clear h
  go_enter Try.func22, Try.ntmps22
  go_wp2_with fail
  refine (open_any _ A n c (H.out.below (by repeat (first | (with_reducible exact Below.refl _ _) | (with_reducible refine Bal ?_ _) | (with_reducible refine Below.drew ?_) | (with_reducible refine below_drewN ?_ _) | (with_reducible refine Bset ?_ ?_ _; (first | (with_reducible exact Nat.le_refl _) | (simp; done) | (simp; omega) | omega)) | (with_reducible refine Bt ?_ (by assumption)) | (with_reducible refine Bp (g := g) ?_ (by assumption) (by assumption))))) hn).mono ?_
  rintro e w0 ⟨g, rfl, hgo, hR0, hb0⟩
  obtain ⟨hc0, hf0⟩ := bcell hb0
  have hy0 := hb0.size
  try simp at hy0
  try simp at hgo
  have hgo2 : w.heap.size ≤ g := by omega
  have hgl := hR0.lt
  go_wp2_with fail
  refine (serials_draw _ g 0 (by repeat (first | assumption | (with_reducible refine RdLe.drew ?_) | (with_reducible refine RdLe.drewN ?_ _) | (with_reducible refine RdLe.alloc ?_ _) | (with_reducible refine RdLe.setC ?_ ?_ _; (first | (simp; done) | (simp; omega) | omega)))) (by omega)).mono ?_
  rintro e w1 ⟨a1, b1, rfl, hR1, hb1⟩
  obtain ⟨hc1, hf1⟩ := hb1.cells
  have hy1 := hb1.size
  try simp at hy1
  go_wp2_with fail
  go_ret2
  go_light
  refine ⟨_, _, rfl, ?_⟩
  repeat (first | (with_reducible exact Below.refl _ _) | (with_reducible refine Bal ?_ _) | (with_reducible refine Below.drew ?_) | (with_reducible refine below_drewN ?_ _) | (with_reducible refine Bset ?_ ?_ _; (first | (with_reducible exact Nat.le_refl _) | (simp; done) | (simp; omega) | omega)) | (with_reducible refine Bt ?_ (by assumption)) | (with_reducible refine Bp (g := g) ?_ (by assumption) (by assumption)))
set_option maxHeartbeats 2000000 in
theorem draw_wide (w : World) (A : Option Addr) (n c : Nat) (h : IsInts .u8 w A n c) (hn : n ≤ 1048576) :
    Calls Try.prog 25 #[.slice A n c] w (Made2' w) := by
  have H := Lib.hid h
  clear h
  go_enter Try.func25, Try.ntmps25
  go_wp2_with fail
  refine (open_any _ A n c (H.out.below (by repeat (first | (with_reducible exact Below.refl _ _) | (with_reducible refine Bal ?_ _) | (with_reducible refine Below.drew ?_) | (with_reducible refine below_drewN ?_ _) | (with_reducible refine Bset ?_ ?_ _; (first | (with_reducible exact Nat.le_refl _) | (simp; done) | (simp; omega) | omega)) | (with_reducible refine Bt ?_ (by assumption)) | (with_reducible refine Bp (g := g) ?_ (by assumption) (by assumption))))) hn).mono ?_
  rintro e w0 ⟨g, rfl, hgo, hR0, hb0⟩
  obtain ⟨hc0, hf0⟩ := bcell hb0
  have hy0 := hb0.size
  try simp at hy0
  try simp at hgo
  have hgo2 : w.heap.size ≤ g := by omega
  have hgl := hR0.lt
  go_wp2_with fail
  refine (pk _ g (0) _ (by repeat (first | assumption | (with_reducible refine RdLe.drew ?_) | (with_reducible refine RdLe.drewN ?_ _) | (with_reducible refine RdLe.alloc ?_ _) | (with_reducible refine RdLe.setC ?_ ?_ _; (first | (simp; done) | (simp; omega) | omega)))) (by omega) (by omega) (by omega)).mono ?_
  rintro e w1 ⟨⟨v1, ⟨vl1, vh1⟩, rfl, hR1, hb1⟩, hs1⟩
  obtain ⟨hc1, hf1⟩ := hb1.cells
  have hy1 := hb1.size
  try simp at hy1
  try simp at hs1
  go_wp2_with fail
  refine (pk _ g (0 + 1) _ (by repeat (first | assumption | (with_reducible refine RdLe.drew ?_) | (with_reducible refine RdLe.drewN ?_ _) | (with_reducible refine RdLe.alloc ?_ _) | (with_reducible refine RdLe.setC ?_ ?_ _; (first | (simp; done) | (simp; omega) | omega)))) (by omega) (by omega) (by omega)).mono ?_
  rintro e w2 ⟨⟨v2, ⟨vl2, vh2⟩, rfl, hR2, hb2⟩, hs2⟩
  obtain ⟨hc2, hf2⟩ := hb2.cells
  have hy2 := hb2.size
  try simp at hy2
  try simp at hs2
  go_wp2_with fail
  refine (pk _ g (0 + 1 + 1) _ (by repeat (first | assumption | (with_reducible refine RdLe.drew ?_) | (with_reducible refine RdLe.drewN ?_ _) | (with_reducible refine RdLe.alloc ?_ _) | (with_reducible refine RdLe.setC ?_ ?_ _; (first | (simp; done) | (simp; omega) | omega)))) (by omega) (by omega) (by omega)).mono ?_
  rintro e w3 ⟨⟨v3, ⟨vl3, vh3⟩, rfl, hR3, hb3⟩, hs3⟩
  obtain ⟨hc3, hf3⟩ := hb3.cells
  have hy3 := hb3.size
  try simp at hy3
  try simp at hs3
  by_cases h3 : v3 = 0
  · subst h3
    go_wp2_with fail
    refine (pk _ g (0 + 1 + 1 + 1) _ (by repeat (first | assumption | (with_reducible refine RdLe.drew ?_) | (with_reducible refine RdLe.drewN ?_ _) | (with_reducible refine RdLe.alloc ?_ _) | (with_reducible refine RdLe.setC ?_ ?_ _; (first | (simp; done) | (simp; omega) | omega)))) (by omega) (by omega) (by omega)).mono ?_
    rintro e w4 ⟨⟨v4, ⟨vl4, vh4⟩, rfl, hR4, hb4⟩, hs4⟩
    obtain ⟨hc4, hf4⟩ := hb4.cells
    have hy4 := hb4.size
    try simp at hy4
    try simp at hs4
    have ho4_0 : w0.heap.size < w4.heap.size := by (have := hb4.size; (try simp at this); omega)
    have hg4_0 := fun o => hc4 (w0.heap.size) o (by first | (simp; done) | (simp; omega) | omega) (by first | (simp; done) | (simp; omega) | omega)
    have hk4_0 := fun o => hf4 (w0.heap.size) o (by first | (simp; done) | (simp; omega) | omega) (by first | (simp; done) | (simp; omega) | omega)
    try simp [go_sem] at hg4_0
    try simp [go_sem] at hk4_0
    obtain ⟨R4, hL4⟩ : ∃ R : Int, w4.cell? ⟨w0.heap.size, v4.toNat, none⟩ = some (.int .i64 R) := by
      rcases (by omega : v4 = 0 ∨ v4 = 1 ∨ v4 = 2 ∨ v4 = 3) with rfl | rfl | rfl | rfl <;> (apply Exists.intro; go_simp; try rfl)
    clear hg4_0; (try clear hc4)
    all_goals (
      go_wp2_with fail
      refine (pk _ g (0 + 1 + 1 + 1 + 1) _ (by repeat (first | assumption | (with_reducible refine RdLe.drew ?_) | (with_reducible refine RdLe.drewN ?_ _) | (with_reducible refine RdLe.alloc ?_ _) | (with_reducible refine RdLe.setC ?_ ?_ _; (first | (simp; done) | (simp; omega) | omega)))) (by omega) (by omega) (by omega)).mono ?_
      rintro e w5 ⟨⟨v5, ⟨vl5, vh5⟩, rfl, hR5, hb5⟩, hs5⟩
      obtain ⟨hc5, hf5⟩ := hb5.cells
      have hy5 := hb5.size
      try simp at hy5
      try simp at hs5
      by_cases h5 : v5 = 0
      · subst h5
        go_wp2_with fail
        refine (serial_draw _ g (0 + 1 + 1 + 1 + 1 + 1) (by repeat (first | assumption | (with_reducible refine RdLe.drew ?_) | (with_reducible refine RdLe.drewN ?_ _) | (with_reducible refine RdLe.alloc ?_ _) | (with_reducible refine RdLe.setC ?_ ?_ _; (first | (simp; done) | (simp; omega) | omega)))) (by omega)).mono ?_
        rintro e w6 ⟨a6, rfl, hR6, hb6⟩
        obtain ⟨hc6, hf6⟩ := hb6.cells
        have hy6 := hb6.size
        try simp at hy6
        go_wp2_with fail
        go_ret2
        go_light
        refine ⟨_, _, rfl, ?_⟩
        repeat (first | (with_reducible exact Below.refl _ _) | (with_reducible refine Bal ?_ _) | (with_reducible refine Below.drew ?_) | (with_reducible refine below_drewN ?_ _) | (with_reducible refine Bset ?_ ?_ _; (first | (with_reducible exact Nat.le_refl _) | (simp; done) | (simp; omega) | omega)) | (with_reducible refine Bt ?_ (by assumption)) | (with_reducible refine Bp (g := g) ?_ (by assumption) (by assumption)))
        done
      · skip
        go_wp2_with fail
        refine (pk _ g (0 + 1 + 1 + 1 + 1 + 1) _ (by repeat (first | assumption | (with_reducible refine RdLe.drew ?_) | (with_reducible refine RdLe.drewN ?_ _) | (with_reducible refine RdLe.alloc ?_ _) | (with_reducible refine RdLe.setC ?_ ?_ _; (first | (simp; done) | (simp; omega) | omega)))) (by omega) (by omega) (by omega)).mono ?_
        rintro e w6 ⟨⟨v6, ⟨vl6, vh6⟩, rfl, hR6, hb6⟩, hs6⟩
        obtain ⟨hc6, hf6⟩ := hb6.cells
        have hy6 := hb6.size
        try simp at hy6
        try simp at hs6
        go_wp2_with fail
        refine (pk _ g (0 + 1 + 1 + 1 + 1 + 1 + 1) _ (by repeat (first | assumption | (with_reducible refine RdLe.drew ?_) | (with_reducible refine RdLe.drewN ?_ _) | (with_reducible refine RdLe.alloc ?_ _) | (with_reducible refine RdLe.setC ?_ ?_ _; (first | (simp; done) | (simp; omega) | omega)))) (by omega) (by omega) (by omega)).mono ?_
        rintro e w7 ⟨⟨v7, ⟨vl7, vh7⟩, rfl, hR7, hb7⟩, hs7⟩
        obtain ⟨hc7, hf7⟩ := hb7.cells
        have hy7 := hb7.size
        try simp at hy7
        try simp at hs7
        go_wp2_with fail
        refine (l1Rest_any _ _).mono ?_
        rintro e w' ⟨rfl, rfl⟩
        go_wp2_with fail
        go_ret2
        go_light
        refine ⟨_, _, rfl, ?_⟩
        repeat (first | (with_reducible exact Below.refl _ _) | (with_reducible refine Bal ?_ _) | (with_reducible refine Below.drew ?_) | (with_reducible refine below_drewN ?_ _) | (with_reducible refine Bset ?_ ?_ _; (first | (with_reducible exact Nat.le_refl _) | (simp; done) | (simp; omega) | omega)) | (with_reducible refine Bt ?_ (by assumption)) | (with_reducible refine Bp (g := g) ?_ (by assumption) (by assumption)))
        done)
  · skip
    go_wp2_with fail
    refine (pk _ g (0 + 1 + 1 + 1) _ (by repeat (first | assumption | (with_reducible refine RdLe.drew ?_) | (with_reducible refine RdLe.drewN ?_ _) | (with_reducible refine RdLe.alloc ?_ _) | (with_reducible refine RdLe.setC ?_ ?_ _; (first | (simp; done) | (simp; omega) | omega)))) (by omega) (by omega) (by omega)).mono ?_
    rintro e w5 ⟨⟨v5, ⟨vl5, vh5⟩, rfl, hR5, hb5⟩, hs5⟩
    obtain ⟨hc5, hf5⟩ := hb5.cells
    have hy5 := hb5.size
    try simp at hy5
    try simp at hs5
    by_cases h5 : v5 = 0
    · subst h5
      go_wp2_with fail
      refine (serial_draw _ g (0 + 1 + 1 + 1 + 1) (by repeat (first | assumption | (with_reducible refine RdLe.drew ?_) | (with_reducible refine RdLe.drewN ?_ _) | (with_reducible refine RdLe.alloc ?_ _) | (with_reducible refine RdLe.setC ?_ ?_ _; (first | (simp; done) | (simp; omega) | omega)))) (by omega)).mono ?_
      rintro e w6 ⟨a6, rfl, hR6, hb6⟩
      obtain ⟨hc6, hf6⟩ := hb6.cells
      have hy6 := hb6.size
      try simp at hy6
      go_wp2_with fail
      go_ret2
      go_light
      refine ⟨_, _, rfl, ?_⟩
      repeat (first | (with_reducible exact Below.refl _ _) | (with_reducible refine Bal ?_ _) | (with_reducible refine Below.drew ?_) | (with_reducible refine below_drewN ?_ _) | (with_reducible refine Bset ?_ ?_ _; (first | (with_reducible exact Nat.le_refl _) | (simp; done) | (simp; omega) | omega)) | (with_reducible refine Bt ?_ (by assumption)) | (with_reducible refine Bp (g := g) ?_ (by assumption) (by assumption)))
    · skip
      go_wp2_with fail
      refine (pk _ g (0 + 1 + 1 + 1 + 1) _ (by repeat (first | assumption | (with_reducible refine RdLe.drew ?_) | (with_reducible refine RdLe.drewN ?_ _) | (with_reducible refine RdLe.alloc ?_ _) | (with_reducible refine RdLe.setC ?_ ?_ _; (first | (simp; done) | (simp; omega) | omega)))) (by omega) (by omega) (by omega)).mono ?_
      rintro e w6 ⟨⟨v6, ⟨vl6, vh6⟩, rfl, hR6, hb6⟩, hs6⟩
      obtain ⟨hc6, hf6⟩ := hb6.cells
      have hy6 := hb6.size
      try simp at hy6
      try simp at hs6
      go_wp2_with fail
      refine (pk _ g (0 + 1 + 1 + 1 + 1 + 1) _ (by repeat (first | assumption | (with_reducible refine RdLe.drew ?_) | (with_reducible refine RdLe.drewN ?_ _) | (with_reducible refine RdLe.alloc ?_ _) | (with_reducible refine RdLe.setC ?_ ?_ _; (first | (simp; done) | (simp; omega) | omega)))) (by omega) (by omega) (by omega)).mono ?_
      rintro e w7 ⟨⟨v7, ⟨vl7, vh7⟩, rfl, hR7, hb7⟩, hs7⟩
      obtain ⟨hc7, hf7⟩ := hb7.cells
      have hy7 := hb7.size
      try simp at hy7
      try simp at hs7
      go_wp2_with fail
      refine (l1Rest_any _ _).mono ?_
      rintro e w' ⟨rfl, rfl⟩
      go_wp2_with fail
      go_ret2
      go_light
      refine ⟨_, _, rfl, ?_⟩
      repeat (first | (with_reducible exact Below.refl _ _) | (with_reducible refine Bal ?_ _) | (with_reducible refine Below.drew ?_) | (with_reducible refine below_drewN ?_ _) | (with_reducible refine Bset ?_ ?_ _; (first | (with_reducible exact Nat.le_refl _) | (simp; done) | (simp; omega) | omega)) | (with_reducible refine Bt ?_ (by assumption)) | (with_reducible refine Bp (g := g) ?_ (by assumption) (by assumption)))
set_option maxHeartbeats 2000000 in
theorem draw_clockof (w : World) (A : Option Addr) (n c : Nat) (h : IsInts .u8 w A n c) (hn : n ≤ 1048576) :
    Calls Try.prog 33 #[.slice A n c] w (Made4 w) := by
  have H := Lib.hid h
  clear h
  go_enter Try.func33, Try.ntmps33
  go_wp2_with fail
  refine (open_any _ A n c (H.out.below (by repeat (first | (with_reducible exact Below.refl _ _) | (with_reducible refine Bal ?_ _) | (with_reducible refine Below.drew ?_) | (with_reducible refine below_drewN ?_ _) | (with_reducible refine Bset ?_ ?_ _; (first | (with_reducible exact Nat.le_refl _) | (simp; done) | (simp; omega) | omega)) | (with_reducible refine Bt ?_ (by assumption)) | (with_reducible refine Bp (g := g) ?_ (by assumption) (by assumption))))) hn).mono ?_
  rintro e w0 ⟨g, rfl, hgo, hR0, hb0⟩
  obtain ⟨hc0, hf0⟩ := bcell hb0
  have hy0 := hb0.size
  try simp at hy0
  try simp at hgo
  have hgo2 : w.heap.size ≤ g := by omega
  have hgl := hR0.lt
  go_wp2_with fail
  refine (pk _ g (0) _ (by repeat (first | assumption | (with_reducible refine RdLe.drew ?_) | (with_reducible refine RdLe.drewN ?_ _) | (with_reducible refine RdLe.alloc ?_ _) | (with_reducible refine RdLe.setC ?_ ?_ _; (first | (simp; done) | (simp; omega) | omega)))) (by omega) (by omega) (by omega)).mono ?_
  rintro e w1 ⟨⟨v1, ⟨vl1, vh1⟩, rfl, hR1, hb1⟩, hs1⟩
  obtain ⟨hc1, hf1⟩ := hb1.cells
  have hy1 := hb1.size
  try simp at hy1
  try simp at hs1
  go_wp2_with fail
  refine (pk _ g (0 + 1) _ (by repeat (first | assumption | (with_reducible refine RdLe.drew ?_) | (with_reducible refine RdLe.drewN ?_ _) | (with_reducible refine RdLe.alloc ?_ _) | (with_reducible refine RdLe.setC ?_ ?_ _; (first | (simp; done) | (simp; omega) | omega)))) (by omega) (by omega) (by omega)).mono ?_
  rintro e w2 ⟨⟨v2, ⟨vl2, vh2⟩, rfl, hR2, hb2⟩, hs2⟩
  obtain ⟨hc2, hf2⟩ := hb2.cells
  have hy2 := hb2.size
  try simp at hy2
  try simp at hs2
  go_wp2_with fail
  refine (pk _ g (0 + 1 + 1) _ (by repeat (first | assumption | (with_reducible refine RdLe.drew ?_) | (with_reducible refine RdLe.drewN ?_ _) | (with_reducible refine RdLe.alloc ?_ _) | (with_reducible refine RdLe.setC ?_ ?_ _; (first | (simp; done) | (simp; omega) | omega)))) (by omega) (by omega) (by omega)).mono ?_
  rintro e w3 ⟨⟨v3, ⟨vl3, vh3⟩, rfl, hR3, hb3⟩, hs3⟩
  obtain ⟨hc3, hf3⟩ := hb3.cells
  have hy3 := hb3.size
  try simp at hy3
  try simp at hs3
  by_cases h3 : v3 = 0
  · subst h3
    go_wp2_with fail
    refine (pk _ g (0 + 1 + 1 + 1) _ (by repeat (first | assumption | (with_reducible refine RdLe.drew ?_) | (with_reducible refine RdLe.drewN ?_ _) | (with_reducible refine RdLe.alloc ?_ _) | (with_reducible refine RdLe.setC ?_ ?_ _; (first | (simp; done) | (simp; omega) | omega)))) (by omega) (by omega) (by omega)).mono ?_
    rintro e w4 ⟨⟨v4, ⟨vl4, vh4⟩, rfl, hR4, hb4⟩, hs4⟩
    obtain ⟨hc4, hf4⟩ := hb4.cells
    have hy4 := hb4.size
    try simp at hy4
    try simp at hs4
    go_wp2_with fail
    refine bodyPost_retE rfl ?_
    apply Exists.intro
    refine ⟨?_, ?_⟩
    · simp only [results, Try.results33]
      go_simp
      first | done | rfl
    go_light
    refine ⟨_, _, _, _, rfl, ?_⟩
    repeat (first | (with_reducible exact Below.refl _ _) | (with_reducible refine Bal ?_ _) | (with_reducible refine Below.drew ?_) | (with_reducible refine below_drewN ?_ _) | (with_reducible refine Bset ?_ ?_ _; (first | (with_reducible exact Nat.le_refl _) | (simp; done) | (simp; omega) | omega)) | (with_reducible refine Bt ?_ (by assumption)) | (with_reducible refine Bp (g := g) ?_ (by assumption) (by assumption)))
  · skip
    go_wp2_with fail
    refine (pk _ g (0 + 1 + 1 + 1) _ (by repeat (first | assumption | (with_reducible refine RdLe.drew ?_) | (with_reducible refine RdLe.drewN ?_ _) | (with_reducible refine RdLe.alloc ?_ _) | (with_reducible refine RdLe.setC ?_ ?_ _; (first | (simp; done) | (simp; omega) | omega)))) (by omega) (by omega) (by omega)).mono ?_
    rintro e w4 ⟨⟨v4, ⟨vl4, vh4⟩, rfl, hR4, hb4⟩, hs4⟩
    obtain ⟨hc4, hf4⟩ := hb4.cells
    have hy4 := hb4.size
    try simp at hy4
    try simp at hs4
    go_wp2_with fail
    refine (pk _ g (0 + 1 + 1 + 1 + 1) _ (by repeat (first | assumption | (with_reducible refine RdLe.drew ?_) | (with_reducible refine RdLe.drewN ?_ _) | (with_reducible refine RdLe.alloc ?_ _) | (with_reducible refine RdLe.setC ?_ ?_ _; (first | (simp; done) | (simp; omega) | omega)))) (by omega) (by omega) (by omega)).mono ?_
    rintro e w5 ⟨⟨v5, ⟨vl5, vh5⟩, rfl, hR5, hb5⟩, hs5⟩
    obtain ⟨hc5, hf5⟩ := hb5.cells
    have hy5 := hb5.size
    try simp at hy5
    try simp at hs5
    go_wp2_with fail
    refine bodyPost_retE rfl ?_
    apply Exists.intro
    refine ⟨?_, ?_⟩
    · simp only [results, Try.results33]
      go_simp
      first | done | rfl
    go_light
    refine ⟨_, _, _, _, rfl, ?_⟩
    repeat (first | (with_reducible exact Below.refl _ _) | (with_reducible refine Bal ?_ _) | (with_reducible refine Below.drew ?_) | (with_reducible refine below_drewN ?_ _) | (with_reducible refine Bset ?_ ?_ _; (first | (with_reducible exact Nat.le_refl _) | (simp; done) | (simp; omega) | omega)) | (with_reducible refine Bt ?_ (by assumption)) | (with_reducible refine Bp (g := g) ?_ (by assumption) (by assumption)))
set_option maxHeartbeats 4000000 in
theorem clock_draw (w : World) (g k : Nat) (h : RdLe w g k) (hk : k ≤ 999900) :
    Calls Try.prog 64 #[.pointer (some ⟨g, 0, none⟩)] w (DrawnC g (k + 20) w) := by
  have hg := h.lt
  go_enter Try.func64, Try.ntmps64
  go_wp2_with fail
  refine (pk _ g (k) _ (by repeat (first | assumption | (with_reducible refine RdLe.drew ?_) | (with_reducible refine RdLe.drewN ?_ _) | (with_reducible refine RdLe.alloc ?_ _) | (with_reducible refine RdLe.setC ?_ ?_ _; (first | (simp; done) | (simp; omega) | omega)))) (by omega) (by omega) (by omega)).mono ?_
  rintro e w1 ⟨⟨v1, ⟨vl1, vh1⟩, rfl, hR1, hb1⟩, hs1⟩
  obtain ⟨hc1, hf1⟩ := hb1.cells
  have hy1 := hb1.size
  try simp at hy1
  try simp at hs1
  have ho1_0 : w.heap.size < w1.heap.size := by (have := hb1.size; (try simp at this); omega)
  have hg1_0 := fun o => hc1 (w.heap.size) o (by first | (simp; done) | (simp; omega) | omega) (by first | (simp; done) | (simp; omega) | omega)
  have hk1_0 := fun o => hf1 (w.heap.size) o (by first | (simp; done) | (simp; omega) | omega) (by first | (simp; done) | (simp; omega) | omega)
  try simp [go_sem] at hg1_0
  try simp [go_sem] at hk1_0
  go_wp2_with fail
  refine (pk _ g (k + 1) _ (by repeat (first | assumption | (with_reducible refine RdLe.drew ?_) | (with_reducible refine RdLe.drewN ?_ _) | (with_reducible refine RdLe.alloc ?_ _) | (with_reducible refine RdLe.setC ?_ ?_ _; (first | (simp; done) | (simp; omega) | omega)))) (by omega) (by omega) (by omega)).mono ?_
  rintro e w2 ⟨⟨v2, ⟨vl2, vh2⟩, rfl, hR2, hb2⟩, hs2⟩
  obtain ⟨hc2, hf2⟩ := hb2.cells
  have hy2 := hb2.size
  try simp at hy2
  try simp at hs2
  have ho2_0 : w.heap.size < w2.heap.size := by (have := hb2.size; (try simp at this); omega)
  have hg2_0 := fun o => hc2 (w.heap.size) o (by first | (simp; done) | (simp; omega) | omega) (by first | (simp; done) | (simp; omega) | omega)
  have hk2_0 := fun o => hf2 (w.heap.size) o (by first | (simp; done) | (simp; omega) | omega) (by first | (simp; done) | (simp; omega) | omega)
  try simp [go_sem] at hg2_0
  try simp [go_sem] at hk2_0
  go_wp2_with fail
  refine (pk _ g (k + 1 + 1) _ (by repeat (first | assumption | (with_reducible refine RdLe.drew ?_) | (with_reducible refine RdLe.drewN ?_ _) | (with_reducible refine RdLe.alloc ?_ _) | (with_reducible refine RdLe.setC ?_ ?_ _; (first | (simp; done) | (simp; omega) | omega)))) (by omega) (by omega) (by omega)).mono ?_
  rintro e w3 ⟨⟨v3, ⟨vl3, vh3⟩, rfl, hR3, hb3⟩, hs3⟩
  obtain ⟨hc3, hf3⟩ := hb3.cells
  have hy3 := hb3.size
  try simp at hy3
  try simp at hs3
  have ho3_0 : w.heap.size < w3.heap.size := by (have := hb3.size; (try simp at this); omega)
  have hg3_0 := fun o => hc3 (w.heap.size) o (by first | (simp; done) | (simp; omega) | omega) (by first | (simp; done) | (simp; omega) | omega)
  have hk3_0 := fun o => hf3 (w.heap.size) o (by first | (simp; done) | (simp; omega) | omega) (by first | (simp; done) | (simp; omega) | omega)
  try simp [go_sem] at hg3_0
  try simp [go_sem] at hk3_0
  go_wp2_with fail
  refine (pk _ g (k + 1 + 1 + 1) _ (by repeat (first | assumption | (with_reducible refine RdLe.drew ?_) | (with_reducible refine RdLe.drewN ?_ _) | (with_reducible refine RdLe.alloc ?_ _) | (with_reducible refine RdLe.setC ?_ ?_ _; (first | (simp; done) | (simp; omega) | omega)))) (by omega) (by omega) (by omega)).mono ?_
  rintro e w4 ⟨⟨v4, ⟨vl4, vh4⟩, rfl, hR4, hb4⟩, hs4⟩
  obtain ⟨hc4, hf4⟩ := hb4.cells
  have hy4 := hb4.size
  try simp at hy4
  try simp at hs4
  have ho4_0 : w.heap.size < w4.heap.size := by (have := hb4.size; (try simp at this); omega)
  have hg4_0 := fun o => hc4 (w.heap.size) o (by first | (simp; done) | (simp; omega) | omega) (by first | (simp; done) | (simp; omega) | omega)
  have hk4_0 := fun o => hf4 (w.heap.size) o (by first | (simp; done) | (simp; omega) | omega) (by first | (simp; done) | (simp; omega) | omega)
  try simp [go_sem] at hg4_0
  try simp [go_sem] at hk4_0
  have ho4_1 : w.heap.size + 1 < w4.heap.size := by (have := hb4.size; (try simp at this); omega)
  have hg4_1 := fun o => hc4 (w.heap.size + 1) o (by first | (simp; done) | (simp; omega) | omega) (by first | (simp; done) | (simp; omega) | omega)
  have hk4_1 := fun o => hf4 (w.heap.size + 1) o (by first | (simp; done) | (simp; omega) | omega) (by first | (simp; done) | (simp; omega) | omega)
  try simp [go_sem] at hg4_1
  try simp [go_sem] at hk4_1
  obtain ⟨R4, hL4⟩ : ∃ R : Int, w4.cell? ⟨w.heap.size + 1, v4.toNat, none⟩ = some (.int .i64 R) := by
    rcases (by omega : v4 = 0 ∨ v4 = 1 ∨ v4 = 2 ∨ v4 = 3 ∨ v4 = 4) with rfl | rfl | rfl | rfl | rfl <;> (apply Exists.intro; go_simp; try rfl)
  clear hg4_1; (try clear hc4)
  all_goals (
    go_wp2_with fail
    refine (pk _ g (k + 1 + 1 + 1 + 1) _ (by repeat (first | assumption | (with_reducible refine RdLe.drew ?_) | (with_reducible refine RdLe.drewN ?_ _) | (with_reducible refine RdLe.alloc ?_ _) | (with_reducible refine RdLe.setC ?_ ?_ _; (first | (simp; done) | (simp; omega) | omega)))) (by omega) (by omega) (by omega)).mono ?_
    rintro e w5 ⟨⟨v5, ⟨vl5, vh5⟩, rfl, hR5, hb5⟩, hs5⟩
    obtain ⟨hc5, hf5⟩ := hb5.cells
    have hy5 := hb5.size
    try simp at hy5
    try simp at hs5
    have ho5_0 : w.heap.size < w5.heap.size := by (have := hb5.size; (try simp at this); omega)
    have hg5_0 := fun o => hc5 (w.heap.size) o (by first | (simp; done) | (simp; omega) | omega) (by first | (simp; done) | (simp; omega) | omega)
    have hk5_0 := fun o => hf5 (w.heap.size) o (by first | (simp; done) | (simp; omega) | omega) (by first | (simp; done) | (simp; omega) | omega)
    try simp [go_sem] at hg5_0
    try simp [go_sem] at hk5_0
    have ho5_1 : w.heap.size + 1 + 1 < w5.heap.size := by (have := hb5.size; (try simp at this); omega)
    have hg5_1 := fun o => hc5 (w.heap.size + 1 + 1) o (by first | (simp; done) | (simp; omega) | omega) (by first | (simp; done) | (simp; omega) | omega)
    have hk5_1 := fun o => hf5 (w.heap.size + 1 + 1) o (by first | (simp; done) | (simp; omega) | omega) (by first | (simp; done) | (simp; omega) | omega)
    try simp [go_sem] at hg5_1
    try simp [go_sem] at hk5_1
    by_cases h5 : v5 = 0
    · subst h5
      go_wp2_with fail
      refine (pk _ g (k + 1 + 1 + 1 + 1 + 1) _ (by repeat (first | assumption | (with_reducible refine RdLe.drew ?_) | (with_reducible refine RdLe.drewN ?_ _) | (with_reducible refine RdLe.alloc ?_ _) | (with_reducible refine RdLe.setC ?_ ?_ _; (first | (simp; done) | (simp; omega) | omega)))) (by omega) (by omega) (by omega)).mono ?_
      rintro e w6 ⟨⟨v6, ⟨vl6, vh6⟩, rfl, hR6, hb6⟩, hs6⟩
      obtain ⟨hc6, hf6⟩ := hb6.cells
      have hy6 := hb6.size
      try simp at hy6
      try simp at hs6
      have ho6_0 : w.heap.size < w6.heap.size := by (have := hb6.size; (try simp at this); omega)
      have hg6_0 := fun o => hc6 (w.heap.size) o (by first | (simp; done) | (simp; omega) | omega) (by first | (simp; done) | (simp; omega) | omega)
      have hk6_0 := fun o => hf6 (w.heap.size) o (by first | (simp; done) | (simp; omega) | omega) (by first | (simp; done) | (simp; omega) | omega)
      try simp [go_sem] at hg6_0
      try simp [go_sem] at hk6_0
      have ho6_1 : w.heap.size + 1 + 1 < w6.heap.size := by (have := hb6.size; (try simp at this); omega)
      have hg6_1 := fun o => hc6 (w.heap.size + 1 + 1) o (by first | (simp; done) | (simp; omega) | omega) (by first | (simp; done) | (simp; omega) | omega)
      have hk6_1 := fun o => hf6 (w.heap.size + 1 + 1) o (by first | (simp; done) | (simp; omega) | omega) (by first | (simp; done) | (simp; omega) | omega)
      try simp [go_sem] at hg6_1
      try simp [go_sem] at hk6_1
      have ho6_2 : w.heap.size + 1 + 1 + 1 < w6.heap.size := by (have := hb6.size; (try simp at this); omega)
      have hg6_2 := fun o => hc6 (w.heap.size + 1 + 1 + 1) o (by first | (simp; done) | (simp; omega) | omega) (by first | (simp; done) | (simp; omega) | omega)
      have hk6_2 := fun o => hf6 (w.heap.size + 1 + 1 + 1) o (by first | (simp; done) | (simp; omega) | omega) (by first | (simp; done) | (simp; omega) | omega)
      try simp [go_sem] at hg6_2
      try simp [go_sem] at hk6_2
      obtain ⟨R6, hL6⟩ : ∃ R : Int, w6.cell? ⟨w.heap.size + 1 + 1 + 1, v6.toNat, none⟩ = some (.int .i64 R) := by
        rcases (by omega : v6 = 0 ∨ v6 = 1) with rfl | rfl <;> (apply Exists.intro; go_simp; try rfl)
      clear hg6_2; (try clear hc6)
      all_goals (
        obtain ⟨x6_0_0, qx6_0_0⟩ : ∃ x, w6.cell? ⟨w.heap.size, 0, none⟩ = some x := by (apply Exists.intro; go_simp; try rfl)
        obtain ⟨x6_0_1, qx6_0_1⟩ : ∃ x, w6.cell? ⟨w.heap.size, 1, none⟩ = some x := by (apply Exists.intro; go_simp; try rfl)
        obtain ⟨x6_0_2, qx6_0_2⟩ : ∃ x, w6.cell? ⟨w.heap.size, 2, none⟩ = some x := by (apply Exists.intro; go_simp; try rfl)
        clear hg6_0; (try clear hc6)
        go_wp2_with fail
        refine bodyPost_retE rfl ?_
        apply Exists.intro
        refine ⟨?_, ?_⟩
        · simp only [results, Try.results64]
          go_simp
          first | done | rfl
        go_light
        refine ⟨_, _, _, rfl, RdLe.mono (k := k + 1 + 1 + 1 + 1 + 1 + 1) (by repeat (first | assumption | (with_reducible refine RdLe.drew ?_) | (with_reducible refine RdLe.drewN ?_ _) | (with_reducible refine RdLe.alloc ?_ _) | (with_reducible refine RdLe.setC ?_ ?_ _; (first | (simp; done) | (simp; omega) | omega)))) (by omega), ?_⟩
        repeat (first | (with_reducible exact Past.refl _ _ _) | (with_reducible refine Past.alloc ?_ (by simp) _) | (with_reducible refine Past.drew ?_) | (with_reducible refine Past.drewN ?_ _) | (with_reducible refine Past.setC ?_ ?_ _; (first | (with_reducible exact Nat.le_refl _) | (simp; done) | (simp; omega) | omega)) | (with_reducible refine Past.step ?_ (by simp) (by assumption)))
        done)
    · skip
      obtain ⟨x5_0_0, qx5_0_0⟩ : ∃ x, w5.cell? ⟨w.heap.size, 0, none⟩ = some x := by (apply Exists.intro; go_simp; try rfl)
      obtain ⟨x5_0_1, qx5_0_1⟩ : ∃ x, w5.cell? ⟨w.heap.size, 1, none⟩ = some x := by (apply Exists.intro; go_simp; try rfl)
      obtain ⟨x5_0_2, qx5_0_2⟩ : ∃ x, w5.cell? ⟨w.heap.size, 2, none⟩ = some x := by (apply Exists.intro; go_simp; try rfl)
      clear hg5_0; (try clear hc5)
      go_wp2_with fail
      refine bodyPost_retE rfl ?_
      apply Exists.intro
      refine ⟨?_, ?_⟩
      · simp only [results, Try.results64]
        go_simp
        first | done | rfl
      go_light
      refine ⟨_, _, _, rfl, RdLe.mono (k := k + 1 + 1 + 1 + 1 + 1) (by repeat (first | assumption | (with_reducible refine RdLe.drew ?_) | (with_reducible refine RdLe.drewN ?_ _) | (with_reducible refine RdLe.alloc ?_ _) | (with_reducible refine RdLe.setC ?_ ?_ _; (first | (simp; done) | (simp; omega) | omega)))) (by omega), ?_⟩
      repeat (first | (with_reducible exact Past.refl _ _ _) | (with_reducible refine Past.alloc ?_ (by simp) _) | (with_reducible refine Past.drew ?_) | (with_reducible refine Past.drewN ?_ _) | (with_reducible refine Past.setC ?_ ?_ _; (first | (with_reducible exact Nat.le_refl _) | (simp; done) | (simp; omega) | omega)) | (with_reducible refine Past.step ?_ (by simp) (by assumption)))
      done)
end Go.Proofs.Ytlbnipcdkfonpaa
