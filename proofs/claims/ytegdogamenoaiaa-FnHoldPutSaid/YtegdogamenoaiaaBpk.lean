/- The draw of a packet (printed by gen_bpk.py). -/
import Derived.Test.YtegdogamenoaiaaFad
namespace Go.Proofs.Ytegdogamenoaiaa
open Go Go.RowKit
set_option linter.unusedVariables false
set_option linter.unusedSimpArgs false
def DrawnPk (g K : Nat) (w : World) (e : Ending) (w' : World) : Prop :=
  ∃ (a1 a2 a3 a4 : Int) (a5 a6 : Bool), e = .returned (.agg #[.int .i64 a1, .int .i64 a2, .int .i64 a3, .int .i64 a4, .bool a5, .bool a6]) ∧ RdLe w' g K ∧ Past g w.heap.size w w'
/-- Six cells, as a packet has them. -/
def Px (w : World) (b : Nat) (a1 a2 a3 a4 : Int) (a5 a6 : Bool) : Prop :=
  w.cell? ⟨b, 0, none⟩ = some (.int .i64 a1) ∧ w.cell? ⟨b, 1, none⟩ = some (.int .i64 a2) ∧ w.cell? ⟨b, 2, none⟩ = some (.int .i64 a3) ∧ w.cell? ⟨b, 3, none⟩ = some (.int .i64 a4) ∧ w.cell? ⟨b, 4, none⟩ = some (.bool a5) ∧ w.cell? ⟨b, 5, none⟩ = some (.bool a6) ∧ (∀ j, w.frozen? ⟨b, j, none⟩ = false) ∧ b < w.heap.size
theorem Px.past {w w' : World} {b g : Nat} {a1 a2 a3 a4 : Int} {a5 a6 : Bool} (h : Px w b a1 a2 a3 a4 a5 a6) (hg : b ≠ g) (hp : Past g w.heap.size w w') : Px w' b a1 a2 a3 a4 a5 a6 := by
  obtain ⟨h1, h2, h3, h4, h5, h6, h7, h8⟩ := h
  obtain ⟨k1, k2⟩ := hp.cells
  exact ⟨(k1 _ _ h8 hg).trans h1, (k1 _ _ h8 hg).trans h2, (k1 _ _ h8 hg).trans h3, (k1 _ _ h8 hg).trans h4, (k1 _ _ h8 hg).trans h5, (k1 _ _ h8 hg).trans h6, fun j => (k2 _ _ h8 hg).trans (h7 j), Nat.lt_of_lt_of_le h8 hp.size⟩
theorem Px.made (w : World) (a1 a2 a3 a4 : Int) (a5 a6 : Bool) (t : TypeId) : Px (w.alloc (.cells #[.int .i64 a1, .int .i64 a2, .int .i64 a3, .int .i64 a4, .bool a5, .bool a6] t)) w.heap.size a1 a2 a3 a4 a5 a6 := by
  refine ⟨by simp [go_sem], by simp [go_sem], by simp [go_sem], by simp [go_sem], by simp [go_sem], by simp [go_sem], fun j => by simp [go_sem], by simp⟩
/-- Where the draw of a packet stands, ahead of its own block. -/
structure PSt0 (w : World) (g K : Nat) (wx : World) : Prop where
  R : RdLe wx g K
  P : Past g w.heap.size w wx
  res : ∃ a1 a2 a3 a4 a5 a6, Px wx w.heap.size a1 a2 a3 a4 a5 a6
theorem PSt0.past {w wx w2 : World} {g K K' : Nat} (h : PSt0 w g K wx) (hg : g < w.heap.size) (hp : Past g wx.heap.size wx w2) (hR : RdLe w2 g K') : PSt0 w g K' w2 := by
  obtain ⟨x1, x2, x3, x4, x5, x6, hr⟩ := h.res
  exact ⟨hR, h.P.trans (hp.mono h.P.size), ⟨_, _, _, _, _, _, hr.past (by omega) hp⟩⟩
theorem PSt0.alloc {w wx : World} {g K : Nat} (h : PSt0 w g K wx) (hg : g < w.heap.size) (o : Obj) : PSt0 w g K (wx.alloc o) := h.past hg (Past.of (Ba _ _)) (h.R.alloc _)
/-- And behind it. -/
structure PSt (w : World) (g b K : Nat) (a1 a2 a3 a4 : Int) (a5 a6 : Bool) (wx : World) : Prop where
  s : PSt0 w g K wx
  box : Px wx b a1 a2 a3 a4 a5 a6
theorem PSt.past {w wx w2 : World} {g b K K' : Nat} {a1 a2 a3 a4 : Int} {a5 a6 : Bool} (h : PSt w g b K a1 a2 a3 a4 a5 a6 wx) (hg : g < w.heap.size) (hb : w.heap.size < b) (hp : Past g wx.heap.size wx w2) (hR : RdLe w2 g K') : PSt w g b K' a1 a2 a3 a4 a5 a6 w2 :=
  ⟨h.s.past hg hp hR, h.box.past (by omega) hp⟩
theorem PSt.alloc {w wx : World} {g b K : Nat} {a1 a2 a3 a4 : Int} {a5 a6 : Bool} (h : PSt w g b K a1 a2 a3 a4 a5 a6 wx) (hg : g < w.heap.size) (hb : w.heap.size < b) (o : Obj) : PSt w g b K a1 a2 a3 a4 a5 a6 (wx.alloc o) := h.past hg hb (Past.of (Ba _ _)) (h.s.R.alloc _)
def RP (w : World) (g K : Nat) (wx : World) : Prop := RdLe wx g K ∧ Past g w.heap.size w wx
theorem RP.set {w wx : World} {g K : Nat} {p : Addr} (h1 : g < p.block) (h2 : w.heap.size ≤ p.block) (h : RP w g K wx) (u : Value) : RP w g K (wx.setCell p u) := ⟨h.1.setCell h1 u, h.2.setCell h2 u⟩
theorem pk_fin {w wx : World} {g K : Nat} {a1 a2 a3 a4 : Int} {a5 a6 : Bool} (h : RP w g K wx) : DrawnPk g K w (.returned (.agg #[.int .i64 a1, .int .i64 a2, .int .i64 a3, .int .i64 a4, .bool a5, .bool a6])) wx := ⟨_, _, _, _, _, _, rfl, h.1, h.2⟩
set_option maxRecDepth 100000 in
set_option maxHeartbeats 8000000 in
theorem packet_draw (w : World) (g k : Nat) (h : RdLe w g k) (hk : k ≤ 999000) :
    Calls Try.prog 63 #[.pointer (some ⟨g, 0, none⟩)] w (DrawnPk g (k + 10) w) := by
  have hg := h.lt
  go_enter Try.func63, Try.ntmps63
  go_wp2_with fail
  have hS : PSt0 w g k (w.alloc (.cells #[.int .i64 0, .int .i64 0, .int .i64 0, .int .i64 0, .bool false, .bool false] 30)) := ⟨h.alloc _, Past.of (Ba _ _), ⟨_, _, _, _, _, _, Px.made _ _ _ _ _ _ _ _⟩⟩
  have HS0 := Lib.hid hS
  clear h hS
  refine (pk _ g _ _ HS0.out.R (by omega) (by omega) (by omega)).mono ?_
  rintro e w1 ⟨⟨v1, ⟨vl1, vh1⟩, rfl, hR1, hb1⟩, hs1⟩
  clear hs1
  have HS1 := Lib.hid (HS0.out.past hg hb1 hR1)
  clear hb1 hR1
  clear HS0
  go_wp2_with fail
  refine (pk _ g _ _ HS1.out.R (by omega) (by omega) (by omega)).mono ?_
  rintro e w2 ⟨⟨v2, ⟨vl2, vh2⟩, rfl, hR2, hb2⟩, hs2⟩
  clear hs2
  have HS2 := Lib.hid (HS1.out.past hg hb2 hR2)
  clear hb2 hR2
  clear HS1
  go_wp2_with fail
  refine (pk _ g _ _ HS2.out.R (by omega) (by omega) (by omega)).mono ?_
  rintro e w3 ⟨⟨v3, ⟨vl3, vh3⟩, rfl, hR3, hb3⟩, hs3⟩
  clear hs3
  have HS3 := Lib.hid (HS2.out.past hg hb3 hR3)
  clear hb3 hR3
  clear HS2
  go_wp2_with fail
  refine (pk _ g _ _ HS3.out.R (by omega) (by omega) (by omega)).mono ?_
  rintro e w4 ⟨⟨v4, ⟨vl4, vh4⟩, rfl, hR4, hb4⟩, hs4⟩
  clear hs4
  have HS4 := Lib.hid (HS3.out.past hg hb4 hR4)
  clear hb4 hR4
  clear HS3
  go_wp2_with fail
  refine (pk _ g _ _ HS4.out.R (by omega) (by omega) (by omega)).mono ?_
  rintro e w5 ⟨⟨v5, ⟨vl5, vh5⟩, rfl, hR5, hb5⟩, hs5⟩
  clear hs5
  have HS5 := Lib.hid (HS4.out.past hg hb5 hR5)
  clear hb5 hR5
  clear HS4
  go_wp2_with fail
  refine (pk _ g _ _ HS5.out.R (by omega) (by omega) (by omega)).mono ?_
  rintro e w6 ⟨⟨v6, ⟨vl6, vh6⟩, rfl, hR6, hb6⟩, hs6⟩
  clear hs6
  have HS6 := Lib.hid (HS5.out.past hg hb6 hR6)
  clear hb6 hR6
  clear HS5
  have hz6 : w.heap.size < w6.heap.size := by obtain ⟨x1, x2, x3, x4, x5, x6, hr⟩ := HS6.out.res; exact hr.2.2.2.2.2.2.2
  go_wp2_with fail
  generalize (v5 == 0) = y5
  generalize (v6 == 0) = y6
  generalize v1 * 100 = y1
  generalize 30 * v2 = y2
  generalize v4 * 4 = y40
  generalize 1 + y40 = y4
  have hS : PSt w g w6.heap.size (k + 1 + 1 + 1 + 1 + 1 + 1) y1 y2 v3 y4 y5 y6 _ := ⟨HS6.out.alloc hg _, Px.made w6 y1 y2 v3 y4 y5 y6 30⟩
  generalize w6.alloc (.cells #[.int .i64 y1, .int .i64 y2, .int .i64 v3, .int .i64 y4, .bool y5, .bool y6] 30) = wa at hS ⊢
  have HSa := Lib.hid hS
  clear hS HS6
  generalize w6.heap.size = b at HSa hz6 ⊢
  refine (pk _ g _ _ HSa.out.s.R (by omega) (by omega) (by omega)).mono ?_
  rintro e w7 ⟨⟨v7, ⟨vl7, vh7⟩, rfl, hR7, hb7⟩, hs7⟩
  have HS7 := Lib.hid (HSa.out.past hg hz6 hb7 hR7)
  clear hs7 hb7 hR7 HSa
  by_cases h7_0 : v7 = 0
  · subst h7_0
    have hgw : g < w7.heap.size := HS7.out.s.R.lt
    go_wp2_with fail
    refine (pk _ g _ _ (HS7.out.s.R.alloc _) (by omega) (by omega) (by omega)).mono ?_
    rintro e w8 ⟨⟨v8, ⟨vl8, vh8⟩, rfl, hR8, hb8⟩, hs8⟩
    have HS8 := Lib.hid ((HS7.out.alloc hg hz6 _).past hg hz6 hb8 hR8)
    obtain ⟨R, hL⟩ : ∃ R : Int, w8.cell? ⟨w7.heap.size, v8.toNat, none⟩ = some (.int .i64 R) := by
      rcases (by omega : v8 = 0 ∨ v8 = 1 ∨ v8 = 2) with rfl | rfl | rfl <;> (apply Exists.intro; refine (hb8.cells.1 w7.heap.size _ (by simp) (by omega)).trans ?_; simp [go_sem]; rfl)
    clear hs8 hb8 hR8 HS7
    obtain ⟨r1, r2, r3, r4, r5, r6, p0, p1, p2, p3, p4, p5, pf, pz⟩ := HS8.out.s.res
    obtain ⟨z0, z1, z2, z3, z4, z5, zf, zz⟩ := HS8.out.box
    have hne : w.heap.size ≠ b := by omega
    have hne2 : b ≠ w.heap.size := by omega
    go_wp2_with fail
    refine bodyPost_retE rfl ?_
    apply Exists.intro
    refine ⟨?_, ?_⟩
    · simp only [results, Try.results63]
      go_simp
      first | done | rfl
    go_light
    have hRP : RP w g (k + 10) _ := ⟨HS8.out.s.R.mono (by omega), HS8.out.s.P⟩
    refine pk_fin ?_
    repeat (first | (with_reducible exact hRP) | (with_reducible refine RP.set ?_ ?_ ?_ _; (focus (first | (with_reducible exact hg) | (simp; done) | (simp; omega) | omega)); (focus (first | (with_reducible exact Nat.le_refl _) | (simp; done) | (simp; omega) | omega))))
  have h7b_0 : (v7 == 0) = false := by simpa using h7_0
  by_cases h7_1 : v7 = 1
  · subst h7_1
    have hgw : g < w7.heap.size := HS7.out.s.R.lt
    go_wp2_with fail
    refine (pk _ g _ _ (HS7.out.s.R.alloc _) (by omega) (by omega) (by omega)).mono ?_
    rintro e w8 ⟨⟨v8, ⟨vl8, vh8⟩, rfl, hR8, hb8⟩, hs8⟩
    have HS8 := Lib.hid ((HS7.out.alloc hg hz6 _).past hg hz6 hb8 hR8)
    obtain ⟨R, hL⟩ : ∃ R : Int, w8.cell? ⟨w7.heap.size, v8.toNat, none⟩ = some (.int .i64 R) := by
      rcases (by omega : v8 = 0 ∨ v8 = 1 ∨ v8 = 2) with rfl | rfl | rfl <;> (apply Exists.intro; refine (hb8.cells.1 w7.heap.size _ (by simp) (by omega)).trans ?_; simp [go_sem]; rfl)
    clear hs8 hb8 hR8 HS7
    obtain ⟨r1, r2, r3, r4, r5, r6, p0, p1, p2, p3, p4, p5, pf, pz⟩ := HS8.out.s.res
    obtain ⟨z0, z1, z2, z3, z4, z5, zf, zz⟩ := HS8.out.box
    have hne : w.heap.size ≠ b := by omega
    have hne2 : b ≠ w.heap.size := by omega
    go_wp2_with fail
    refine bodyPost_retE rfl ?_
    apply Exists.intro
    refine ⟨?_, ?_⟩
    · simp only [results, Try.results63]
      go_simp
      first | done | rfl
    go_light
    have hRP : RP w g (k + 10) _ := ⟨HS8.out.s.R.mono (by omega), HS8.out.s.P⟩
    refine pk_fin ?_
    repeat (first | (with_reducible exact hRP) | (with_reducible refine RP.set ?_ ?_ ?_ _; (focus (first | (with_reducible exact hg) | (simp; done) | (simp; omega) | omega)); (focus (first | (with_reducible exact Nat.le_refl _) | (simp; done) | (simp; omega) | omega))))
  have h7b_1 : (v7 == 1) = false := by simpa using h7_1
  by_cases h7_2 : v7 = 2
  · subst h7_2
    have hgw : g < w7.heap.size := HS7.out.s.R.lt
    go_wp2_with fail
    refine (pk _ g _ _ (HS7.out.s.R.alloc _) (by omega) (by omega) (by omega)).mono ?_
    rintro e w8 ⟨⟨v8, ⟨vl8, vh8⟩, rfl, hR8, hb8⟩, hs8⟩
    have HS8 := Lib.hid ((HS7.out.alloc hg hz6 _).past hg hz6 hb8 hR8)
    obtain ⟨R, hL⟩ : ∃ R : Int, w8.cell? ⟨w7.heap.size, v8.toNat, none⟩ = some (.int .i64 R) := by
      rcases (by omega : v8 = 0 ∨ v8 = 1 ∨ v8 = 2) with rfl | rfl | rfl <;> (apply Exists.intro; refine (hb8.cells.1 w7.heap.size _ (by simp) (by omega)).trans ?_; simp [go_sem]; rfl)
    clear hs8 hb8 hR8 HS7
    obtain ⟨r1, r2, r3, r4, r5, r6, p0, p1, p2, p3, p4, p5, pf, pz⟩ := HS8.out.s.res
    obtain ⟨z0, z1, z2, z3, z4, z5, zf, zz⟩ := HS8.out.box
    have hne : w.heap.size ≠ b := by omega
    have hne2 : b ≠ w.heap.size := by omega
    go_wp2_with fail
    refine bodyPost_retE rfl ?_
    apply Exists.intro
    refine ⟨?_, ?_⟩
    · simp only [results, Try.results63]
      go_simp
      first | done | rfl
    go_light
    have hRP : RP w g (k + 10) _ := ⟨HS8.out.s.R.mono (by omega), HS8.out.s.P⟩
    refine pk_fin ?_
    repeat (first | (with_reducible exact hRP) | (with_reducible refine RP.set ?_ ?_ ?_ _; (focus (first | (with_reducible exact hg) | (simp; done) | (simp; omega) | omega)); (focus (first | (with_reducible exact Nat.le_refl _) | (simp; done) | (simp; omega) | omega))))
  have h7b_2 : (v7 == 2) = false := by simpa using h7_2
  by_cases h7_3 : v7 = 3
  · subst h7_3
    have hgw : g < w7.heap.size := HS7.out.s.R.lt
    go_wp2_with fail
    refine (pk _ g _ _ (HS7.out.s.R.alloc _) (by omega) (by omega) (by omega)).mono ?_
    rintro e w8 ⟨⟨v8, ⟨vl8, vh8⟩, rfl, hR8, hb8⟩, hs8⟩
    have HS8 := Lib.hid ((HS7.out.alloc hg hz6 _).past hg hz6 hb8 hR8)
    obtain ⟨R, hL⟩ : ∃ R : Int, w8.cell? ⟨w7.heap.size, v8.toNat, none⟩ = some (.int .i64 R) := by
      rcases (by omega : v8 = 0 ∨ v8 = 1) with rfl | rfl <;> (apply Exists.intro; refine (hb8.cells.1 w7.heap.size _ (by simp) (by omega)).trans ?_; simp [go_sem]; rfl)
    clear hs8 hb8 hR8 HS7
    obtain ⟨r1, r2, r3, r4, r5, r6, p0, p1, p2, p3, p4, p5, pf, pz⟩ := HS8.out.s.res
    obtain ⟨z0, z1, z2, z3, z4, z5, zf, zz⟩ := HS8.out.box
    have hne : w.heap.size ≠ b := by omega
    have hne2 : b ≠ w.heap.size := by omega
    go_wp2_with fail
    refine bodyPost_retE rfl ?_
    apply Exists.intro
    refine ⟨?_, ?_⟩
    · simp only [results, Try.results63]
      go_simp
      first | done | rfl
    go_light
    have hRP : RP w g (k + 10) _ := ⟨HS8.out.s.R.mono (by omega), HS8.out.s.P⟩
    refine pk_fin ?_
    repeat (first | (with_reducible exact hRP) | (with_reducible refine RP.set ?_ ?_ ?_ _; (focus (first | (with_reducible exact hg) | (simp; done) | (simp; omega) | omega)); (focus (first | (with_reducible exact Nat.le_refl _) | (simp; done) | (simp; omega) | omega))))
  have h7b_3 : (v7 == 3) = false := by simpa using h7_3
  obtain ⟨r1, r2, r3, r4, r5, r6, p0, p1, p2, p3, p4, p5, pf, pz⟩ := HS7.out.s.res
  obtain ⟨z0, z1, z2, z3, z4, z5, zf, zz⟩ := HS7.out.box
  have hne : w.heap.size ≠ b := by omega
  have hne2 : b ≠ w.heap.size := by omega
  go_wp2_with fail
  refine bodyPost_retE rfl ?_
  apply Exists.intro
  refine ⟨?_, ?_⟩
  · simp only [results, Try.results63]
    go_simp
    first | done | rfl
  go_light
  have hRP : RP w g (k + 10) _ := ⟨HS7.out.s.R.mono (by omega), HS7.out.s.P⟩
  refine pk_fin ?_
  repeat (first | (with_reducible exact hRP) | (with_reducible refine RP.set ?_ ?_ ?_ _; (focus (first | (with_reducible exact hg) | (simp; done) | (simp; omega) | omega)); (focus (first | (with_reducible exact Nat.le_refl _) | (simp; done) | (simp; omega) | omega))))
end Go.Proofs.Ytegdogamenoaiaa
