/- The draw of a buffer, a packet and a time (printed by gen_bdw.py). -/
import Derived.Test.YtegdogamenoaiaaBdp
import Derived.Test.YtegdogamenoaiaaBpk
namespace Go.Proofs.Ytegdogamenoaiaa
open Go Go.RowKit
set_option linter.unusedVariables false
set_option linter.unusedSimpArgs false
def MadeBP (w : World) (e : Ending) (w' : World) : Prop :=
  ∃ (y d : Int) (A : Option Addr) (n c : Nat) (q : Nat → Hd) (x : Pk) (now : Int), RowAt w' w.heap.size w'.heap.size A n 7 (HdF q) ∧ n ≤ c ∧ n ≤ 14 ∧ e = .returned (.tuple #[.agg #[.int .i64 y, .int .i64 d, .slice A n c], PkV x, .int .i64 now]) ∧ Below w.heap.size w w'
/-- What stays: all below w, and the row. -/
def QE (w : World) (L b : Nat) (A : Option Addr) (n : Nat) (q : Nat → Hd) (wx : World) : Prop := Below w.heap.size w wx ∧ RowAt wx L b A n 7 (HdF q) ∧ b ≤ wx.heap.size ∧ L ≤ b
theorem QE.alloc {w wx : World} {L b n : Nat} {A : Option Addr} {q : Nat → Hd} (h : QE w L b A n q wx) (o : Obj) : QE w L b A n q (wx.alloc o) :=
  ⟨h.1.alloc h.1.size _, h.2.1.alloc h.2.2.1 _, by have := h.2.2.1; simp; omega, h.2.2.2⟩
theorem QE.drew {w wx : World} {L b n : Nat} {A : Option Addr} {q : Nat → Hd} (h : QE w L b A n q wx) : QE w L b A n q wx.drew := ⟨h.1.drew, h.2.1.drew, h.2.2⟩
theorem QE.set {w wx : World} {L b n : Nat} {A : Option Addr} {q : Nat → Hd} {p : Addr} (h1 : w.heap.size ≤ p.block) (h2 : p.block < L) (h : QE w L b A n q wx) (u : Value) : QE w L b A n q (wx.setCell p u) :=
  ⟨h.1.setCell h1 _, h.2.1.setC (Or.inl h2) _, by simpa [World.setCell] using h.2.2.1, h.2.2.2⟩
theorem QE.past {w wx w2 : World} {L b n g : Nat} {A : Option Addr} {q : Nat → Hd} (h : QE w L b A n q wx) (hw : w.heap.size ≤ g) (hg : g < L) (hp : Past g wx.heap.size wx w2) : QE w L b A n q w2 :=
  ⟨h.1.trans ((hp.mono h.1.size).below hw), RowAt.past hg h.2.2.1 h.2.1 hp, Nat.le_trans h.2.2.1 hp.size, h.2.2.2⟩
theorem qe_end {w wx : World} {L b n c : Nat} {y d now a1 a2 a3 a4 : Int} {a5 a6 : Bool} {A : Option Addr} {q : Nat → Hd} (hw : w.heap.size ≤ L) (hn : n ≤ c) (hm : n ≤ 14) (h : QE w L b A n q wx) :
    MadeBP w (.returned (.tuple #[.agg #[.int .i64 y, .int .i64 d, .slice A n c], .agg #[.int .i64 a1, .int .i64 a2, .int .i64 a3, .int .i64 a4, .bool a5, .bool a6], .int .i64 now])) wx :=
  ⟨y, d, A, n, c, q, ⟨a1, a2, a3, a4, a5, a6⟩, now, h.2.1.wide hw h.2.2.1, hn, hm, rfl, h.1⟩
theorem qe_end' {w wx : World} {L b n c : Nat} {y d a1 a2 a3 a4 : Int} {a5 a6 : Bool} {A : Option Addr} {q : Nat → Hd} {u : Value} (hw : w.heap.size ≤ L) (hn : n ≤ c) (hm : n ≤ 14) (hu : ∃ now, u = .int .i64 now) (h : QE w L b A n q wx) :
    MadeBP w (.returned (.tuple #[.agg #[.int .i64 y, .int .i64 d, .slice A n c], .agg #[.int .i64 a1, .int .i64 a2, .int .i64 a3, .int .i64 a4, .bool a5, .bool a6], u])) wx := by
  obtain ⟨now, rfl⟩ := hu
  exact qe_end hw hn hm h
theorem Exc.both {X : Nat → Prop} {w w' : World} (hs : w'.heap.size = w.heap.size) (h : Exc X w w') (o : Obj) : Exc X (w.alloc o) (w'.alloc o) := by
  refine ⟨h.os, h.tape, h.output, by simp [hs], fun k hk hx => ?_⟩
  simp only [World.alloc] at hk ⊢
  rw [Array.size_push] at hk
  rw [Array.getElem?_push, Array.getElem?_push, hs]
  by_cases e : k = w.heap.size
  · rw [if_pos e, if_pos e]
  · rw [if_neg e, if_neg e]; exact h.block k (by omega) hx
/-- Where the draw stands. -/
structure QSt (w : World) (g L b K : Nat) (y d : Int) (A : Option Addr) (n c : Nat) (q : Nat → Hd) (wx : World) : Prop where
  R : RdLe wx g K
  r1 : Bx wx w.heap.size 0 0 none 0 0
  r2 : Px wx (w.heap.size + 1) 0 0 0 0 false false
  box : Bx wx b y d A n c
  Q : QE w L b A n q wx
theorem QSt.past {w wx w2 : World} {g L b K K' : Nat} {y d : Int} {A : Option Addr} {n c : Nat} {q : Nat → Hd} (h : QSt w g L b K y d A n c q wx) (hw : w.heap.size + 1 < g) (hg : g < L) (hp : Past g wx.heap.size wx w2) (hR : RdLe w2 g K') : QSt w g L b K' y d A n c q w2 :=
  ⟨hR, h.r1.past (by omega) hp, h.r2.past (by omega) hp, h.box.past (by have := h.Q.2.2.2; omega) hp, h.Q.past (by omega) hg hp⟩
set_option maxRecDepth 100000 in
set_option maxHeartbeats 8000000 in
theorem draw_bput (w : World) (A : Option Addr) (n c : Nat) (h : IsInts .u8 w A n c) (hn : n ≤ 1048576) :
    Calls Try.prog 39 #[.slice A n c] w (MadeBP w) := by
  have H := Lib.hid h
  clear h
  go_enter Try.func39, Try.ntmps39
  go_wp2_with fail
  refine (open_any _ A n c (H.out.below (by repeat (first | (with_reducible exact Below.refl _ _) | (with_reducible refine Bal ?_ _) | (with_reducible refine Below.drew ?_) | (with_reducible refine below_drewN ?_ _) | (with_reducible refine Bset ?_ ?_ _; focus (first | (with_reducible exact Nat.le_refl _) | (simp; done) | (simp; omega) | omega)) | (with_reducible refine Bt ?_ (by assumption)) | (with_reducible refine Bp (g := g) ?_ (by assumption) (by assumption))))) hn).mono ?_
  rintro e w0 ⟨g, rfl, hgo, hR0, hb0⟩
  obtain ⟨hc0, hf0⟩ := bcell hb0
  have hy0 := hb0.size
  try simp at hy0
  try simp at hgo
  have hgo2 : w.heap.size ≤ g := by omega
  have hgl := hR0.lt
  have hg0_0 := fun o => hc0 (w.heap.size) o (by first | (simp; done) | (simp; omega) | omega)
  have hk0_0 := fun o => hf0 (w.heap.size) o (by first | (simp; done) | (simp; omega) | omega)
  try simp [go_sem] at hg0_0
  try simp [go_sem] at hk0_0
  have hg0_1 := fun o => hc0 (w.heap.size + 1) o (by first | (simp; done) | (simp; omega) | omega)
  have hk0_1 := fun o => hf0 (w.heap.size + 1) o (by first | (simp; done) | (simp; omega) | omega)
  try simp [go_sem] at hg0_1
  try simp [go_sem] at hk0_1
  have hgw : w.heap.size + 1 < g := by omega
  have hB0 : Below w.heap.size w w0 := by repeat (first | (with_reducible exact Below.refl _ _) | (with_reducible refine Bal ?_ _) | (with_reducible refine Below.drew ?_) | (with_reducible refine below_drewN ?_ _) | (with_reducible refine Bset ?_ ?_ _; focus (first | (with_reducible exact Nat.le_refl _) | (simp; done) | (simp; omega) | omega)) | (with_reducible refine Bt ?_ (by assumption)) | (with_reducible refine Bp (g := g) ?_ (by assumption) (by assumption)))
  have hS0 : Bx w0 w.heap.size 0 0 none 0 0 ∧ Px w0 (w.heap.size + 1) 0 0 0 0 false false := by
    refine ⟨⟨by rw [hg0_0]; rfl, by rw [hg0_0]; rfl, by rw [hg0_0]; rfl, fun j => hk0_0 j, by omega⟩, ⟨by rw [hg0_1]; rfl, by rw [hg0_1]; rfl, by rw [hg0_1]; rfl, by rw [hg0_1]; rfl, by rw [hg0_1]; rfl, by rw [hg0_1]; rfl, fun j => hk0_1 j, by omega⟩⟩
  have HS0 := Lib.hid hS0
  have HB0 := Lib.hid hB0
  clear hS0 hB0 hb0 hc0 hf0 hg0_0 hk0_0 hg0_1 hk0_1
  go_wp2_with fail
  refine (buffer_draw _ g 0 (by repeat (first | assumption | (with_reducible refine RdLe.drew ?_) | (with_reducible refine RdLe.drewN ?_ _) | (with_reducible refine RdLe.alloc ?_ _) | (with_reducible refine RdLe.setC ?_ ?_ _; focus (first | (simp; done) | (simp; omega) | omega)))) (by omega)).mono ?_
  rintro e w1 ⟨y, d, now, A1, m, c1, q, rfl, hr1, hmc, hm, hR1, hb1⟩
  have hz1 := hb1.size
  have hQ1 : QE w w0.heap.size w1.heap.size A1 m q w1 := ⟨HB0.out.trans ((hb1.mono (B' := w.heap.size) (by omega)).below (by omega)), hr1, Nat.le_refl _, hz1⟩
  have hS1 : Bx w1 w.heap.size 0 0 none 0 0 ∧ Px w1 (w.heap.size + 1) 0 0 0 0 false false := ⟨HS0.out.1.past (by omega) hb1, HS0.out.2.past (by omega) hb1⟩
  have HQ1 := Lib.hid hQ1
  have HS1 := Lib.hid hS1
  have HR1 := Lib.hid hR1
  clear hQ1 hS1 hR1 hb1 hr1 HS0 HB0
  go_upto_region 3 with fail
  have hS2 : QSt w g w0.heap.size w1.heap.size (0 + 100) y d A1 m c1 q (w1.alloc (.cells #[.int .i64 y, .int .i64 d, .slice A1 m c1] 28)) :=
    ⟨HR1.out.alloc _, HS1.out.1.past (g := g) (by omega) (Past.of (Ba _ _)), HS1.out.2.past (g := g) (by omega) (Past.of (Ba _ _)), ⟨by simp [go_sem], by simp [go_sem], by simp [go_sem], fun j => by simp [go_sem], by simp⟩, HQ1.out.alloc _⟩
  generalize w1.alloc (.cells #[.int .i64 y, .int .i64 d, .slice A1 m c1] 28) = wb at hS2 ⊢
  have HS2 := Lib.hid hS2
  have hb1w : w0.heap.size ≤ w1.heap.size := hz1
  clear hS2 HR1 HS1 HQ1
  generalize hL : w0.heap.size = L at *
  generalize w1.heap.size = b at *
  have hgL : g < L := by omega
  go_wp2_with fail
  refine (pk _ g _ _ HS2.out.R (by omega) (by omega) (by omega)).mono ?_
  rintro e w2 ⟨⟨v2, ⟨vl2, vh2⟩, rfl, hR2, hb2⟩, hs2⟩
  have HS3 := Lib.hid (HS2.out.past hgw hgL hb2 hR2)
  clear hs2 hb2 hR2 HS2 hL
  obtain ⟨p0, p1, p2, p3, p4⟩ := HS3.out.r1
  obtain ⟨s0, s1, s2, s3, s4, s5, s6, s7⟩ := HS3.out.r2
  obtain ⟨z0, z1, z2, z3, z4⟩ := HS3.out.box
  have hbn : ¬ b = g := by omega
  have hbw : ¬ b = w.heap.size := by omega
  have hbw1 : ¬ b = w.heap.size + 1 := by omega
  have hgx : ¬ w.heap.size = g := by omega
  have hgx1 : ¬ w.heap.size + 1 = g := by omega
  have hw2g : ¬ w2.heap.size = g := by have := HS3.out.R.lt; omega
  have hgw2 : g < w2.heap.size := HS3.out.R.lt
  have hw2a : ¬ w2.heap.size = w.heap.size := by omega
  have hw2b : ¬ w2.heap.size = w.heap.size + 1 := by omega
  have hQ2 := Lib.hid HS3.out.Q
  have hR2 := HS3.out.R
  have hgd : ∀ W : World, W.drew.heap.size = W.heap.size := fun _ => rfl
  by_cases h0 : v2 = 0
  · subst h0
    go_upto_region 4 with fail
    refine wp_region_anyR (R := fun a b => Exc (fun k => k = g ∨ k = w.heap.size ∨ k = w.heap.size + 1) a b) (by kernel_rfl) (fun w => Exc.refl _ _) (fun _ _ _ h k => Exc.trans h k) (by kernel_rfl) ?_
    simp only [List.size_toArray, List.length_cons, List.length_nil, Nat.zero_add, Nat.reduceAdd]
    refine any_read 0 (by decide +kernel) rfl rfl rfl ?_; apply Exists.intro; refine ⟨fun w' hb' => ?_, ?_⟩; (focus (obtain ⟨hc', hf'⟩ := exc_cells hb'; clear hb'; go_simp; try exact rfl)); have e0 : True := trivial; clear e0; refine any_putK ?_; intro K hK; go_simp; refine hK _ ?_; clear hK K
    refine any_pure 1 (by decide +kernel) rfl rfl ?_; apply Exists.intro; refine ⟨fun w' => ?_, ?_⟩; (focus (first | (fail) | (go_simp; try exact rfl))); have e0 : True := trivial; clear e0; refine any_putK ?_; intro K hK; go_simp; refine hK _ ?_; clear hK K
    refine any_pure 3 (by decide +kernel) rfl rfl ?_; apply Exists.intro; refine ⟨fun w' => ?_, ?_⟩; (focus (first | (fail) | (go_simp; try exact rfl))); have e0 : True := trivial; clear e0; refine any_putK ?_; intro K hK; go_simp; refine hK _ ?_; clear hK K
    refine any_pure 5 (by decide +kernel) rfl rfl ?_; apply Exists.intro; refine ⟨fun w' => ?_, ?_⟩; (focus (first | (fail) | (go_simp; try exact rfl))); have e0 : True := trivial; clear e0; refine any_putK ?_; intro K hK; go_simp; refine hK _ ?_; clear hK K
    refine any_branch (by decide +kernel) ?_
    simp only [List.size_toArray, List.length_cons, List.length_nil, Nat.zero_add, Nat.reduceAdd]
    repeat' (first | exact lt_zero | refine lt_succ ?_ ?_ | exact any_none (by decide +kernel) | fail)
    · refine any_one rfl rfl rfl ?_
      go_wp2_with (fail)
      refine then_any rfl ?_ ?_; focus (first | (intro h; have h2 : false = true := h; cases h2) | (intro _; show Exc _ _ _; first | (with_reducible assumption) | (first | (with_reducible refine Exc.both ?_ ?_ _; (focus (simp [World.setCell])); repeat (first | (with_reducible exact Exc.refl _ _) | (with_reducible refine Exc.setC ?_ ?_ _; focus (simp)))) | exact Exc.of_past (Or.inl rfl) (by with_reducible assumption) | (repeat (first | (with_reducible exact Exc.refl _ _) | (with_reducible exact exc_undrew _ _) | (with_reducible refine Exc.drew ?_) | (with_reducible refine Exc.alloc ?_ _) | (with_reducible refine Exc.setC ?_ ?_ _; focus (simp)))))))
      refine any_branch (by decide +kernel) ?_
      simp only [List.size_toArray, List.length_cons, List.length_nil, Nat.zero_add, Nat.reduceAdd]
      repeat' (first | exact lt_zero | refine lt_succ ?_ ?_ | exact any_none (by decide +kernel) | fail)
      · refine any_one rfl rfl rfl ?_
        go_wp2_with ((go_at_call 63; refine (packet_draw _ g (0 + 100 + 1) (by repeat (first | assumption | (with_reducible refine RdLe.drew ?_) | (with_reducible refine RdLe.drewN ?_ _) | (with_reducible refine RdLe.alloc ?_ _) | (with_reducible refine RdLe.setC ?_ ?_ _; focus (first | (simp; done) | (simp; omega) | omega)))) (by omega)).mono ?_; rintro e wp1 ⟨a1, a2, a3, a4, a5, a6, rfl, hRp1, hbp1⟩; have hzp1 := hbp1.size; (try simp at hzp1); have hP1 : Past g w2.heap.size w2 wp1 := (by repeat (first | (with_reducible exact Past.refl _ _ _) | (with_reducible refine Past.alloc ?_ (by simp) _) | (with_reducible refine Past.drew ?_) | (with_reducible refine Past.drewN ?_ _) | (with_reducible refine Past.setC ?_ ?_ _; focus (first | (with_reducible exact Nat.le_refl _) | (simp; done) | (simp; omega) | omega)) | (with_reducible refine Past.step ?_ (by simp) (by assumption)))); have c1_0 := fun o => hP1.cells.1 (w.heap.size) o p4 hgx; have f1_0 := fun o => hP1.cells.2 (w.heap.size) o p4 hgx; have l1_0 : w.heap.size < wp1.heap.size := Nat.lt_of_lt_of_le p4 hP1.size; have c1_1 := fun o => hP1.cells.1 (w.heap.size + 1) o s7 hgx1; have f1_1 := fun o => hP1.cells.2 (w.heap.size + 1) o s7 hgx1; have l1_1 : w.heap.size + 1 < wp1.heap.size := Nat.lt_of_lt_of_le s7 hP1.size; have c1_2 := fun o => hP1.cells.1 (b) o z4 hbn; have f1_2 := fun o => hP1.cells.2 (b) o z4 hbn; have l1_2 : b < wp1.heap.size := Nat.lt_of_lt_of_le z4 hP1.size; have ng1 : ¬ wp1.heap.size = g := (by have := hRp1.lt; omega); have na1 : ¬ wp1.heap.size = w.heap.size := (by omega); have nb1 : ¬ wp1.heap.size = w.heap.size + 1 := (by omega); have nr1 : g < wp1.heap.size := hRp1.lt; have HQ1 := Lib.hid (hQ2.out.past (by omega) hgL hP1); have HP1 := Lib.hid hP1; clear hP1; (try (have t1_a := (past_cells hbp1 (w2.heap.size) (by first | omega | (simp; done)) hw2g (f := fun o => ([.int .i64 (-1), .int .i64 now, .int .i64 100000] : List Value)[o]?) (fun o => by simp [go_sem]) (fun o => by simp [go_sem])); obtain ⟨gl1_a, fl1_a⟩ := t1_a; have ml1_a : w2.heap.size < wp1.heap.size := (by omega)))))
        refine then_any rfl ?_ ?_; focus (first | (intro h; have h2 : false = true := h; cases h2) | (intro _; show Exc _ _ _; first | (with_reducible assumption) | (first | (with_reducible refine Exc.both ?_ ?_ _; (focus (simp [World.setCell])); repeat (first | (with_reducible exact Exc.refl _ _) | (with_reducible refine Exc.setC ?_ ?_ _; focus (simp)))) | exact Exc.of_past (Or.inl rfl) (by with_reducible assumption) | (repeat (first | (with_reducible exact Exc.refl _ _) | (with_reducible exact exc_undrew _ _) | (with_reducible refine Exc.drew ?_) | (with_reducible refine Exc.alloc ?_ _) | (with_reducible refine Exc.setC ?_ ?_ _; focus (simp)))))))
        refine any_branch (by decide +kernel) ?_
        simp only [List.size_toArray, List.length_cons, List.length_nil, Nat.zero_add, Nat.reduceAdd]
        repeat' (first | exact lt_zero | refine lt_succ ?_ ?_ | exact any_none (by decide +kernel) | fail)
        · refine any_one rfl rfl rfl ?_
          go_wp2_with ((go_at_call 62; refine (pk _ g ((0 + 100 + 1) + 10) _ (by repeat (first | assumption | (with_reducible refine RdLe.drew ?_) | (with_reducible refine RdLe.drewN ?_ _) | (with_reducible refine RdLe.alloc ?_ _) | (with_reducible refine RdLe.setC ?_ ?_ _; focus (first | (simp; done) | (simp; omega) | omega)))) (by omega) (by omega) (by omega)).mono ?_; rintro e wp2 ⟨⟨vp2, ⟨vlp2, vhp2⟩, rfl, hRp2, hbp2⟩, hsp2⟩; clear hsp2; have hzp2 := hbp2.size; (try simp at hzp2); have hP2 : Past g w2.heap.size w2 wp2 := (by repeat (first | (with_reducible exact Past.refl _ _ _) | (with_reducible refine Past.alloc ?_ (by simp) _) | (with_reducible refine Past.drew ?_) | (with_reducible refine Past.drewN ?_ _) | (with_reducible refine Past.setC ?_ ?_ _; focus (first | (with_reducible exact Nat.le_refl _) | (simp; done) | (simp; omega) | omega)) | (with_reducible refine Past.step ?_ (by simp) (by assumption)))); have c2_0 := fun o => hP2.cells.1 (w.heap.size) o p4 hgx; have f2_0 := fun o => hP2.cells.2 (w.heap.size) o p4 hgx; have l2_0 : w.heap.size < wp2.heap.size := Nat.lt_of_lt_of_le p4 hP2.size; have c2_1 := fun o => hP2.cells.1 (w.heap.size + 1) o s7 hgx1; have f2_1 := fun o => hP2.cells.2 (w.heap.size + 1) o s7 hgx1; have l2_1 : w.heap.size + 1 < wp2.heap.size := Nat.lt_of_lt_of_le s7 hP2.size; have c2_2 := fun o => hP2.cells.1 (b) o z4 hbn; have f2_2 := fun o => hP2.cells.2 (b) o z4 hbn; have l2_2 : b < wp2.heap.size := Nat.lt_of_lt_of_le z4 hP2.size; have ng2 : ¬ wp2.heap.size = g := (by have := hRp2.lt; omega); have na2 : ¬ wp2.heap.size = w.heap.size := (by omega); have nb2 : ¬ wp2.heap.size = w.heap.size + 1 := (by omega); have nr2 : g < wp2.heap.size := hRp2.lt; have HQ2 := Lib.hid (hQ2.out.past (by omega) hgL hP2); have HP2 := Lib.hid hP2; clear hP2; (try (have t2_a := (past_cells hbp2 (w2.heap.size) (by first | omega | (simp; done)) hw2g (f := fun o => ([.int .i64 (-1), .int .i64 now, .int .i64 100000] : List Value)[o]?) gl1_a fl1_a); obtain ⟨gl2_a, fl2_a⟩ := t2_a; have ml2_a : w2.heap.size < wp2.heap.size := (by omega))); (try (have t2_b := (past_cells hbp2 (wp1.heap.size) (by first | omega | (simp; done)) ng1 (f := fun o => ([.int .i64 (-1), .int .i64 now, .int .i64 100000] : List Value)[o]?) (fun o => by simp [go_sem]) (fun o => by simp [go_sem])); obtain ⟨gl2_b, fl2_b⟩ := t2_b; have ml2_b : wp1.heap.size < wp2.heap.size := (by omega)))))
          refine then_any rfl ?_ ?_; focus (first | (intro h; have h2 : false = true := h; cases h2) | (intro _; show Exc _ _ _; first | (with_reducible assumption) | (first | (with_reducible refine Exc.both ?_ ?_ _; (focus (simp [World.setCell])); repeat (first | (with_reducible exact Exc.refl _ _) | (with_reducible refine Exc.setC ?_ ?_ _; focus (simp)))) | exact Exc.of_past (Or.inl rfl) (by with_reducible assumption) | (repeat (first | (with_reducible exact Exc.refl _ _) | (with_reducible exact exc_undrew _ _) | (with_reducible refine Exc.drew ?_) | (with_reducible refine Exc.alloc ?_ _) | (with_reducible refine Exc.setC ?_ ?_ _; focus (simp)))))))
          refine any_pure 7 (by decide +kernel) rfl rfl ?_; apply Exists.intro; refine ⟨fun w' => ?_, ?_⟩; (focus (first | (fail) | (go_simp; try exact rfl))); have e0 : True := trivial; clear e0; refine any_putK ?_; intro K hK; go_simp; refine hK _ ?_; clear hK K
          refine any_read 8 (by decide +kernel) rfl rfl rfl ?_; apply Exists.intro; refine ⟨fun w' hb' => ?_, ?_⟩; (focus (obtain ⟨hc', hf'⟩ := exc_cells hb'; clear hb'; go_simp; try exact rfl)); have e0 : True := trivial; clear e0; refine any_putK ?_; intro K hK; go_simp; refine hK _ ?_; clear hK K
          refine any_branch (by decide +kernel) ?_
          simp only [List.size_toArray, List.length_cons, List.length_nil, Nat.zero_add, Nat.reduceAdd]
          repeat' (first | exact lt_zero | refine lt_succ ?_ ?_ | exact any_none (by decide +kernel) | fail)
          · refine any_one rfl rfl rfl ?_
            go_wp2_with (fail)
            refine then_any rfl ?_ ?_; focus (first | (intro h; have h2 : false = true := h; cases h2) | (intro _; show Exc _ _ _; first | (with_reducible assumption) | (first | (with_reducible refine Exc.both ?_ ?_ _; (focus (simp [World.setCell])); repeat (first | (with_reducible exact Exc.refl _ _) | (with_reducible refine Exc.setC ?_ ?_ _; focus (simp)))) | exact Exc.of_past (Or.inl rfl) (by with_reducible assumption) | (repeat (first | (with_reducible exact Exc.refl _ _) | (with_reducible exact exc_undrew _ _) | (with_reducible refine Exc.drew ?_) | (with_reducible refine Exc.alloc ?_ _) | (with_reducible refine Exc.setC ?_ ?_ _; focus (simp)))))))
            refine any_branch (by decide +kernel) ?_
            simp only [List.size_toArray, List.length_cons, List.length_nil, Nat.zero_add, Nat.reduceAdd]
            repeat' (first | exact lt_zero | refine lt_succ ?_ ?_ | exact any_none (by decide +kernel) | fail)
            · refine any_one rfl rfl rfl ?_
              go_wp2_with (fail)
              refine then_any rfl ?_ ?_; focus (first | (intro h; have h2 : false = true := h; cases h2) | (intro _; show Exc _ _ _; first | (with_reducible assumption) | (first | (with_reducible refine Exc.both ?_ ?_ _; (focus (simp [World.setCell])); repeat (first | (with_reducible exact Exc.refl _ _) | (with_reducible refine Exc.setC ?_ ?_ _; focus (simp)))) | exact Exc.of_past (Or.inl rfl) (by with_reducible assumption) | (repeat (first | (with_reducible exact Exc.refl _ _) | (with_reducible exact exc_undrew _ _) | (with_reducible refine Exc.drew ?_) | (with_reducible refine Exc.alloc ?_ _) | (with_reducible refine Exc.setC ?_ ?_ _; focus (simp)))))))
              refine any_pure 11 (by decide +kernel) rfl rfl ?_; apply Exists.intro; refine ⟨fun w' => ?_, ?_⟩; (focus (first | (fail) | (go_simp; try exact rfl))); have e0 : True := trivial; clear e0; refine any_putK ?_; intro K hK; go_simp; refine hK _ ?_; clear hK K
              refine any_end (by decide +kernel) ?_
              go_wp2_with fail
              refine bodyPost_retE rfl ?_
              apply Exists.intro
              refine ⟨?_, ?_⟩
              · simp only [results, Try.results39]
                go_simp
                first | done | rfl
              go_light
              refine qe_end' (w := w) (L := L) (b := b) (q := q) (by omega) hmc hm (by first | exact ⟨_, rfl⟩ | (rcases (by omega : vp2 = 0 ∨ vp2 = 1 ∨ vp2 = 2) with rfl | rfl | rfl <;> exact ⟨_, rfl⟩)) ?_
              repeat (first | (with_reducible exact HQ2.out) | (with_reducible refine QE.alloc ?_ _) | (with_reducible refine QE.drew ?_) | (with_reducible refine QE.set ?_ ?_ ?_ _; (focus (first | (with_reducible exact Nat.le_refl _) | (simp; done) | (simp; omega) | omega)); (focus (first | (simp; done) | (simp; omega) | omega))))
    · refine any_one rfl rfl rfl ?_
      go_wp2_with ((go_at_call 63; refine (packet_draw _ g (0 + 100 + 1) (by repeat (first | assumption | (with_reducible refine RdLe.drew ?_) | (with_reducible refine RdLe.drewN ?_ _) | (with_reducible refine RdLe.alloc ?_ _) | (with_reducible refine RdLe.setC ?_ ?_ _; focus (first | (simp; done) | (simp; omega) | omega)))) (by omega)).mono ?_; rintro e wp1 ⟨a1, a2, a3, a4, a5, a6, rfl, hRp1, hbp1⟩; have hzp1 := hbp1.size; (try simp at hzp1); have hP1 : Past g w2.heap.size w2 wp1 := (by repeat (first | (with_reducible exact Past.refl _ _ _) | (with_reducible refine Past.alloc ?_ (by simp) _) | (with_reducible refine Past.drew ?_) | (with_reducible refine Past.drewN ?_ _) | (with_reducible refine Past.setC ?_ ?_ _; focus (first | (with_reducible exact Nat.le_refl _) | (simp; done) | (simp; omega) | omega)) | (with_reducible refine Past.step ?_ (by simp) (by assumption)))); have c1_0 := fun o => hP1.cells.1 (w.heap.size) o p4 hgx; have f1_0 := fun o => hP1.cells.2 (w.heap.size) o p4 hgx; have l1_0 : w.heap.size < wp1.heap.size := Nat.lt_of_lt_of_le p4 hP1.size; have c1_1 := fun o => hP1.cells.1 (w.heap.size + 1) o s7 hgx1; have f1_1 := fun o => hP1.cells.2 (w.heap.size + 1) o s7 hgx1; have l1_1 : w.heap.size + 1 < wp1.heap.size := Nat.lt_of_lt_of_le s7 hP1.size; have c1_2 := fun o => hP1.cells.1 (b) o z4 hbn; have f1_2 := fun o => hP1.cells.2 (b) o z4 hbn; have l1_2 : b < wp1.heap.size := Nat.lt_of_lt_of_le z4 hP1.size; have ng1 : ¬ wp1.heap.size = g := (by have := hRp1.lt; omega); have na1 : ¬ wp1.heap.size = w.heap.size := (by omega); have nb1 : ¬ wp1.heap.size = w.heap.size + 1 := (by omega); have nr1 : g < wp1.heap.size := hRp1.lt; have HQ1 := Lib.hid (hQ2.out.past (by omega) hgL hP1); have HP1 := Lib.hid hP1; clear hP1; (try (have t1_a := (past_cells hbp1 (w2.heap.size) (by first | omega | (simp; done)) hw2g (f := fun o => ([.int .i64 (-1), .int .i64 now, .int .i64 100000] : List Value)[o]?) (fun o => by simp [go_sem]) (fun o => by simp [go_sem])); obtain ⟨gl1_a, fl1_a⟩ := t1_a; have ml1_a : w2.heap.size < wp1.heap.size := (by omega)))))
      refine then_any rfl ?_ ?_; focus (first | (intro h; have h2 : false = true := h; cases h2) | (intro _; show Exc _ _ _; first | (with_reducible assumption) | (first | (with_reducible refine Exc.both ?_ ?_ _; (focus (simp [World.setCell])); repeat (first | (with_reducible exact Exc.refl _ _) | (with_reducible refine Exc.setC ?_ ?_ _; focus (simp)))) | exact Exc.of_past (Or.inl rfl) (by with_reducible assumption) | (repeat (first | (with_reducible exact Exc.refl _ _) | (with_reducible exact exc_undrew _ _) | (with_reducible refine Exc.drew ?_) | (with_reducible refine Exc.alloc ?_ _) | (with_reducible refine Exc.setC ?_ ?_ _; focus (simp)))))))
      refine any_branch (by decide +kernel) ?_
      simp only [List.size_toArray, List.length_cons, List.length_nil, Nat.zero_add, Nat.reduceAdd]
      repeat' (first | exact lt_zero | refine lt_succ ?_ ?_ | exact any_none (by decide +kernel) | fail)
      · refine any_one rfl rfl rfl ?_
        go_wp2_with ((go_at_call 62; refine (pk _ g ((0 + 100 + 1) + 10) _ (by repeat (first | assumption | (with_reducible refine RdLe.drew ?_) | (with_reducible refine RdLe.drewN ?_ _) | (with_reducible refine RdLe.alloc ?_ _) | (with_reducible refine RdLe.setC ?_ ?_ _; focus (first | (simp; done) | (simp; omega) | omega)))) (by omega) (by omega) (by omega)).mono ?_; rintro e wp2 ⟨⟨vp2, ⟨vlp2, vhp2⟩, rfl, hRp2, hbp2⟩, hsp2⟩; clear hsp2; have hzp2 := hbp2.size; (try simp at hzp2); have hP2 : Past g w2.heap.size w2 wp2 := (by repeat (first | (with_reducible exact Past.refl _ _ _) | (with_reducible refine Past.alloc ?_ (by simp) _) | (with_reducible refine Past.drew ?_) | (with_reducible refine Past.drewN ?_ _) | (with_reducible refine Past.setC ?_ ?_ _; focus (first | (with_reducible exact Nat.le_refl _) | (simp; done) | (simp; omega) | omega)) | (with_reducible refine Past.step ?_ (by simp) (by assumption)))); have c2_0 := fun o => hP2.cells.1 (w.heap.size) o p4 hgx; have f2_0 := fun o => hP2.cells.2 (w.heap.size) o p4 hgx; have l2_0 : w.heap.size < wp2.heap.size := Nat.lt_of_lt_of_le p4 hP2.size; have c2_1 := fun o => hP2.cells.1 (w.heap.size + 1) o s7 hgx1; have f2_1 := fun o => hP2.cells.2 (w.heap.size + 1) o s7 hgx1; have l2_1 : w.heap.size + 1 < wp2.heap.size := Nat.lt_of_lt_of_le s7 hP2.size; have c2_2 := fun o => hP2.cells.1 (b) o z4 hbn; have f2_2 := fun o => hP2.cells.2 (b) o z4 hbn; have l2_2 : b < wp2.heap.size := Nat.lt_of_lt_of_le z4 hP2.size; have ng2 : ¬ wp2.heap.size = g := (by have := hRp2.lt; omega); have na2 : ¬ wp2.heap.size = w.heap.size := (by omega); have nb2 : ¬ wp2.heap.size = w.heap.size + 1 := (by omega); have nr2 : g < wp2.heap.size := hRp2.lt; have HQ2 := Lib.hid (hQ2.out.past (by omega) hgL hP2); have HP2 := Lib.hid hP2; clear hP2; (try (have t2_a := (past_cells hbp2 (w2.heap.size) (by first | omega | (simp; done)) hw2g (f := fun o => ([.int .i64 (-1), .int .i64 now, .int .i64 100000] : List Value)[o]?) gl1_a fl1_a); obtain ⟨gl2_a, fl2_a⟩ := t2_a; have ml2_a : w2.heap.size < wp2.heap.size := (by omega))); (try (have t2_b := (past_cells hbp2 (wp1.heap.size) (by first | omega | (simp; done)) ng1 (f := fun o => ([.int .i64 (-1), .int .i64 now, .int .i64 100000] : List Value)[o]?) (fun o => by simp [go_sem]) (fun o => by simp [go_sem])); obtain ⟨gl2_b, fl2_b⟩ := t2_b; have ml2_b : wp1.heap.size < wp2.heap.size := (by omega)))))
        refine then_any rfl ?_ ?_; focus (first | (intro h; have h2 : false = true := h; cases h2) | (intro _; show Exc _ _ _; first | (with_reducible assumption) | (first | (with_reducible refine Exc.both ?_ ?_ _; (focus (simp [World.setCell])); repeat (first | (with_reducible exact Exc.refl _ _) | (with_reducible refine Exc.setC ?_ ?_ _; focus (simp)))) | exact Exc.of_past (Or.inl rfl) (by with_reducible assumption) | (repeat (first | (with_reducible exact Exc.refl _ _) | (with_reducible exact exc_undrew _ _) | (with_reducible refine Exc.drew ?_) | (with_reducible refine Exc.alloc ?_ _) | (with_reducible refine Exc.setC ?_ ?_ _; focus (simp)))))))
        refine any_branch (by decide +kernel) ?_
        simp only [List.size_toArray, List.length_cons, List.length_nil, Nat.zero_add, Nat.reduceAdd]
        repeat' (first | exact lt_zero | refine lt_succ ?_ ?_ | exact any_none (by decide +kernel) | fail)
        · refine any_one rfl rfl rfl ?_
          go_wp2_with (fail)
          refine then_any rfl ?_ ?_; focus (first | (intro h; have h2 : false = true := h; cases h2) | (intro _; show Exc _ _ _; first | (with_reducible assumption) | (first | (with_reducible refine Exc.both ?_ ?_ _; (focus (simp [World.setCell])); repeat (first | (with_reducible exact Exc.refl _ _) | (with_reducible refine Exc.setC ?_ ?_ _; focus (simp)))) | exact Exc.of_past (Or.inl rfl) (by with_reducible assumption) | (repeat (first | (with_reducible exact Exc.refl _ _) | (with_reducible exact exc_undrew _ _) | (with_reducible refine Exc.drew ?_) | (with_reducible refine Exc.alloc ?_ _) | (with_reducible refine Exc.setC ?_ ?_ _; focus (simp)))))))
          refine any_branch (by decide +kernel) ?_
          simp only [List.size_toArray, List.length_cons, List.length_nil, Nat.zero_add, Nat.reduceAdd]
          repeat' (first | exact lt_zero | refine lt_succ ?_ ?_ | exact any_none (by decide +kernel) | fail)
          · refine any_one rfl rfl rfl ?_
            go_wp2_with (fail)
            refine then_any rfl ?_ ?_; focus (first | (intro h; have h2 : false = true := h; cases h2) | (intro _; show Exc _ _ _; first | (with_reducible assumption) | (first | (with_reducible refine Exc.both ?_ ?_ _; (focus (simp [World.setCell])); repeat (first | (with_reducible exact Exc.refl _ _) | (with_reducible refine Exc.setC ?_ ?_ _; focus (simp)))) | exact Exc.of_past (Or.inl rfl) (by with_reducible assumption) | (repeat (first | (with_reducible exact Exc.refl _ _) | (with_reducible exact exc_undrew _ _) | (with_reducible refine Exc.drew ?_) | (with_reducible refine Exc.alloc ?_ _) | (with_reducible refine Exc.setC ?_ ?_ _; focus (simp)))))))
            refine any_branch (by decide +kernel) ?_
            simp only [List.size_toArray, List.length_cons, List.length_nil, Nat.zero_add, Nat.reduceAdd]
            repeat' (first | exact lt_zero | refine lt_succ ?_ ?_ | exact any_none (by decide +kernel) | fail)
            · refine any_one rfl rfl rfl ?_
              go_wp2_with (fail)
              refine then_any rfl ?_ ?_; focus (first | (intro h; have h2 : false = true := h; cases h2) | (intro _; show Exc _ _ _; first | (with_reducible assumption) | (first | (with_reducible refine Exc.both ?_ ?_ _; (focus (simp [World.setCell])); repeat (first | (with_reducible exact Exc.refl _ _) | (with_reducible refine Exc.setC ?_ ?_ _; focus (simp)))) | exact Exc.of_past (Or.inl rfl) (by with_reducible assumption) | (repeat (first | (with_reducible exact Exc.refl _ _) | (with_reducible exact exc_undrew _ _) | (with_reducible refine Exc.drew ?_) | (with_reducible refine Exc.alloc ?_ _) | (with_reducible refine Exc.setC ?_ ?_ _; focus (simp)))))))
              refine any_pure 7 (by decide +kernel) rfl rfl ?_; apply Exists.intro; refine ⟨fun w' => ?_, ?_⟩; (focus (first | (fail) | (go_simp; try exact rfl))); have e0 : True := trivial; clear e0; refine any_putK ?_; intro K hK; go_simp; refine hK _ ?_; clear hK K
              refine any_read 8 (by decide +kernel) rfl rfl rfl ?_; apply Exists.intro; refine ⟨fun w' hb' => ?_, ?_⟩; (focus (obtain ⟨hc', hf'⟩ := exc_cells hb'; clear hb'; go_simp; try exact rfl)); have e0 : True := trivial; clear e0; refine any_putK ?_; intro K hK; go_simp; refine hK _ ?_; clear hK K
              refine any_pure 11 (by decide +kernel) rfl rfl ?_; apply Exists.intro; refine ⟨fun w' => ?_, ?_⟩; (focus (first | (fail) | (go_simp; try exact rfl))); have e0 : True := trivial; clear e0; refine any_putK ?_; intro K hK; go_simp; refine hK _ ?_; clear hK K
              refine any_end (by decide +kernel) ?_
              go_wp2_with fail
              refine bodyPost_retE rfl ?_
              apply Exists.intro
              refine ⟨?_, ?_⟩
              · simp only [results, Try.results39]
                go_simp
                first | done | rfl
              go_light
              refine qe_end' (w := w) (L := L) (b := b) (q := q) (by omega) hmc hm (by first | exact ⟨_, rfl⟩ | (rcases (by omega : vp2 = 0 ∨ vp2 = 1 ∨ vp2 = 2) with rfl | rfl | rfl <;> exact ⟨_, rfl⟩)) ?_
              repeat (first | (with_reducible exact HQ2.out) | (with_reducible refine QE.alloc ?_ _) | (with_reducible refine QE.drew ?_) | (with_reducible refine QE.set ?_ ?_ ?_ _; (focus (first | (with_reducible exact Nat.le_refl _) | (simp; done) | (simp; omega) | omega)); (focus (first | (simp; done) | (simp; omega) | omega))))
          · refine any_one rfl rfl rfl ?_
            go_wp2_with (fail)
            refine then_any rfl ?_ ?_; focus (first | (intro h; have h2 : false = true := h; cases h2) | (intro _; show Exc _ _ _; first | (with_reducible assumption) | (first | (with_reducible refine Exc.both ?_ ?_ _; (focus (simp [World.setCell])); repeat (first | (with_reducible exact Exc.refl _ _) | (with_reducible refine Exc.setC ?_ ?_ _; focus (simp)))) | exact Exc.of_past (Or.inl rfl) (by with_reducible assumption) | (repeat (first | (with_reducible exact Exc.refl _ _) | (with_reducible exact exc_undrew _ _) | (with_reducible refine Exc.drew ?_) | (with_reducible refine Exc.alloc ?_ _) | (with_reducible refine Exc.setC ?_ ?_ _; focus (simp)))))))
            refine any_pure 7 (by decide +kernel) rfl rfl ?_; apply Exists.intro; refine ⟨fun w' => ?_, ?_⟩; (focus (first | (fail) | (go_simp; try exact rfl))); have e0 : True := trivial; clear e0; refine any_putK ?_; intro K hK; go_simp; refine hK _ ?_; clear hK K
            refine any_read 8 (by decide +kernel) rfl rfl rfl ?_; apply Exists.intro; refine ⟨fun w' hb' => ?_, ?_⟩; (focus (obtain ⟨hc', hf'⟩ := exc_cells hb'; clear hb'; go_simp; try exact rfl)); have e0 : True := trivial; clear e0; refine any_putK ?_; intro K hK; go_simp; refine hK _ ?_; clear hK K
            refine any_branch (by decide +kernel) ?_
            simp only [List.size_toArray, List.length_cons, List.length_nil, Nat.zero_add, Nat.reduceAdd]
            repeat' (first | exact lt_zero | refine lt_succ ?_ ?_ | exact any_none (by decide +kernel) | fail)
            · refine any_one rfl rfl rfl ?_
              go_wp2_with (fail)
              refine then_any rfl ?_ ?_; focus (first | (intro h; have h2 : false = true := h; cases h2) | (intro _; show Exc _ _ _; first | (with_reducible assumption) | (first | (with_reducible refine Exc.both ?_ ?_ _; (focus (simp [World.setCell])); repeat (first | (with_reducible exact Exc.refl _ _) | (with_reducible refine Exc.setC ?_ ?_ _; focus (simp)))) | exact Exc.of_past (Or.inl rfl) (by with_reducible assumption) | (repeat (first | (with_reducible exact Exc.refl _ _) | (with_reducible exact exc_undrew _ _) | (with_reducible refine Exc.drew ?_) | (with_reducible refine Exc.alloc ?_ _) | (with_reducible refine Exc.setC ?_ ?_ _; focus (simp)))))))
              refine any_pure 11 (by decide +kernel) rfl rfl ?_; apply Exists.intro; refine ⟨fun w' => ?_, ?_⟩; (focus (first | (fail) | (go_simp; try exact rfl))); have e0 : True := trivial; clear e0; refine any_putK ?_; intro K hK; go_simp; refine hK _ ?_; clear hK K
              refine any_end (by decide +kernel) ?_
              go_wp2_with fail
              refine bodyPost_retE rfl ?_
              apply Exists.intro
              refine ⟨?_, ?_⟩
              · simp only [results, Try.results39]
                go_simp
                first | done | rfl
              go_light
              refine qe_end' (w := w) (L := L) (b := b) (q := q) (by omega) hmc hm (by first | exact ⟨_, rfl⟩ | (rcases (by omega : vp2 = 0 ∨ vp2 = 1 ∨ vp2 = 2) with rfl | rfl | rfl <;> exact ⟨_, rfl⟩)) ?_
              repeat (first | (with_reducible exact HQ2.out) | (with_reducible refine QE.alloc ?_ _) | (with_reducible refine QE.drew ?_) | (with_reducible refine QE.set ?_ ?_ ?_ _; (focus (first | (with_reducible exact Nat.le_refl _) | (simp; done) | (simp; omega) | omega)); (focus (first | (simp; done) | (simp; omega) | omega))))
        · refine any_one rfl rfl rfl ?_
          go_wp2_with (fail)
          refine then_any rfl ?_ ?_; focus (first | (intro h; have h2 : false = true := h; cases h2) | (intro _; show Exc _ _ _; first | (with_reducible assumption) | (first | (with_reducible refine Exc.both ?_ ?_ _; (focus (simp [World.setCell])); repeat (first | (with_reducible exact Exc.refl _ _) | (with_reducible refine Exc.setC ?_ ?_ _; focus (simp)))) | exact Exc.of_past (Or.inl rfl) (by with_reducible assumption) | (repeat (first | (with_reducible exact Exc.refl _ _) | (with_reducible exact exc_undrew _ _) | (with_reducible refine Exc.drew ?_) | (with_reducible refine Exc.alloc ?_ _) | (with_reducible refine Exc.setC ?_ ?_ _; focus (simp)))))))
          refine any_pure 7 (by decide +kernel) rfl rfl ?_; apply Exists.intro; refine ⟨fun w' => ?_, ?_⟩; (focus (first | (fail) | (go_simp; try exact rfl))); have e0 : True := trivial; clear e0; refine any_putK ?_; intro K hK; go_simp; refine hK _ ?_; clear hK K
          refine any_read 8 (by decide +kernel) rfl rfl rfl ?_; apply Exists.intro; refine ⟨fun w' hb' => ?_, ?_⟩; (focus (obtain ⟨hc', hf'⟩ := exc_cells hb'; clear hb'; go_simp; try exact rfl)); have e0 : True := trivial; clear e0; refine any_putK ?_; intro K hK; go_simp; refine hK _ ?_; clear hK K
          refine any_branch (by decide +kernel) ?_
          simp only [List.size_toArray, List.length_cons, List.length_nil, Nat.zero_add, Nat.reduceAdd]
          repeat' (first | exact lt_zero | refine lt_succ ?_ ?_ | exact any_none (by decide +kernel) | fail)
          · refine any_one rfl rfl rfl ?_
            go_wp2_with (fail)
            refine then_any rfl ?_ ?_; focus (first | (intro h; have h2 : false = true := h; cases h2) | (intro _; show Exc _ _ _; first | (with_reducible assumption) | (first | (with_reducible refine Exc.both ?_ ?_ _; (focus (simp [World.setCell])); repeat (first | (with_reducible exact Exc.refl _ _) | (with_reducible refine Exc.setC ?_ ?_ _; focus (simp)))) | exact Exc.of_past (Or.inl rfl) (by with_reducible assumption) | (repeat (first | (with_reducible exact Exc.refl _ _) | (with_reducible exact exc_undrew _ _) | (with_reducible refine Exc.drew ?_) | (with_reducible refine Exc.alloc ?_ _) | (with_reducible refine Exc.setC ?_ ?_ _; focus (simp)))))))
            refine any_branch (by decide +kernel) ?_
            simp only [List.size_toArray, List.length_cons, List.length_nil, Nat.zero_add, Nat.reduceAdd]
            repeat' (first | exact lt_zero | refine lt_succ ?_ ?_ | exact any_none (by decide +kernel) | fail)
            · refine any_one rfl rfl rfl ?_
              go_wp2_with (fail)
              refine then_any rfl ?_ ?_; focus (first | (intro h; have h2 : false = true := h; cases h2) | (intro _; show Exc _ _ _; first | (with_reducible assumption) | (first | (with_reducible refine Exc.both ?_ ?_ _; (focus (simp [World.setCell])); repeat (first | (with_reducible exact Exc.refl _ _) | (with_reducible refine Exc.setC ?_ ?_ _; focus (simp)))) | exact Exc.of_past (Or.inl rfl) (by with_reducible assumption) | (repeat (first | (with_reducible exact Exc.refl _ _) | (with_reducible exact exc_undrew _ _) | (with_reducible refine Exc.drew ?_) | (with_reducible refine Exc.alloc ?_ _) | (with_reducible refine Exc.setC ?_ ?_ _; focus (simp)))))))
              refine any_pure 11 (by decide +kernel) rfl rfl ?_; apply Exists.intro; refine ⟨fun w' => ?_, ?_⟩; (focus (first | (fail) | (go_simp; try exact rfl))); have e0 : True := trivial; clear e0; refine any_putK ?_; intro K hK; go_simp; refine hK _ ?_; clear hK K
              refine any_end (by decide +kernel) ?_
              go_wp2_with fail
              refine bodyPost_retE rfl ?_
              apply Exists.intro
              refine ⟨?_, ?_⟩
              · simp only [results, Try.results39]
                go_simp
                first | done | rfl
              go_light
              refine qe_end' (w := w) (L := L) (b := b) (q := q) (by omega) hmc hm (by first | exact ⟨_, rfl⟩ | (rcases (by omega : vp2 = 0 ∨ vp2 = 1 ∨ vp2 = 2) with rfl | rfl | rfl <;> exact ⟨_, rfl⟩)) ?_
              repeat (first | (with_reducible exact HQ2.out) | (with_reducible refine QE.alloc ?_ _) | (with_reducible refine QE.drew ?_) | (with_reducible refine QE.set ?_ ?_ ?_ _; (focus (first | (with_reducible exact Nat.le_refl _) | (simp; done) | (simp; omega) | omega)); (focus (first | (simp; done) | (simp; omega) | omega))))
      · refine any_one rfl rfl rfl ?_
        go_wp2_with (fail)
        refine then_any rfl ?_ ?_; focus (first | (intro h; have h2 : false = true := h; cases h2) | (intro _; show Exc _ _ _; first | (with_reducible assumption) | (first | (with_reducible refine Exc.both ?_ ?_ _; (focus (simp [World.setCell])); repeat (first | (with_reducible exact Exc.refl _ _) | (with_reducible refine Exc.setC ?_ ?_ _; focus (simp)))) | exact Exc.of_past (Or.inl rfl) (by with_reducible assumption) | (repeat (first | (with_reducible exact Exc.refl _ _) | (with_reducible exact exc_undrew _ _) | (with_reducible refine Exc.drew ?_) | (with_reducible refine Exc.alloc ?_ _) | (with_reducible refine Exc.setC ?_ ?_ _; focus (simp)))))))
        refine any_branch (by decide +kernel) ?_
        simp only [List.size_toArray, List.length_cons, List.length_nil, Nat.zero_add, Nat.reduceAdd]
        repeat' (first | exact lt_zero | refine lt_succ ?_ ?_ | exact any_none (by decide +kernel) | fail)
        · refine any_one rfl rfl rfl ?_
          go_wp2_with ((go_at_call 62; refine (pk _ g ((0 + 100 + 1) + 10) _ (by repeat (first | assumption | (with_reducible refine RdLe.drew ?_) | (with_reducible refine RdLe.drewN ?_ _) | (with_reducible refine RdLe.alloc ?_ _) | (with_reducible refine RdLe.setC ?_ ?_ _; focus (first | (simp; done) | (simp; omega) | omega)))) (by omega) (by omega) (by omega)).mono ?_; rintro e wp2 ⟨⟨vp2, ⟨vlp2, vhp2⟩, rfl, hRp2, hbp2⟩, hsp2⟩; clear hsp2; have hzp2 := hbp2.size; (try simp at hzp2); have hP2 : Past g w2.heap.size w2 wp2 := (by repeat (first | (with_reducible exact Past.refl _ _ _) | (with_reducible refine Past.alloc ?_ (by simp) _) | (with_reducible refine Past.drew ?_) | (with_reducible refine Past.drewN ?_ _) | (with_reducible refine Past.setC ?_ ?_ _; focus (first | (with_reducible exact Nat.le_refl _) | (simp; done) | (simp; omega) | omega)) | (with_reducible refine Past.step ?_ (by simp) (by assumption)))); have c2_0 := fun o => hP2.cells.1 (w.heap.size) o p4 hgx; have f2_0 := fun o => hP2.cells.2 (w.heap.size) o p4 hgx; have l2_0 : w.heap.size < wp2.heap.size := Nat.lt_of_lt_of_le p4 hP2.size; have c2_1 := fun o => hP2.cells.1 (w.heap.size + 1) o s7 hgx1; have f2_1 := fun o => hP2.cells.2 (w.heap.size + 1) o s7 hgx1; have l2_1 : w.heap.size + 1 < wp2.heap.size := Nat.lt_of_lt_of_le s7 hP2.size; have c2_2 := fun o => hP2.cells.1 (b) o z4 hbn; have f2_2 := fun o => hP2.cells.2 (b) o z4 hbn; have l2_2 : b < wp2.heap.size := Nat.lt_of_lt_of_le z4 hP2.size; have ng2 : ¬ wp2.heap.size = g := (by have := hRp2.lt; omega); have na2 : ¬ wp2.heap.size = w.heap.size := (by omega); have nb2 : ¬ wp2.heap.size = w.heap.size + 1 := (by omega); have nr2 : g < wp2.heap.size := hRp2.lt; have HQ2 := Lib.hid (hQ2.out.past (by omega) hgL hP2); have HP2 := Lib.hid hP2; clear hP2; (try (have t2_a := (past_cells hbp2 (w2.heap.size) (by first | omega | (simp; done)) hw2g (f := fun o => ([.int .i64 (-1), .int .i64 now, .int .i64 100000] : List Value)[o]?) gl1_a fl1_a); obtain ⟨gl2_a, fl2_a⟩ := t2_a; have ml2_a : w2.heap.size < wp2.heap.size := (by omega))); (try (have t2_b := (past_cells hbp2 (wp1.heap.size) (by first | omega | (simp; done)) ng1 (f := fun o => ([.int .i64 (-1), .int .i64 now, .int .i64 100000] : List Value)[o]?) (fun o => by simp [go_sem]) (fun o => by simp [go_sem])); obtain ⟨gl2_b, fl2_b⟩ := t2_b; have ml2_b : wp1.heap.size < wp2.heap.size := (by omega)))))
          refine then_any rfl ?_ ?_; focus (first | (intro h; have h2 : false = true := h; cases h2) | (intro _; show Exc _ _ _; first | (with_reducible assumption) | (first | (with_reducible refine Exc.both ?_ ?_ _; (focus (simp [World.setCell])); repeat (first | (with_reducible exact Exc.refl _ _) | (with_reducible refine Exc.setC ?_ ?_ _; focus (simp)))) | exact Exc.of_past (Or.inl rfl) (by with_reducible assumption) | (repeat (first | (with_reducible exact Exc.refl _ _) | (with_reducible exact exc_undrew _ _) | (with_reducible refine Exc.drew ?_) | (with_reducible refine Exc.alloc ?_ _) | (with_reducible refine Exc.setC ?_ ?_ _; focus (simp)))))))
          refine any_pure 7 (by decide +kernel) rfl rfl ?_; apply Exists.intro; refine ⟨fun w' => ?_, ?_⟩; (focus (first | (fail) | (go_simp; try exact rfl))); have e0 : True := trivial; clear e0; refine any_putK ?_; intro K hK; go_simp; refine hK _ ?_; clear hK K
          refine any_read 8 (by decide +kernel) rfl rfl rfl ?_; apply Exists.intro; refine ⟨fun w' hb' => ?_, ?_⟩; (focus (obtain ⟨hc', hf'⟩ := exc_cells hb'; clear hb'; go_simp; try exact rfl)); have e0 : True := trivial; clear e0; refine any_putK ?_; intro K hK; go_simp; refine hK _ ?_; clear hK K
          refine any_branch (by decide +kernel) ?_
          simp only [List.size_toArray, List.length_cons, List.length_nil, Nat.zero_add, Nat.reduceAdd]
          repeat' (first | exact lt_zero | refine lt_succ ?_ ?_ | exact any_none (by decide +kernel) | fail)
          · refine any_one rfl rfl rfl ?_
            go_wp2_with (fail)
            refine then_any rfl ?_ ?_; focus (first | (intro h; have h2 : false = true := h; cases h2) | (intro _; show Exc _ _ _; first | (with_reducible assumption) | (first | (with_reducible refine Exc.both ?_ ?_ _; (focus (simp [World.setCell])); repeat (first | (with_reducible exact Exc.refl _ _) | (with_reducible refine Exc.setC ?_ ?_ _; focus (simp)))) | exact Exc.of_past (Or.inl rfl) (by with_reducible assumption) | (repeat (first | (with_reducible exact Exc.refl _ _) | (with_reducible exact exc_undrew _ _) | (with_reducible refine Exc.drew ?_) | (with_reducible refine Exc.alloc ?_ _) | (with_reducible refine Exc.setC ?_ ?_ _; focus (simp)))))))
            refine any_branch (by decide +kernel) ?_
            simp only [List.size_toArray, List.length_cons, List.length_nil, Nat.zero_add, Nat.reduceAdd]
            repeat' (first | exact lt_zero | refine lt_succ ?_ ?_ | exact any_none (by decide +kernel) | fail)
            · refine any_one rfl rfl rfl ?_
              go_wp2_with (fail)
              refine then_any rfl ?_ ?_; focus (first | (intro h; have h2 : false = true := h; cases h2) | (intro _; show Exc _ _ _; first | (with_reducible assumption) | (first | (with_reducible refine Exc.both ?_ ?_ _; (focus (simp [World.setCell])); repeat (first | (with_reducible exact Exc.refl _ _) | (with_reducible refine Exc.setC ?_ ?_ _; focus (simp)))) | exact Exc.of_past (Or.inl rfl) (by with_reducible assumption) | (repeat (first | (with_reducible exact Exc.refl _ _) | (with_reducible exact exc_undrew _ _) | (with_reducible refine Exc.drew ?_) | (with_reducible refine Exc.alloc ?_ _) | (with_reducible refine Exc.setC ?_ ?_ _; focus (simp)))))))
              refine any_pure 11 (by decide +kernel) rfl rfl ?_; apply Exists.intro; refine ⟨fun w' => ?_, ?_⟩; (focus (first | (fail) | (go_simp; try exact rfl))); have e0 : True := trivial; clear e0; refine any_putK ?_; intro K hK; go_simp; refine hK _ ?_; clear hK K
              refine any_end (by decide +kernel) ?_
              go_wp2_with fail
              refine bodyPost_retE rfl ?_
              apply Exists.intro
              refine ⟨?_, ?_⟩
              · simp only [results, Try.results39]
                go_simp
                first | done | rfl
              go_light
              refine qe_end' (w := w) (L := L) (b := b) (q := q) (by omega) hmc hm (by first | exact ⟨_, rfl⟩ | (rcases (by omega : vp2 = 0 ∨ vp2 = 1 ∨ vp2 = 2) with rfl | rfl | rfl <;> exact ⟨_, rfl⟩)) ?_
              repeat (first | (with_reducible exact HQ2.out) | (with_reducible refine QE.alloc ?_ _) | (with_reducible refine QE.drew ?_) | (with_reducible refine QE.set ?_ ?_ ?_ _; (focus (first | (with_reducible exact Nat.le_refl _) | (simp; done) | (simp; omega) | omega)); (focus (first | (simp; done) | (simp; omega) | omega))))
  · have h0b : (v2 == 0) = false := by simpa using h0
    go_upto_region 5 with fail
    refine wp_region_anyR (R := fun a b => Exc (fun k => k = g ∨ k = w.heap.size ∨ k = w.heap.size + 1) a b) (by kernel_rfl) (fun w => Exc.refl _ _) (fun _ _ _ h k => Exc.trans h k) (by kernel_rfl) ?_
    simp only [List.size_toArray, List.length_cons, List.length_nil, Nat.zero_add, Nat.reduceAdd]
    refine any_read 0 (by decide +kernel) rfl rfl rfl ?_; apply Exists.intro; refine ⟨fun w' hb' => ?_, ?_⟩; (focus (obtain ⟨hc', hf'⟩ := exc_cells hb'; clear hb'; go_simp; try exact rfl)); have e0 : True := trivial; clear e0; refine any_putK ?_; intro K hK; go_simp; refine hK _ ?_; clear hK K
    refine any_pure 1 (by decide +kernel) rfl rfl ?_; apply Exists.intro; refine ⟨fun w' => ?_, ?_⟩; (focus (first | (fail) | (go_simp; try exact rfl))); have e0 : True := trivial; clear e0; refine any_putK ?_; intro K hK; go_simp; refine hK _ ?_; clear hK K
    refine any_read 2 (by decide +kernel) rfl rfl rfl ?_; apply Exists.intro; refine ⟨fun w' hb' => ?_, ?_⟩; (focus (obtain ⟨hc', hf'⟩ := exc_cells hb'; clear hb'; go_simp; try exact rfl)); have e0 : True := trivial; clear e0; refine any_putK ?_; intro K hK; go_simp; refine hK _ ?_; clear hK K
    refine any_pure 3 (by decide +kernel) rfl rfl ?_; apply Exists.intro; refine ⟨fun w' => ?_, ?_⟩; (focus (first | (fail) | (go_simp; try exact rfl))); have e0 : True := trivial; clear e0; refine any_putK ?_; intro K hK; go_simp; refine hK _ ?_; clear hK K
    refine any_pure 8 (by decide +kernel) rfl rfl ?_; apply Exists.intro; refine ⟨fun w' => ?_, ?_⟩; (focus (first | (fail) | (go_simp; try exact rfl))); have e0 : True := trivial; clear e0; refine any_putK ?_; intro K hK; go_simp; refine hK _ ?_; clear hK K
    refine any_pure 11 (by decide +kernel) rfl rfl ?_; apply Exists.intro; refine ⟨fun w' => ?_, ?_⟩; (focus (first | (fail) | (go_simp; try exact rfl))); have e0 : True := trivial; clear e0; refine any_putK ?_; intro K hK; go_simp; refine hK _ ?_; clear hK K
    refine any_pure 15 (by decide +kernel) rfl rfl ?_; apply Exists.intro; refine ⟨fun w' => ?_, ?_⟩; (focus (first | (fail) | (go_simp; try exact rfl))); have e0 : True := trivial; clear e0; refine any_putK ?_; intro K hK; go_simp; refine hK _ ?_; clear hK K
    refine any_branch (by decide +kernel) ?_
    simp only [List.size_toArray, List.length_cons, List.length_nil, Nat.zero_add, Nat.reduceAdd]
    repeat' (first | exact lt_zero | refine lt_succ ?_ ?_ | exact any_none (by decide +kernel) | fail)
    · refine any_one rfl rfl rfl ?_
      go_wp2_with ((go_at_call 62; refine (pk _ g ((0 + 100 + 1)) _ (by repeat (first | assumption | (with_reducible refine RdLe.drew ?_) | (with_reducible refine RdLe.drewN ?_ _) | (with_reducible refine RdLe.alloc ?_ _) | (with_reducible refine RdLe.setC ?_ ?_ _; focus (first | (simp; done) | (simp; omega) | omega)))) (by omega) (by omega) (by omega)).mono ?_; rintro e wp1 ⟨⟨vp1, ⟨vlp1, vhp1⟩, rfl, hRp1, hbp1⟩, hsp1⟩; clear hsp1; have hzp1 := hbp1.size; (try simp at hzp1); have hP1 : Past g w2.heap.size w2 wp1 := (by repeat (first | (with_reducible exact Past.refl _ _ _) | (with_reducible refine Past.alloc ?_ (by simp) _) | (with_reducible refine Past.drew ?_) | (with_reducible refine Past.drewN ?_ _) | (with_reducible refine Past.setC ?_ ?_ _; focus (first | (with_reducible exact Nat.le_refl _) | (simp; done) | (simp; omega) | omega)) | (with_reducible refine Past.step ?_ (by simp) (by assumption)))); have c1_0 := fun o => hP1.cells.1 (w.heap.size) o p4 hgx; have f1_0 := fun o => hP1.cells.2 (w.heap.size) o p4 hgx; have l1_0 : w.heap.size < wp1.heap.size := Nat.lt_of_lt_of_le p4 hP1.size; have c1_1 := fun o => hP1.cells.1 (w.heap.size + 1) o s7 hgx1; have f1_1 := fun o => hP1.cells.2 (w.heap.size + 1) o s7 hgx1; have l1_1 : w.heap.size + 1 < wp1.heap.size := Nat.lt_of_lt_of_le s7 hP1.size; have c1_2 := fun o => hP1.cells.1 (b) o z4 hbn; have f1_2 := fun o => hP1.cells.2 (b) o z4 hbn; have l1_2 : b < wp1.heap.size := Nat.lt_of_lt_of_le z4 hP1.size; have ng1 : ¬ wp1.heap.size = g := (by have := hRp1.lt; omega); have na1 : ¬ wp1.heap.size = w.heap.size := (by omega); have nb1 : ¬ wp1.heap.size = w.heap.size + 1 := (by omega); have nr1 : g < wp1.heap.size := hRp1.lt; have HQ1 := Lib.hid (hQ2.out.past (by omega) hgL hP1); have HP1 := Lib.hid hP1; clear hP1))
      refine then_any rfl ?_ ?_; focus (first | (intro h; have h2 : false = true := h; cases h2) | (intro _; show Exc _ _ _; first | (with_reducible assumption) | (first | (with_reducible refine Exc.both ?_ ?_ _; (focus (simp [World.setCell])); repeat (first | (with_reducible exact Exc.refl _ _) | (with_reducible refine Exc.setC ?_ ?_ _; focus (simp)))) | exact Exc.of_past (Or.inl rfl) (by with_reducible assumption) | (repeat (first | (with_reducible exact Exc.refl _ _) | (with_reducible exact exc_undrew _ _) | (with_reducible refine Exc.drew ?_) | (with_reducible refine Exc.alloc ?_ _) | (with_reducible refine Exc.setC ?_ ?_ _; focus (simp)))))))
      refine any_pure 5 (by decide +kernel) rfl rfl ?_; apply Exists.intro; refine ⟨fun w' => ?_, ?_⟩; (focus (first | (fail) | (go_simp; try exact rfl))); have e0 : True := trivial; clear e0; refine any_putK ?_; intro K hK; go_simp; refine hK _ ?_; clear hK K
      refine any_pure 6 (by decide +kernel) rfl rfl ?_; apply Exists.intro; refine ⟨fun w' => ?_, ?_⟩; (focus (first | (fail) | (go_simp; try exact rfl))); have e0 : True := trivial; clear e0; refine any_putK ?_; intro K hK; go_simp; refine hK _ ?_; clear hK K
      refine any_pure 7 (by decide +kernel) rfl rfl ?_; apply Exists.intro; refine ⟨fun w' => ?_, ?_⟩; (focus (first | (fail) | (go_simp; try exact rfl))); have e0 : True := trivial; clear e0; refine any_putK ?_; intro K hK; go_simp; refine hK _ ?_; clear hK K
      generalize (if IntKind.i64.wrap (IntKind.i64.wrap (y + vp1) - 2) < 0 then (0 : Int) else IntKind.i64.wrap (IntKind.i64.wrap (y + vp1) - 2)) = MX
      refine any_branch (by decide +kernel) ?_
      simp only [List.size_toArray, List.length_cons, List.length_nil, Nat.zero_add, Nat.reduceAdd]
      repeat' (first | exact lt_zero | refine lt_succ ?_ ?_ | exact any_none (by decide +kernel) | fail)
      · refine any_one rfl rfl rfl ?_
        go_wp2_with ((go_at_call 62; refine (pk _ g ((0 + 100 + 1) + 1) _ (by repeat (first | assumption | (with_reducible refine RdLe.drew ?_) | (with_reducible refine RdLe.drewN ?_ _) | (with_reducible refine RdLe.alloc ?_ _) | (with_reducible refine RdLe.setC ?_ ?_ _; focus (first | (simp; done) | (simp; omega) | omega)))) (by omega) (by omega) (by omega)).mono ?_; rintro e wp2 ⟨⟨vp2, ⟨vlp2, vhp2⟩, rfl, hRp2, hbp2⟩, hsp2⟩; clear hsp2; have hzp2 := hbp2.size; (try simp at hzp2); have hP2 : Past g w2.heap.size w2 wp2 := (by repeat (first | (with_reducible exact Past.refl _ _ _) | (with_reducible refine Past.alloc ?_ (by simp) _) | (with_reducible refine Past.drew ?_) | (with_reducible refine Past.drewN ?_ _) | (with_reducible refine Past.setC ?_ ?_ _; focus (first | (with_reducible exact Nat.le_refl _) | (simp; done) | (simp; omega) | omega)) | (with_reducible refine Past.step ?_ (by simp) (by assumption)))); have c2_0 := fun o => hP2.cells.1 (w.heap.size) o p4 hgx; have f2_0 := fun o => hP2.cells.2 (w.heap.size) o p4 hgx; have l2_0 : w.heap.size < wp2.heap.size := Nat.lt_of_lt_of_le p4 hP2.size; have c2_1 := fun o => hP2.cells.1 (w.heap.size + 1) o s7 hgx1; have f2_1 := fun o => hP2.cells.2 (w.heap.size + 1) o s7 hgx1; have l2_1 : w.heap.size + 1 < wp2.heap.size := Nat.lt_of_lt_of_le s7 hP2.size; have c2_2 := fun o => hP2.cells.1 (b) o z4 hbn; have f2_2 := fun o => hP2.cells.2 (b) o z4 hbn; have l2_2 : b < wp2.heap.size := Nat.lt_of_lt_of_le z4 hP2.size; have ng2 : ¬ wp2.heap.size = g := (by have := hRp2.lt; omega); have na2 : ¬ wp2.heap.size = w.heap.size := (by omega); have nb2 : ¬ wp2.heap.size = w.heap.size + 1 := (by omega); have nr2 : g < wp2.heap.size := hRp2.lt; have HQ2 := Lib.hid (hQ2.out.past (by omega) hgL hP2); have HP2 := Lib.hid hP2; clear hP2))
        refine then_any rfl ?_ ?_; focus (first | (intro h; have h2 : false = true := h; cases h2) | (intro _; show Exc _ _ _; first | (with_reducible assumption) | (first | (with_reducible refine Exc.both ?_ ?_ _; (focus (simp [World.setCell])); repeat (first | (with_reducible exact Exc.refl _ _) | (with_reducible refine Exc.setC ?_ ?_ _; focus (simp)))) | exact Exc.of_past (Or.inl rfl) (by with_reducible assumption) | (repeat (first | (with_reducible exact Exc.refl _ _) | (with_reducible exact exc_undrew _ _) | (with_reducible refine Exc.drew ?_) | (with_reducible refine Exc.alloc ?_ _) | (with_reducible refine Exc.setC ?_ ?_ _; focus (simp)))))))
        refine any_pure 10 (by decide +kernel) rfl rfl ?_; apply Exists.intro; refine ⟨fun w' => ?_, ?_⟩; (focus (first | (fail) | (go_simp; try exact rfl))); have e0 : True := trivial; clear e0; refine any_putK ?_; intro K hK; go_simp; refine hK _ ?_; clear hK K
        refine any_branch (by decide +kernel) ?_
        simp only [List.size_toArray, List.length_cons, List.length_nil, Nat.zero_add, Nat.reduceAdd]
        repeat' (first | exact lt_zero | refine lt_succ ?_ ?_ | exact any_none (by decide +kernel) | fail)
        · refine any_one rfl rfl rfl ?_
          go_wp2_with ((go_at_call 62; refine (pk _ g ((0 + 100 + 1) + 1 + 1) _ (by repeat (first | assumption | (with_reducible refine RdLe.drew ?_) | (with_reducible refine RdLe.drewN ?_ _) | (with_reducible refine RdLe.alloc ?_ _) | (with_reducible refine RdLe.setC ?_ ?_ _; focus (first | (simp; done) | (simp; omega) | omega)))) (by omega) (by omega) (by omega)).mono ?_; rintro e wp3 ⟨⟨vp3, ⟨vlp3, vhp3⟩, rfl, hRp3, hbp3⟩, hsp3⟩; clear hsp3; have hzp3 := hbp3.size; (try simp at hzp3); have hP3 : Past g w2.heap.size w2 wp3 := (by repeat (first | (with_reducible exact Past.refl _ _ _) | (with_reducible refine Past.alloc ?_ (by simp) _) | (with_reducible refine Past.drew ?_) | (with_reducible refine Past.drewN ?_ _) | (with_reducible refine Past.setC ?_ ?_ _; focus (first | (with_reducible exact Nat.le_refl _) | (simp; done) | (simp; omega) | omega)) | (with_reducible refine Past.step ?_ (by simp) (by assumption)))); have c3_0 := fun o => hP3.cells.1 (w.heap.size) o p4 hgx; have f3_0 := fun o => hP3.cells.2 (w.heap.size) o p4 hgx; have l3_0 : w.heap.size < wp3.heap.size := Nat.lt_of_lt_of_le p4 hP3.size; have c3_1 := fun o => hP3.cells.1 (w.heap.size + 1) o s7 hgx1; have f3_1 := fun o => hP3.cells.2 (w.heap.size + 1) o s7 hgx1; have l3_1 : w.heap.size + 1 < wp3.heap.size := Nat.lt_of_lt_of_le s7 hP3.size; have c3_2 := fun o => hP3.cells.1 (b) o z4 hbn; have f3_2 := fun o => hP3.cells.2 (b) o z4 hbn; have l3_2 : b < wp3.heap.size := Nat.lt_of_lt_of_le z4 hP3.size; have ng3 : ¬ wp3.heap.size = g := (by have := hRp3.lt; omega); have na3 : ¬ wp3.heap.size = w.heap.size := (by omega); have nb3 : ¬ wp3.heap.size = w.heap.size + 1 := (by omega); have nr3 : g < wp3.heap.size := hRp3.lt; have HQ3 := Lib.hid (hQ2.out.past (by omega) hgL hP3); have HP3 := Lib.hid hP3; clear hP3))
          refine then_any rfl ?_ ?_; focus (first | (intro h; have h2 : false = true := h; cases h2) | (intro _; show Exc _ _ _; first | (with_reducible assumption) | (first | (with_reducible refine Exc.both ?_ ?_ _; (focus (simp [World.setCell])); repeat (first | (with_reducible exact Exc.refl _ _) | (with_reducible refine Exc.setC ?_ ?_ _; focus (simp)))) | exact Exc.of_past (Or.inl rfl) (by with_reducible assumption) | (repeat (first | (with_reducible exact Exc.refl _ _) | (with_reducible exact exc_undrew _ _) | (with_reducible refine Exc.drew ?_) | (with_reducible refine Exc.alloc ?_ _) | (with_reducible refine Exc.setC ?_ ?_ _; focus (simp)))))))
          refine any_pure 13 (by decide +kernel) rfl rfl ?_; apply Exists.intro; refine ⟨fun w' => ?_, ?_⟩; (focus (first | (fail) | (go_simp; try exact rfl))); have e0 : True := trivial; clear e0; refine any_putK ?_; intro K hK; go_simp; refine hK _ ?_; clear hK K
          refine any_pure 14 (by decide +kernel) rfl rfl ?_; apply Exists.intro; refine ⟨fun w' => ?_, ?_⟩; (focus (first | (fail) | (go_simp; try exact rfl))); have e0 : True := trivial; clear e0; refine any_putK ?_; intro K hK; go_simp; refine hK _ ?_; clear hK K
          refine any_branch (by decide +kernel) ?_
          simp only [List.size_toArray, List.length_cons, List.length_nil, Nat.zero_add, Nat.reduceAdd]
          repeat' (first | exact lt_zero | refine lt_succ ?_ ?_ | exact any_none (by decide +kernel) | fail)
          · refine any_one rfl rfl rfl ?_
            go_wp2_with (fail)
            refine then_any rfl ?_ ?_; focus (first | (intro h; have h2 : false = true := h; cases h2) | (intro _; show Exc _ _ _; first | (with_reducible assumption) | (first | (with_reducible refine Exc.both ?_ ?_ _; (focus (simp [World.setCell])); repeat (first | (with_reducible exact Exc.refl _ _) | (with_reducible refine Exc.setC ?_ ?_ _; focus (simp)))) | exact Exc.of_past (Or.inl rfl) (by with_reducible assumption) | (repeat (first | (with_reducible exact Exc.refl _ _) | (with_reducible exact exc_undrew _ _) | (with_reducible refine Exc.drew ?_) | (with_reducible refine Exc.alloc ?_ _) | (with_reducible refine Exc.setC ?_ ?_ _; focus (simp)))))))
            refine any_branch (by decide +kernel) ?_
            simp only [List.size_toArray, List.length_cons, List.length_nil, Nat.zero_add, Nat.reduceAdd]
            repeat' (first | exact lt_zero | refine lt_succ ?_ ?_ | exact any_none (by decide +kernel) | fail)
            · refine any_one rfl rfl rfl ?_
              go_wp2_with (fail)
              refine then_any rfl ?_ ?_; focus (first | (intro h; have h2 : false = true := h; cases h2) | (intro _; show Exc _ _ _; first | (with_reducible assumption) | (first | (with_reducible refine Exc.both ?_ ?_ _; (focus (simp [World.setCell])); repeat (first | (with_reducible exact Exc.refl _ _) | (with_reducible refine Exc.setC ?_ ?_ _; focus (simp)))) | exact Exc.of_past (Or.inl rfl) (by with_reducible assumption) | (repeat (first | (with_reducible exact Exc.refl _ _) | (with_reducible exact exc_undrew _ _) | (with_reducible refine Exc.drew ?_) | (with_reducible refine Exc.alloc ?_ _) | (with_reducible refine Exc.setC ?_ ?_ _; focus (simp)))))))
              refine any_pure 18 (by decide +kernel) rfl rfl ?_; apply Exists.intro; refine ⟨fun w' => ?_, ?_⟩; (focus (first | (fail) | (go_simp; try exact rfl))); have e0 : True := trivial; clear e0; refine any_putK ?_; intro K hK; go_simp; refine hK _ ?_; clear hK K
              refine any_end (by decide +kernel) ?_
              go_wp2_with fail
              refine bodyPost_retE rfl ?_
              apply Exists.intro
              refine ⟨?_, ?_⟩
              · simp only [results, Try.results39]
                go_simp
                first | done | rfl
              go_light
              refine qe_end' (w := w) (L := L) (b := b) (q := q) (by omega) hmc hm (by first | exact ⟨_, rfl⟩ | (rcases (by omega : vp2 = 0 ∨ vp2 = 1 ∨ vp2 = 2) with rfl | rfl | rfl <;> exact ⟨_, rfl⟩)) ?_
              repeat (first | (with_reducible exact HQ3.out) | (with_reducible refine QE.alloc ?_ _) | (with_reducible refine QE.drew ?_) | (with_reducible refine QE.set ?_ ?_ ?_ _; (focus (first | (with_reducible exact Nat.le_refl _) | (simp; done) | (simp; omega) | omega)); (focus (first | (simp; done) | (simp; omega) | omega))))
end Go.Proofs.Ytegdogamenoaiaa
