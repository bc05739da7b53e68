/- The draw of a buffer (printed by gen_bdr.py). -/
import Derived.Test.YtegdogamenoaiaaBur
import Derived.Test.YtegdogamenoaiaaBtb
import Derived.Deep.DeepCutAuto
namespace Go.Proofs.Ytegdogamenoaiaa
open Go Go.RowKit
set_option linter.unusedVariables false
set_option linter.unusedSimpArgs false
/-- A row of packets, or nothing. -/
def BRow (w : World) (lo hi : Nat) (A : Option Addr) (n c : Nat) (q : Nat → Hd) : Prop := n ≤ c ∧ (n = 0 ∨ RowOwn 54 w lo hi A n c 7 (HdF q))
theorem BRow.at_ {w : World} {lo hi : Nat} {A : Option Addr} {n c : Nat} {q : Nat → Hd} (h : BRow w lo hi A n c q) : RowAt w lo hi A n 7 (HdF q) := by
  rcases h.2 with rfl | h
  · exact RowAt.nil _ _ _ _ _ _
  · exact h.row
theorem BRow.past {w w' : World} {lo hi g B : Nat} {A : Option Addr} {n c : Nat} {q : Nat → Hd} (h : BRow w lo hi A n c q) (hg : g < lo) (hB : hi ≤ B) (hp : Past g B w w') : BRow w' lo hi A n c q :=
  ⟨h.1, h.2.imp id fun h => RowOwn.past hg hB h hp⟩
theorem BRow.wide {w : World} {lo hi lo' hi' : Nat} {A : Option Addr} {n c : Nat} {q : Nat → Hd} (h : BRow w lo hi A n c q) (h1 : lo' ≤ lo) (h2 : hi ≤ hi') : BRow w lo' hi' A n c q := ⟨h.1, h.2.imp id fun h => h.wide h1 h2⟩
theorem own_nc {e : TypeId} {w : World} {lo hi n c sz : Nat} {A : Option Addr} {f : Nat → Value} (h : RowOwn e w lo hi A n c sz f) : n ≤ c := by
  rcases RowOwn.cases h with ⟨_, h1, h2⟩ | ⟨g, _, _, _, _, h1, _⟩
  · omega
  · exact h1
/-- Three cells, as a buffer has them. -/
def Bx (w : World) (b : Nat) (y d : Int) (A : Option Addr) (n c : Nat) : Prop :=
  w.cell? ⟨b, 0, none⟩ = some (.int .i64 y) ∧ w.cell? ⟨b, 1, none⟩ = some (.int .i64 d) ∧ w.cell? ⟨b, 2, none⟩ = some (.slice A n c) ∧ (∀ j, w.frozen? ⟨b, j, none⟩ = false) ∧ b < w.heap.size
theorem Bx.past {w w' : World} {b g : Nat} {y d : Int} {A : Option Addr} {n c : Nat} (h : Bx w b y d A n c) (hg : b ≠ g) (hp : Past g w.heap.size w w') : Bx w' b y d A n c := by
  obtain ⟨h1, h2, h3, h4, h5⟩ := h
  obtain ⟨k1, k2⟩ := hp.cells
  exact ⟨(k1 _ _ h5 hg).trans h1, (k1 _ _ h5 hg).trans h2, (k1 _ _ h5 hg).trans h3, fun j => (k2 _ _ h5 hg).trans (h4 j), Nat.lt_of_lt_of_le h5 hp.size⟩
/-- Where the draw of a buffer stands. -/
structure BSt (w : World) (g b K : Nat) (y d : Int) (A : Option Addr) (n c : Nat) (q : Nat → Hd) (wx : World) : Prop where
  R : RdLe wx g K
  P : Past g w.heap.size w wx
  res : ∃ y d A n c, Bx wx w.heap.size y d A n c
  box : Bx wx b y d A n c
  row : BRow wx (b + 1) wx.heap.size A n c q
theorem BSt.past {w wx w2 : World} {g b K K' : Nat} {y d : Int} {A : Option Addr} {n c : Nat} {q : Nat → Hd} (h : BSt w g b K y d A n c q wx) (hg : g < w.heap.size) (hb : w.heap.size < b) (hp : Past g wx.heap.size wx w2) (hR : RdLe w2 g K') : BSt w g b K' y d A n c q w2 := by
  obtain ⟨y', d', A', n', c', hr⟩ := h.res
  exact ⟨hR, h.P.trans (hp.mono h.P.size), ⟨_, _, _, _, _, hr.past (by omega) hp⟩, h.box.past (by omega) hp, (h.row.past (by omega) (Nat.le_refl _) hp).wide (Nat.le_refl _) hp.size⟩
theorem BSt.mono {w wx : World} {g b K K' : Nat} {y d : Int} {A : Option Addr} {n c : Nat} {q : Nat → Hd} (h : BSt w g b K y d A n c q wx) (hK : K ≤ K') : BSt w g b K' y d A n c q wx := ⟨h.R.mono hK, h.P, h.res, h.box, h.row⟩
theorem exc_undrew (X : Nat → Prop) (w : World) : Exc X w.drew w := ⟨rfl, rfl, rfl, Nat.le_refl _, fun _ _ _ => rfl⟩
theorem Bx.off {w : World} {r b : Nat} {y d : Int} {A : Option Addr} {n c : Nat} (h : Bx w r y d A n c) (hne : r ≠ b) (x1 x2 x3 : Value) : Bx (((w.setCell ⟨b, 0, none⟩ x1).setCell ⟨b, 1, none⟩ x2).setCell ⟨b, 2, none⟩ x3) r y d A n c := by
  obtain ⟨h1, h2, h3, h4, h5⟩ := h
  have hne' : b ≠ r := Ne.symm hne
  refine ⟨?_, ?_, ?_, fun j => ?_, ?_⟩
  · go_simp
  · go_simp
  · go_simp
  · simp only [World.frozen?_setCell]; exact h4 j
  · simpa [World.setCell] using h5
theorem Bx.put {w : World} {b : Nat} {y d y2 d2 : Int} {A A2 : Option Addr} {n c n2 c2 : Nat} (h : Bx w b y d A n c) : Bx (((w.setCell ⟨b, 0, none⟩ (.int .i64 y2)).setCell ⟨b, 1, none⟩ (.int .i64 d2)).setCell ⟨b, 2, none⟩ (.slice A2 n2 c2)) b y2 d2 A2 n2 c2 := by
  obtain ⟨h1, h2, h3, h4, h5⟩ := h
  refine ⟨?_, ?_, ?_, fun j => ?_, ?_⟩
  · go_simp
  · go_simp
  · go_simp
  · simp only [World.frozen?_setCell]; exact h4 j
  · simpa [World.setCell] using h5
theorem BSt.turn {w wx : World} {g b K : Nat} {y d y2 d2 : Int} {A A2 : Option Addr} {n c n2 c2 : Nat} {q q2 : Nat → Hd} (h : BSt w g b K y d A n c q wx) (hg : g < w.heap.size) (hb : w.heap.size < b) (hr : BRow wx (b + 1) wx.heap.size A2 n2 c2 q2) :
    BSt w g b K y2 d2 A2 n2 c2 q2 (((wx.setCell ⟨b, 0, none⟩ (.int .i64 y2)).setCell ⟨b, 1, none⟩ (.int .i64 d2)).setCell ⟨b, 2, none⟩ (.slice A2 n2 c2)) := by
  obtain ⟨y', d', A', n', c', hr'⟩ := h.res
  refine ⟨((h.R.setCell (p := ⟨b, 0, none⟩) (show g < b by omega) _).setCell (p := ⟨b, 1, none⟩) (show g < b by omega) _).setCell (p := ⟨b, 2, none⟩) (show g < b by omega) _, ((h.P.setCell (p := ⟨b, 0, none⟩) (show w.heap.size ≤ b by omega) _).setCell (p := ⟨b, 1, none⟩) (show w.heap.size ≤ b by omega) _).setCell (p := ⟨b, 2, none⟩) (show w.heap.size ≤ b by omega) _,
    ⟨_, _, _, _, _, hr'.off (by omega) _ _ _⟩, h.box.put, hr.1, hr.2.imp id fun h => ?_⟩
  have h1 := ((h.setC (p := ⟨b, 0, none⟩) (Or.inl (Nat.lt_succ_self b)) (.int .i64 y2)).setC (p := ⟨b, 1, none⟩) (Or.inl (Nat.lt_succ_self b)) (.int .i64 d2)).setC (p := ⟨b, 2, none⟩) (Or.inl (Nat.lt_succ_self b)) (.slice A2 n2 c2)
  simpa [World.setCell] using h1
theorem hd_put_c {e : TypeId} {w : World} {lo hi n cc g k : Nat} {p : Nat → Hd} {a : Int} (h : RowOwn e w lo hi (some ⟨g, 0, none⟩) n cc 7 (HdF p)) :
    RowOwn e (w.setCell ⟨g, k * 7 + 6, none⟩ (.int .i64 a)) lo hi (some ⟨g, 0, none⟩) n cc 7 (HdF (updE p k ⟨(p k).p, a⟩)) := by
  refine (h.store (k * 7 + 6) (.int .i64 a)).congr fun j hj => ?_
  refine RowF_put (sz := 7) (C := HdC) (q := p) (k := k) (x := ⟨(p k).p, a⟩) (by decide) ?_ ?_ j
  · intro r hr
    rcases (by omega : r = 6 ∨ r < 6) with rfl | hr6
    · exact if_pos rfl
    · refine (if_neg (by omega)).trans ((RowF_at (sz := 7) (C := HdC) (q := p) (k := k) (r := r) (by omega)).trans ?_)
      rcases (by omega : r = 0 ∨ r = 1 ∨ r = 2 ∨ r = 3 ∨ r = 4 ∨ r = 5) with rfl | rfl | rfl | rfl | rfl | rfl <;> rfl
  · exact fun i hi => if_neg (by omega)
theorem hd_put_w {e : TypeId} {w : World} {lo hi n cc g k : Nat} {p : Nat → Hd} {a : Int} (h : RowOwn e w lo hi (some ⟨g, 0, none⟩) n cc 7 (HdF p)) :
    RowOwn e (w.setCell ⟨g, k * 7, none⟩ (.int .i64 a)) lo hi (some ⟨g, 0, none⟩) n cc 7 (HdF (updE p k ⟨⟨a, (p k).p.t, (p k).p.l, (p k).p.s, (p k).p.k, (p k).p.z⟩, (p k).c⟩)) := by
  refine (h.store (k * 7) (.int .i64 a)).congr fun j hj => ?_
  refine RowF_put (sz := 7) (C := HdC) (q := p) (k := k) (x := ⟨⟨a, (p k).p.t, (p k).p.l, (p k).p.s, (p k).p.k, (p k).p.z⟩, (p k).c⟩) (by decide) ?_ ?_ j
  · intro r hr
    rcases (by omega : r = 0 ∨ 0 < r) with rfl | hr0
    · exact if_pos rfl
    · refine (if_neg (by omega)).trans ((RowF_at (sz := 7) (C := HdC) (q := p) (k := k) (r := r) (by omega)).trans ?_)
      rcases (by omega : r = 1 ∨ r = 2 ∨ r = 3 ∨ r = 4 ∨ r = 5 ∨ r = 6) with rfl | rfl | rfl | rfl | rfl | rfl <;> rfl
  · exact fun i hi => if_neg (by omega)
theorem Bx.off1 {w : World} {r b o : Nat} {y d : Int} {A : Option Addr} {n c : Nat} (h : Bx w r y d A n c) (hne : r ≠ b) (x1 : Value) : Bx (w.setCell ⟨b, o, none⟩ x1) r y d A n c := by
  obtain ⟨h1, h2, h3, h4, h5⟩ := h
  have hne' : b ≠ r := Ne.symm hne
  refine ⟨?_, ?_, ?_, fun j => ?_, ?_⟩
  · go_simp
  · go_simp
  · go_simp
  · simp only [World.frozen?_setCell]; exact h4 j
  · simpa [World.setCell] using h5
theorem BSt.setRow {w wx : World} {g b K g2 o : Nat} {y d : Int} {A : Option Addr} {n c : Nat} {q q2 : Nat → Hd} {u : Value} (h : BSt w g b K y d A n c q wx) (hg : g < w.heap.size) (hb : w.heap.size < b) (hg2 : b < g2) (hn : n ≤ c) (hr : RowOwn 54 (wx.setCell ⟨g2, o, none⟩ u) (b + 1) wx.heap.size A n c 7 (HdF q2)) :
    BSt w g b K y d A n c q2 (wx.setCell ⟨g2, o, none⟩ u) := by
  obtain ⟨y', d', A', n', c', hr'⟩ := h.res
  refine ⟨h.R.setCell (p := ⟨g2, o, none⟩) (show g < g2 by omega) _, h.P.setCell (p := ⟨g2, o, none⟩) (show w.heap.size ≤ g2 by omega) _, ⟨_, _, _, _, _, hr'.off1 (by omega) _⟩, h.box.off1 (by omega) _, hn, Or.inr ?_⟩
  simpa [World.setCell] using hr
theorem RowAt.past {w w' : World} {g B lo hi n sz : Nat} {A : Option Addr} {f : Nat → Value} (hg : g < lo) (hB : hi ≤ B) (h : RowAt w lo hi A n sz f) (hp : Past g B w w') : RowAt w' lo hi A n sz f :=
  h.keep fun b o h1 h2 => by simp only [World.cell?, hp.block b (by omega) (by omega)]
theorem ptN_le (k : Int) (n : Nat) : ptN k n ≤ n + 1 := by unfold ptN; split <;> (try split) <;> omega
def PutSome (n : Nat) (w : World) (e : Ending) (w' : World) : Prop :=
  ∃ (y8 d8 k8 : Int) (A8 : Option Addr) (n8 c8 : Nat) (q8 : Nat → Hd), e = .returned (.tuple #[.agg #[.int .i64 y8, .int .i64 d8, .slice A8 n8 c8], .int .i64 k8]) ∧ n8 ≤ n + 1 ∧ RowOwn 54 w' w.heap.size w'.heap.size A8 n8 c8 7 (HdF q8) ∧ Below w.heap.size w w'
theorem sbp_some (w : World) (lo hi : Nat) (A : Option Addr) (n c : Nat) (y d now : Int) (q : Nat → Hd) (a1 a2 a3 a4 : Int) (a5 a6 : Bool) (h : RowAt w lo hi A n 7 (HdF q)) (hi' : hi ≤ w.heap.size) (hn : n ≤ 1048576) (hnc : n ≤ c) :
    Calls Try.prog 24 #[.agg #[.int .i64 y, .int .i64 d, .slice A n c], .agg #[.int .i64 a1, .int .i64 a2, .int .i64 a3, .int .i64 a4, .bool a5, .bool a6], .int .i64 now] w (PutSome n w) :=
  (sbp_any w lo hi A n c y d now q ⟨a1, a2, a3, a4, a5, a6⟩ h hi' hn hnc).mono fun e w' ⟨A8, c8, he, hr, hb⟩ => ⟨_, _, _, A8, _, c8, _, he, ptN_le _ _, hr, hb⟩
theorem past_cells {g : Nat} {W w1 : World} (hb : Past g W.heap.size W w1) (b : Nat) (h1 : b < W.heap.size) (h2 : b ≠ g) {f : Nat → Option Value} (hf : ∀ o : Nat, W.cell? ⟨b, o, none⟩ = f o) (hz : ∀ o : Nat, W.frozen? ⟨b, o, none⟩ = false) : (∀ o : Nat, w1.cell? ⟨b, o, none⟩ = f o) ∧ ∀ o : Nat, w1.frozen? ⟨b, o, none⟩ = false :=
  ⟨fun o => (hb.cells.1 b o h1 h2).trans (hf o), fun o => (hb.cells.2 b o h1 h2).trans (hz o)⟩
def MadeB (g K : Nat) (w : World) (e : Ending) (w' : World) : Prop :=
  ∃ (y d now : Int) (A : Option Addr) (n c : Nat) (q : Nat → Hd), e = .returned (.tuple #[.agg #[.int .i64 y, .int .i64 d, .slice A n c], .int .i64 now]) ∧ RowAt w' w.heap.size w'.heap.size A n 7 (HdF q) ∧ n ≤ c ∧ n ≤ 14 ∧ RdLe w' g K ∧ Past g w.heap.size w w'
theorem bst_end {w wx : World} {g b K : Nat} {y d now : Int} {A : Option Addr} {n c : Nat} {q : Nat → Hd} (h : BSt w g b K y d A n c q wx) (hg : g < w.heap.size) (hb : w.heap.size < b) (hn : n ≤ 14) :
    MadeB g K w (.returned (.tuple #[.agg #[.int .i64 y, .int .i64 d, .slice A n c], .int .i64 now])) (((wx.setCell ⟨w.heap.size, 0, none⟩ (.int .i64 y)).setCell ⟨w.heap.size, 1, none⟩ (.int .i64 d)).setCell ⟨w.heap.size, 2, none⟩ (.slice A n c)) := by
  refine ⟨y, d, now, A, n, c, q, rfl, ?_, h.row.1, hn, ((h.R.setCell (p := ⟨w.heap.size, 0, none⟩) hg _).setCell (p := ⟨w.heap.size, 1, none⟩) hg _).setCell (p := ⟨w.heap.size, 2, none⟩) hg _, ((h.P.setCell (p := ⟨w.heap.size, 0, none⟩) (Nat.le_refl _) _).setCell (p := ⟨w.heap.size, 1, none⟩) (Nat.le_refl _) _).setCell (p := ⟨w.heap.size, 2, none⟩) (Nat.le_refl _) _⟩
  have h1 := ((h.row.at_.setC (p := ⟨w.heap.size, 0, none⟩) (Or.inl (show w.heap.size < b + 1 by omega)) (.int .i64 y)).setC (p := ⟨w.heap.size, 1, none⟩) (Or.inl (show w.heap.size < b + 1 by omega)) (.int .i64 d)).setC (p := ⟨w.heap.size, 2, none⟩) (Or.inl (show w.heap.size < b + 1 by omega)) (.slice A n c)
  exact h1.wide (by omega) (by simp [World.setCell])
set_option maxRecDepth 100000 in
set_option maxHeartbeats 8000000 in
theorem buffer_draw (w : World) (g k : Nat) (h : RdLe w g k) (hk : k ≤ 999000) :
    Calls Try.prog 60 #[.pointer (some ⟨g, 0, none⟩)] w (MadeB g (k + 100) w) := by
  have hg := h.lt
  go_enter Try.func60, Try.ntmps60
  go_wp2_with fail
  refine (pk _ g k _ (by repeat (first | assumption | (with_reducible refine RdLe.drew ?_) | (with_reducible refine RdLe.drewN ?_ _) | (with_reducible refine RdLe.alloc ?_ _) | (with_reducible refine RdLe.setC ?_ ?_ _; focus (first | (simp; done) | (simp; omega) | omega)))) (by omega) (by omega) (by omega)).mono ?_
  rintro e w1 ⟨⟨v1, ⟨vl1, vh1⟩, rfl, hR1, hb1⟩, hs1⟩
  clear hs1
  go_wp2_with fail
  refine (pk _ g (k + 1) _ (by repeat (first | assumption | (with_reducible refine RdLe.drew ?_) | (with_reducible refine RdLe.drewN ?_ _) | (with_reducible refine RdLe.alloc ?_ _) | (with_reducible refine RdLe.setC ?_ ?_ _; focus (first | (simp; done) | (simp; omega) | omega)))) (by omega) (by omega) (by omega)).mono ?_
  rintro e w2 ⟨⟨v2, ⟨vl2, vh2⟩, rfl, hR2, hb2⟩, hs2⟩
  clear hs2
  obtain ⟨hc1, hf1⟩ := hb1.cells
  obtain ⟨hc2, hf2⟩ := hb2.cells
  have hy1 := hb1.size
  have hy2 := hb2.size
  try simp at hy1
  have hn0 : ¬ w.heap.size = g := by omega
  have hz1 : w.heap.size < w1.heap.size := by omega
  have hz2 : w.heap.size < w2.heap.size := by omega
  have hP2 : Past g w.heap.size w w2 := Past.step (Past.step (Past.of (Ba _ _)) (Nat.le_refl _) hb1) (Nat.le_refl _) hb2
  have hres : Bx w2 w.heap.size 0 0 none 0 0 := by
    refine ⟨(hc2 _ _ (by omega) hn0).trans ((hc1 _ _ (by simp) hn0).trans (by simp [go_sem])), (hc2 _ _ (by omega) hn0).trans ((hc1 _ _ (by simp) hn0).trans (by simp [go_sem])), (hc2 _ _ (by omega) hn0).trans ((hc1 _ _ (by simp) hn0).trans (by simp [go_sem])), fun j => (hf2 _ _ (by omega) hn0).trans ((hf1 _ _ (by simp) hn0).trans (by simp [go_sem])), hz2⟩
  have HRES := Lib.hid hres
  have HP2 := Lib.hid hP2
  clear hc1 hf1 hc2 hf2 hres hP2 hb1 hb2
  have hgz : g < w2.heap.size := by omega
  go_wp2_with fail
  have hS0 : BSt w g (w2.heap.size + 1) (k + 2) v1 (20 * v2) (some ⟨w2.heap.size, 0, none⟩) 0 0 (fun _ => Hd0) ((w2.alloc (.cells #[] 54)).alloc (.cells #[.int .i64 v1, .int .i64 (20 * v2), .slice (some ⟨w2.heap.size, 0, none⟩) 0 0] 28)) := by
    refine ⟨(hR2.alloc _).alloc _, (HP2.out.trans (Past.of (((Below.refl _ w2).alloc (by omega) _).alloc (by simp; omega) _))), ⟨_, _, _, _, _, HRES.out.past hn0 (Past.of ((Ba _ _).alloc (by simp) _))⟩, ⟨by simp [go_sem], by simp [go_sem], by simp [go_sem], fun j => by simp [go_sem], by simp⟩, Nat.le_refl _, Or.inl rfl⟩
  generalize hW : (w2.alloc (.cells #[] 54)).alloc (.cells #[.int .i64 v1, .int .i64 (20 * v2), .slice (some ⟨w2.heap.size, 0, none⟩) 0 0] 28) = wb at hS0 ⊢
  generalize hB : w2.heap.size + 1 = b at hS0 ⊢
  have hbw : w.heap.size < b := by omega
  clear hW hB HP2 HRES hR1 hR2
  have HS0 := Lib.hid hS0
  clear hS0
  refine (pk _ g _ _ HS0.out.R (by omega) (by omega) (by omega)).mono ?_
  rintro e w3 ⟨⟨v3, ⟨vl3, vh3⟩, rfl, hR3, hb3⟩, hs3⟩
  have HS1 := Lib.hid (HS0.out.past hg hbw hb3 hR3)
  clear hs3 hb3 hR3 HS0
  go_wp2_with fail
  refine (pk _ g _ _ HS1.out.R (by omega) (by omega) (by omega)).mono ?_
  rintro e w4 ⟨⟨v4, ⟨vl4, vh4⟩, rfl, hR4, hb4⟩, hs4⟩
  have HS2 := Lib.hid (HS1.out.past hg hbw hb4 hR4)
  clear hs4 hb4 hR4 HS1
  obtain ⟨M4, rfl⟩ : ∃ M : Nat, v4 = M := ⟨v4.toNat, by omega⟩
  go_wp2_with fail
  refine (pk _ g _ _ HS2.out.R (by omega) (by omega) (by omega)).mono ?_
  rintro e w5 ⟨⟨v5, ⟨vl5, vh5⟩, rfl, hR5, hb5⟩, hs5⟩
  have HS3 := Lib.hid ((HS2.out.past hg hbw hb5 hR5).mono (show k + 2 + 1 + 1 + 1 ≤ k + 10 + 4 * 0 by omega))
  clear hs5 hb5 hR5 HS2
  obtain ⟨bl, hbl⟩ : ∃ b : Bool, (v5 == 0) = b := ⟨_, rfl⟩
  go_upto_if 24 with fail
  clear hbl
  go_cut [6] (fun s wx => ∃ M : Nat, M ≤ 14 ∧ s = .int .i64 (M : Nat) ∧ Hid (BSt w g b (k + 10 + 4 * 0) v1 (20 * v2) (some ⟨w2.heap.size, 0, none⟩) 0 0 (fun _ => Hd0) wx))
  case first =>
    cases bl
    · go_wp2_with fail
      go_meet
      exact ⟨M4, by omega, rfl, HS3⟩
    · go_wp2_with fail
      go_meet
      exact ⟨14, by omega, rfl, HS3⟩
  case rest =>
    obtain ⟨M, hM, rfl, HS4⟩ := hcut
    clear HS3
    go_wp2_with fail
    go_loopw [5, 7] (fun nw i wr => ∃ (j : Nat) (now y d : Int) (A : Option Addr) (n c : Nat) (q : Nat → Hd), j ≤ M ∧ i = .int .i64 (j : Nat) ∧ nw = .int .i64 now ∧ n ≤ j ∧ Hid (BSt w g b (k + 10 + 4 * j) y d A n c q wr)) (fun _ i _ => M - (intOf i).toNat)
    case atStart => exact ⟨0, _, _, _, _, _, _, _, Nat.zero_le _, rfl, rfl, Nat.le_refl _, HS4⟩
    case round =>
      obtain ⟨j, now, y, d, A, n, c, q, hj, rfl, rfl, hnj, HS⟩ := hrel
      clear HS4
      have hbr := HS.out.box.2.2.2.2
      by_cases hjn : j < M
      · go_upto_region 9 with fail
        go_cut [8, 9] (fun s8 s9 wx => ∃ (b8 : Nat) (y8 d8 : Int) (A8 : Option Addr) (n8 c8 : Nat) (q8 : Nat → Hd) (u : Value), s8 = .pointer (some ⟨b8, 0, none⟩) ∧ s9 = u ∧ n8 ≤ n + 1 ∧ Hid (Bx wx b8 y8 d8 A8 n8 c8) ∧ Hid (BRow wx (b + 1) wx.heap.size A8 n8 c8 q8) ∧ Hid (BSt w g b (k + 10 + 4 * j + 1 + 1 + 1) y d A n c q wx))
        case first =>
          rename_i K2 h4 Q1 K1 h3 K0 h2 J0 K9 h1 h0
          clear h4 h3 h2
          have H1 := Lib.hid h1
          have H0 := Lib.hid h0
          clear h1 h0
          obtain ⟨z0, z1, z2, z3, z4⟩ := HS.out.box
          obtain ⟨hnc, hor⟩ := HS.out.row
          have HRA := Lib.hid HS.out.row.at_
          have hR0 := HS.out.R
          have hnbig : n ≤ 1048576 := by omega
          have hng : b ≠ g := by omega
          have hng2 : ¬ b = g := by omega
          have hgr : g < wr.heap.size := by omega
          have hgd : ∀ W : World, W.drew.heap.size = W.heap.size := fun _ => rfl
          clear hor
          refine wp_region_anyR (R := fun a b => Exc (fun k => k = g) a b) (by kernel_rfl) (fun w => Exc.refl _ _) (fun _ _ _ h k => Exc.trans h k) (by kernel_rfl) ?_
          simp only [List.size_toArray, List.length_cons, List.length_nil, Nat.zero_add, Nat.reduceAdd]
          refine any_read 0 (by decide +kernel) rfl rfl rfl ?_; apply Exists.intro; refine ⟨fun w' hb' => ?_, ?_⟩; (focus (obtain ⟨hc', hf'⟩ := exc_cells hb'; clear hb'; go_simp; try exact rfl)); have e0 : True := trivial; clear e0; refine any_putK ?_; intro K hK; go_simp; refine hK _ ?_; clear hK K
          refine any_pure 1 (by decide +kernel) rfl rfl ?_; apply Exists.intro; refine ⟨fun w' => ?_, ?_⟩; (focus (first | (fail) | (go_simp; try exact rfl))); have e0 : True := trivial; clear e0; refine any_putK ?_; intro K hK; go_simp; refine hK _ ?_; clear hK K
          refine any_read 2 (by decide +kernel) rfl rfl rfl ?_; apply Exists.intro; refine ⟨fun w' hb' => ?_, ?_⟩; (focus (obtain ⟨hc', hf'⟩ := exc_cells hb'; clear hb'; go_simp; try exact rfl)); have e0 : True := trivial; clear e0; refine any_putK ?_; intro K hK; go_simp; refine hK _ ?_; clear hK K
          refine any_pure 3 (by decide +kernel) rfl rfl ?_; apply Exists.intro; refine ⟨fun w' => ?_, ?_⟩; (focus (first | (fail) | (go_simp; try exact rfl))); have e0 : True := trivial; clear e0; refine any_putK ?_; intro K hK; go_simp; refine hK _ ?_; clear hK K
          refine any_pure 6 (by decide +kernel) rfl rfl ?_; apply Exists.intro; refine ⟨fun w' => ?_, ?_⟩; (focus (first | (fail) | (go_simp; try exact rfl))); have e0 : True := trivial; clear e0; refine any_putK ?_; intro K hK; go_simp; refine hK _ ?_; clear hK K
          refine any_pure 11 (by decide +kernel) rfl rfl ?_; apply Exists.intro; refine ⟨fun w' => ?_, ?_⟩; (focus (first | (fail) | (go_simp; try exact rfl))); have e0 : True := trivial; clear e0; refine any_putK ?_; intro K hK; go_simp; refine hK _ ?_; clear hK K
          refine any_pure 15 (by decide +kernel) rfl rfl ?_; apply Exists.intro; refine ⟨fun w' => ?_, ?_⟩; (focus (first | (fail) | (go_simp; try exact rfl))); have e0 : True := trivial; clear e0; refine any_putK ?_; intro K hK; go_simp; refine hK _ ?_; clear hK K
          refine any_branch (by decide +kernel) ?_
          simp only [List.size_toArray, List.length_cons, List.length_nil, Nat.zero_add, Nat.reduceAdd]
          repeat' (first | exact lt_zero | refine lt_succ ?_ ?_ | exact any_none (by decide +kernel) | fail)
          · refine any_one rfl rfl rfl ?_
            go_wp2_with (fail)
            refine then_any rfl ?_ ?_; focus (first | (intro h; have h2 : false = true := h; cases h2) | (intro _; show Exc _ _ _; first | assumption | (first | exact Exc.of_past rfl (by assumption) | exact Exc.of_below (by assumption) (fun k hk => Or.inl hk) | (repeat (first | (with_reducible exact Exc.refl _ _) | (exact exc_undrew _ _) | (with_reducible refine Exc.drew ?_) | (with_reducible refine Exc.alloc ?_ _))))))
            refine any_branch (by decide +kernel) ?_
            simp only [List.size_toArray, List.length_cons, List.length_nil, Nat.zero_add, Nat.reduceAdd]
            repeat' (first | exact lt_zero | refine lt_succ ?_ ?_ | exact any_none (by decide +kernel) | fail)
            · refine any_one rfl rfl rfl ?_
              go_wp2_with ((go_at_call 62; refine (pk _ g (k + 10 + 4 * j) _ (by repeat (first | assumption | (with_reducible refine RdLe.drew ?_) | (with_reducible refine RdLe.drewN ?_ _) | (with_reducible refine RdLe.alloc ?_ _) | (with_reducible refine RdLe.setC ?_ ?_ _; focus (first | (simp; done) | (simp; omega) | omega)))) (by omega) (by omega) (by omega)).mono ?_; rintro e wp1 ⟨⟨vp1, ⟨vlp1, vhp1⟩, rfl, hRp1, hbp1⟩, hsp1⟩; clear hsp1; have hzp1 := hbp1.size; (try simp at hzp1); (try (have g0_1 := (past_cells hbp1 (wr.heap.size) (by simp) (by omega) (f := fun o => ([.int .i64 0, .int .i64 0, .slice none 0 0] : List Value)[o]?) (fun o => by simp [go_sem]) (fun o => by simp [go_sem])); obtain ⟨g0_1, f0_1⟩ := g0_1; have s0_1 : wr.heap.size < wp1.heap.size := (by have := hbp1.size; simp at this; omega)))))
              refine then_any rfl ?_ ?_; focus (first | (intro h; have h2 : false = true := h; cases h2) | (intro _; show Exc _ _ _; first | assumption | (first | exact Exc.of_past rfl (by assumption) | exact Exc.of_below (by assumption) (fun k hk => Or.inl hk) | (repeat (first | (with_reducible exact Exc.refl _ _) | (exact exc_undrew _ _) | (with_reducible refine Exc.drew ?_) | (with_reducible refine Exc.alloc ?_ _))))))
              refine any_pure 5 (by decide +kernel) rfl rfl ?_; apply Exists.intro; refine ⟨fun w' => ?_, ?_⟩; (focus (first | (fail) | (go_simp; try exact rfl))); have e0 : True := trivial; clear e0; refine any_putK ?_; intro K hK; go_simp; refine hK _ ?_; clear hK K
              refine any_branch (by decide +kernel) ?_
              simp only [List.size_toArray, List.length_cons, List.length_nil, Nat.zero_add, Nat.reduceAdd]
              repeat' (first | exact lt_zero | refine lt_succ ?_ ?_ | exact any_none (by decide +kernel) | fail)
              · refine any_one rfl rfl rfl ?_
                go_wp2_with ((go_at_call 62; refine (pk _ g (k + 10 + 4 * j + 1) _ (by repeat (first | assumption | (with_reducible refine RdLe.drew ?_) | (with_reducible refine RdLe.drewN ?_ _) | (with_reducible refine RdLe.alloc ?_ _) | (with_reducible refine RdLe.setC ?_ ?_ _; focus (first | (simp; done) | (simp; omega) | omega)))) (by omega) (by omega) (by omega)).mono ?_; rintro e wp2 ⟨⟨vp2, ⟨vlp2, vhp2⟩, rfl, hRp2, hbp2⟩, hsp2⟩; clear hsp2; have hzp2 := hbp2.size; (try simp at hzp2); (try (have g0_2 := (past_cells hbp2 (wr.heap.size) (by first | omega | (simp; omega)) (by omega) g0_1 f0_1); obtain ⟨g0_2, f0_2⟩ := g0_2; have s0_2 : wr.heap.size < wp2.heap.size := (by omega))); (try (have g1_2 := (past_cells hbp2 (wp1.heap.size) (by simp) (by omega) (f := fun o => ([.int .i64 0, .int .i64 0, .slice none 0 0] : List Value)[o]?) (fun o => by simp [go_sem]) (fun o => by simp [go_sem])); obtain ⟨g1_2, f1_2⟩ := g1_2; have s1_2 : wp1.heap.size < wp2.heap.size := (by have := hbp2.size; simp at this; omega)))))
                refine then_any rfl ?_ ?_; focus (first | (intro h; have h2 : false = true := h; cases h2) | (intro _; show Exc _ _ _; first | assumption | (first | exact Exc.of_past rfl (by assumption) | exact Exc.of_below (by assumption) (fun k hk => Or.inl hk) | (repeat (first | (with_reducible exact Exc.refl _ _) | (exact exc_undrew _ _) | (with_reducible refine Exc.drew ?_) | (with_reducible refine Exc.alloc ?_ _))))))
                refine any_pure 8 (by decide +kernel) rfl rfl ?_; apply Exists.intro; refine ⟨fun w' => ?_, ?_⟩; (focus (first | (fail) | (go_simp; try exact rfl))); have e0 : True := trivial; clear e0; refine any_putK ?_; intro K hK; go_simp; refine hK _ ?_; clear hK K
                refine any_pure 9 (by decide +kernel) rfl rfl ?_; apply Exists.intro; refine ⟨fun w' => ?_, ?_⟩; (focus (first | (fail) | (go_simp; try exact rfl))); have e0 : True := trivial; clear e0; refine any_putK ?_; intro K hK; go_simp; refine hK _ ?_; clear hK K
                refine any_pure 10 (by decide +kernel) rfl rfl ?_; apply Exists.intro; refine ⟨fun w' => ?_, ?_⟩; (focus (first | (fail) | (go_simp; try exact rfl))); have e0 : True := trivial; clear e0; refine any_putK ?_; intro K hK; go_simp; refine hK _ ?_; clear hK K
                refine any_branch (by decide +kernel) ?_
                simp only [List.size_toArray, List.length_cons, List.length_nil, Nat.zero_add, Nat.reduceAdd]
                repeat' (first | exact lt_zero | refine lt_succ ?_ ?_ | exact any_none (by decide +kernel) | fail)
                · refine any_one rfl rfl rfl ?_
                  go_wp2_with ((go_at_call 62; refine (pk _ g (k + 10 + 4 * j + 1 + 1) _ (by repeat (first | assumption | (with_reducible refine RdLe.drew ?_) | (with_reducible refine RdLe.drewN ?_ _) | (with_reducible refine RdLe.alloc ?_ _) | (with_reducible refine RdLe.setC ?_ ?_ _; focus (first | (simp; done) | (simp; omega) | omega)))) (by omega) (by omega) (by omega)).mono ?_; rintro e wp3 ⟨⟨vp3, ⟨vlp3, vhp3⟩, rfl, hRp3, hbp3⟩, hsp3⟩; clear hsp3; have hzp3 := hbp3.size; (try simp at hzp3); (try (have g0_3 := (past_cells hbp3 (wr.heap.size) (by first | omega | (simp; omega)) (by omega) g0_2 f0_2); obtain ⟨g0_3, f0_3⟩ := g0_3; have s0_3 : wr.heap.size < wp3.heap.size := (by omega))); (try (have g1_3 := (past_cells hbp3 (wp1.heap.size) (by first | omega | (simp; omega)) (by omega) g1_2 f1_2); obtain ⟨g1_3, f1_3⟩ := g1_3; have s1_3 : wp1.heap.size < wp3.heap.size := (by omega))); (try (have g2_3 := (past_cells hbp3 (wp2.heap.size) (by simp) (by omega) (f := fun o => ([.int .i64 0, .int .i64 0, .slice none 0 0] : List Value)[o]?) (fun o => by simp [go_sem]) (fun o => by simp [go_sem])); obtain ⟨g2_3, f2_3⟩ := g2_3; have s2_3 : wp2.heap.size < wp3.heap.size := (by have := hbp3.size; simp at this; omega)))))
                  refine then_any rfl ?_ ?_; focus (first | (intro h; have h2 : false = true := h; cases h2) | (intro _; show Exc _ _ _; first | assumption | (first | exact Exc.of_past rfl (by assumption) | exact Exc.of_below (by assumption) (fun k hk => Or.inl hk) | (repeat (first | (with_reducible exact Exc.refl _ _) | (exact exc_undrew _ _) | (with_reducible refine Exc.drew ?_) | (with_reducible refine Exc.alloc ?_ _))))))
                  refine any_pure 13 (by decide +kernel) rfl rfl ?_; apply Exists.intro; refine ⟨fun w' => ?_, ?_⟩; (focus (first | (fail) | (go_simp; try exact rfl))); have e0 : True := trivial; clear e0; refine any_putK ?_; intro K hK; go_simp; refine hK _ ?_; clear hK K
                  refine any_pure 14 (by decide +kernel) rfl rfl ?_; apply Exists.intro; refine ⟨fun w' => ?_, ?_⟩; (focus (first | (fail) | (go_simp; try exact rfl))); have e0 : True := trivial; clear e0; refine any_putK ?_; intro K hK; go_simp; refine hK _ ?_; clear hK K
                  refine any_branch (by decide +kernel) ?_
                  simp only [List.size_toArray, List.length_cons, List.length_nil, Nat.zero_add, Nat.reduceAdd]
                  repeat' (first | exact lt_zero | refine lt_succ ?_ ?_ | exact any_none (by decide +kernel) | fail)
                  · refine any_one rfl rfl rfl ?_
                    go_wp2_with ((go_at_call 24; go_loud (refine (sbp_some _ (b + 1) wr.heap.size A n c y d now q _ _ _ _ _ _ ?_ ?_ hnbig hnc).mono ?_; (focus (exact RowAt.past (g := g) (by omega) (Nat.le_refl _) HRA.out (by repeat (first | (with_reducible exact Past.refl _ _ _) | (with_reducible refine Past.alloc ?_ (by simp) _) | (with_reducible refine Past.drew ?_) | (with_reducible refine Past.drewN ?_ _) | (with_reducible refine Past.setC ?_ ?_ _; focus (first | (with_reducible exact Nat.le_refl _) | (simp; done) | (simp; omega) | omega)) | (with_reducible refine Past.step ?_ (by simp) (by assumption)))))); (focus (first | omega | (simp; omega))); rintro e wp4 ⟨y8, d8, k8, A8, n8, c8, q8, rfl, hn8, hO8, hb8⟩; obtain ⟨L8, hL8, hO9⟩ : ∃ L : Nat, L = _ ∧ RowOwn 54 wp4 L wp4.heap.size A8 n8 c8 7 (HdF q8) := ⟨_, rfl, hO8⟩; (try simp at hL8); clear hO8; have hbp4 := Past.of (g := g) hb8; have hRp4 := (fun h => RdLe.below (g := g) (q := k + 10 + 4 * j + 1 + 1 + 1) h hb8) (by repeat (first | assumption | (with_reducible refine RdLe.drew ?_) | (with_reducible refine RdLe.drewN ?_ _) | (with_reducible refine RdLe.alloc ?_ _) | (with_reducible refine RdLe.setC ?_ ?_ _; focus (first | (simp; done) | (simp; omega) | omega)))); have hzp4 := hb8.size; (try simp at hzp4); (try (have g0_4 := (past_cells hbp4 (wr.heap.size) (by first | omega | (simp; omega)) (by omega) g0_3 f0_3); obtain ⟨g0_4, f0_4⟩ := g0_4; have s0_4 : wr.heap.size < wp4.heap.size := (by omega))); (try (have g1_4 := (past_cells hbp4 (wp1.heap.size) (by first | omega | (simp; omega)) (by omega) g1_3 f1_3); obtain ⟨g1_4, f1_4⟩ := g1_4; have s1_4 : wp1.heap.size < wp4.heap.size := (by omega))); (try (have g2_4 := (past_cells hbp4 (wp2.heap.size) (by first | omega | (simp; omega)) (by omega) g2_3 f2_3); obtain ⟨g2_4, f2_4⟩ := g2_4; have s2_4 : wp2.heap.size < wp4.heap.size := (by omega))); (try (have g3_4 := (past_cells hbp4 (wp3.heap.size) (by simp) (by omega) (f := fun o => ([.int .i64 0, .int .i64 0, .slice none 0 0] : List Value)[o]?) (fun o => by simp [go_sem]) (fun o => by simp [go_sem])); obtain ⟨g3_4, f3_4⟩ := g3_4; have s3_4 : wp3.heap.size < wp4.heap.size := (by have := hbp4.size; simp at this; omega))))))
                    refine then_any rfl ?_ ?_; focus (first | (intro h; have h2 : false = true := h; cases h2) | (intro _; show Exc _ _ _; first | assumption | (first | exact Exc.of_past rfl (by assumption) | exact Exc.of_below (by assumption) (fun k hk => Or.inl hk) | (repeat (first | (with_reducible exact Exc.refl _ _) | (exact exc_undrew _ _) | (with_reducible refine Exc.drew ?_) | (with_reducible refine Exc.alloc ?_ _))))))
                    refine any_pure 17 (by decide +kernel) rfl rfl ?_; apply Exists.intro; refine ⟨fun w' => ?_, ?_⟩; (focus (first | (fail) | (go_simp; try exact rfl))); have e0 : True := trivial; clear e0; refine any_putK ?_; intro K hK; go_simp; refine hK _ ?_; clear hK K
                    refine any_pure 18 (by decide +kernel) rfl rfl ?_; apply Exists.intro; refine ⟨fun w' => ?_, ?_⟩; (focus (first | (fail) | (go_simp; try exact rfl))); have e0 : True := trivial; clear e0; refine any_putK ?_; intro K hK; go_simp; refine hK _ ?_; clear hK K
                    refine any_pure 19 (by decide +kernel) rfl rfl ?_; apply Exists.intro; refine ⟨fun w' => ?_, ?_⟩; (focus (first | (fail) | (go_simp; try exact rfl))); have e0 : True := trivial; clear e0; refine any_putK ?_; intro K hK; go_simp; refine hK _ ?_; clear hK K
                    refine any_branch (by decide +kernel) ?_
                    simp only [List.size_toArray, List.length_cons, List.length_nil, Nat.zero_add, Nat.reduceAdd]
                    repeat' (first | exact lt_zero | refine lt_succ ?_ ?_ | exact any_none (by decide +kernel) | fail)
                    · refine any_one rfl rfl rfl ?_
                      go_wp2_with (fail)
                      refine then_any rfl ?_ ?_; focus (first | (intro h; have h2 : false = true := h; cases h2) | (intro _; show Exc _ _ _; first | assumption | (first | exact Exc.of_past rfl (by assumption) | exact Exc.of_below (by assumption) (fun k hk => Or.inl hk) | (repeat (first | (with_reducible exact Exc.refl _ _) | (exact exc_undrew _ _) | (with_reducible refine Exc.drew ?_) | (with_reducible refine Exc.alloc ?_ _))))))
                      refine any_pure 22 (by decide +kernel) rfl rfl ?_; apply Exists.intro; refine ⟨fun w' => ?_, ?_⟩; (focus (first | (fail) | (go_simp; try exact rfl))); have e0 : True := trivial; clear e0; refine any_putK ?_; intro K hK; go_simp; refine hK _ ?_; clear hK K
                      refine any_end (by decide +kernel) ?_
                      have h1 := H1.out
                      have h0 := H0.out
                      go_wp2_with fail
                      go_meet
                      refine ⟨_, y8, d8, A8, n8, c8, q8, _, rfl, rfl, hn8, Lib.hid ?_, Lib.hid ?_, Lib.hid ?_⟩
                      · refine ⟨?_, ?_, ?_, fun j => ?_, ?_⟩
                        · go_simp
                        · go_simp
                        · go_simp
                        · go_simp
                        · first | (simp [World.setCell]; done) | (simp [World.setCell]; omega)
                      · refine ⟨own_nc hO9, Or.inr ?_⟩
                        refine RowOwn.wide (lo := L8) (hi := wp4.heap.size) ?_ (by first | omega | (simp; omega) | (simp; done)) (by first | (simp [World.setCell]; done) | (simp [World.setCell]; omega))
                        repeat (first | (with_reducible exact hO9) | (with_reducible refine RowOwn.drew ?_) | (with_reducible refine RowOwn.alloc ?_ _) | (with_reducible refine RowOwn.setC ?_ ?_ _; focus (first | (left; first | omega | (simp; omega) | (simp; done)) | (right; first | omega | (simp; omega) | (simp; done)))))
                      · exact HS.out.past hg hbw (by repeat (first | (with_reducible exact Past.refl _ _ _) | (with_reducible refine Past.alloc ?_ (by simp) _) | (with_reducible refine Past.drew ?_) | (with_reducible refine Past.drewN ?_ _) | (with_reducible refine Past.setC ?_ ?_ _; focus (first | (with_reducible exact Nat.le_refl _) | (simp; done) | (simp; omega) | omega)) | (with_reducible refine Past.step ?_ (by simp) (by assumption)))) (by repeat (first | assumption | (with_reducible refine RdLe.drew ?_) | (with_reducible refine RdLe.drewN ?_ _) | (with_reducible refine RdLe.alloc ?_ _) | (with_reducible refine RdLe.setC ?_ ?_ _; focus (first | (simp; done) | (simp; omega) | omega))))
          · refine any_one rfl rfl rfl ?_
            go_wp2_with ((go_at_call 62; refine (pk _ g (k + 10 + 4 * j) _ (by repeat (first | assumption | (with_reducible refine RdLe.drew ?_) | (with_reducible refine RdLe.drewN ?_ _) | (with_reducible refine RdLe.alloc ?_ _) | (with_reducible refine RdLe.setC ?_ ?_ _; focus (first | (simp; done) | (simp; omega) | omega)))) (by omega) (by omega) (by omega)).mono ?_; rintro e wp1 ⟨⟨vp1, ⟨vlp1, vhp1⟩, rfl, hRp1, hbp1⟩, hsp1⟩; clear hsp1; have hzp1 := hbp1.size; (try simp at hzp1); (try (have g0_1 := (past_cells hbp1 (wr.heap.size) (by simp) (by omega) (f := fun o => ([.int .i64 0, .int .i64 0, .slice none 0 0] : List Value)[o]?) (fun o => by simp [go_sem]) (fun o => by simp [go_sem])); obtain ⟨g0_1, f0_1⟩ := g0_1; have s0_1 : wr.heap.size < wp1.heap.size := (by have := hbp1.size; simp at this; omega)))))
            refine then_any rfl ?_ ?_; focus (first | (intro h; have h2 : false = true := h; cases h2) | (intro _; show Exc _ _ _; first | assumption | (first | exact Exc.of_past rfl (by assumption) | exact Exc.of_below (by assumption) (fun k hk => Or.inl hk) | (repeat (first | (with_reducible exact Exc.refl _ _) | (exact exc_undrew _ _) | (with_reducible refine Exc.drew ?_) | (with_reducible refine Exc.alloc ?_ _))))))
            refine any_pure 5 (by decide +kernel) rfl rfl ?_; apply Exists.intro; refine ⟨fun w' => ?_, ?_⟩; (focus (first | (fail) | (go_simp; try exact rfl))); have e0 : True := trivial; clear e0; refine any_putK ?_; intro K hK; go_simp; refine hK _ ?_; clear hK K
            refine any_branch (by decide +kernel) ?_
            simp only [List.size_toArray, List.length_cons, List.length_nil, Nat.zero_add, Nat.reduceAdd]
            repeat' (first | exact lt_zero | refine lt_succ ?_ ?_ | exact any_none (by decide +kernel) | fail)
            · refine any_one rfl rfl rfl ?_
              go_wp2_with (fail)
              refine then_any rfl ?_ ?_; focus (first | (intro h; have h2 : false = true := h; cases h2) | (intro _; show Exc _ _ _; first | assumption | (first | exact Exc.of_past rfl (by assumption) | exact Exc.of_below (by assumption) (fun k hk => Or.inl hk) | (repeat (first | (with_reducible exact Exc.refl _ _) | (exact exc_undrew _ _) | (with_reducible refine Exc.drew ?_) | (with_reducible refine Exc.alloc ?_ _))))))
              refine any_branch (by decide +kernel) ?_
              simp only [List.size_toArray, List.length_cons, List.length_nil, Nat.zero_add, Nat.reduceAdd]
              repeat' (first | exact lt_zero | refine lt_succ ?_ ?_ | exact any_none (by decide +kernel) | fail)
              · refine any_one rfl rfl rfl ?_
                go_wp2_with ((go_at_call 62; refine (pk _ g (k + 10 + 4 * j + 1) _ (by repeat (first | assumption | (with_reducible refine RdLe.drew ?_) | (with_reducible refine RdLe.drewN ?_ _) | (with_reducible refine RdLe.alloc ?_ _) | (with_reducible refine RdLe.setC ?_ ?_ _; focus (first | (simp; done) | (simp; omega) | omega)))) (by omega) (by omega) (by omega)).mono ?_; rintro e wp2 ⟨⟨vp2, ⟨vlp2, vhp2⟩, rfl, hRp2, hbp2⟩, hsp2⟩; clear hsp2; have hzp2 := hbp2.size; (try simp at hzp2); (try (have g0_2 := (past_cells hbp2 (wr.heap.size) (by first | omega | (simp; omega)) (by omega) g0_1 f0_1); obtain ⟨g0_2, f0_2⟩ := g0_2; have s0_2 : wr.heap.size < wp2.heap.size := (by omega))); (try (have g1_2 := (past_cells hbp2 (wp1.heap.size) (by simp) (by omega) (f := fun o => ([.int .i64 0, .int .i64 0, .slice none 0 0] : List Value)[o]?) (fun o => by simp [go_sem]) (fun o => by simp [go_sem])); obtain ⟨g1_2, f1_2⟩ := g1_2; have s1_2 : wp1.heap.size < wp2.heap.size := (by have := hbp2.size; simp at this; omega)))))
                refine then_any rfl ?_ ?_; focus (first | (intro h; have h2 : false = true := h; cases h2) | (intro _; show Exc _ _ _; first | assumption | (first | exact Exc.of_past rfl (by assumption) | exact Exc.of_below (by assumption) (fun k hk => Or.inl hk) | (repeat (first | (with_reducible exact Exc.refl _ _) | (exact exc_undrew _ _) | (with_reducible refine Exc.drew ?_) | (with_reducible refine Exc.alloc ?_ _))))))
                refine any_pure 8 (by decide +kernel) rfl rfl ?_; apply Exists.intro; refine ⟨fun w' => ?_, ?_⟩; (focus (first | (fail) | (go_simp; try exact rfl))); have e0 : True := trivial; clear e0; refine any_putK ?_; intro K hK; go_simp; refine hK _ ?_; clear hK K
                refine any_pure 9 (by decide +kernel) rfl rfl ?_; apply Exists.intro; refine ⟨fun w' => ?_, ?_⟩; (focus (first | (fail) | (go_simp; try exact rfl))); have e0 : True := trivial; clear e0; refine any_putK ?_; intro K hK; go_simp; refine hK _ ?_; clear hK K
                refine any_pure 10 (by decide +kernel) rfl rfl ?_; apply Exists.intro; refine ⟨fun w' => ?_, ?_⟩; (focus (first | (fail) | (go_simp; try exact rfl))); have e0 : True := trivial; clear e0; refine any_putK ?_; intro K hK; go_simp; refine hK _ ?_; clear hK K
                refine any_branch (by decide +kernel) ?_
                simp only [List.size_toArray, List.length_cons, List.length_nil, Nat.zero_add, Nat.reduceAdd]
                repeat' (first | exact lt_zero | refine lt_succ ?_ ?_ | exact any_none (by decide +kernel) | fail)
                · refine any_one rfl rfl rfl ?_
                  go_wp2_with ((go_at_call 62; refine (pk _ g (k + 10 + 4 * j + 1 + 1) _ (by repeat (first | assumption | (with_reducible refine RdLe.drew ?_) | (with_reducible refine RdLe.drewN ?_ _) | (with_reducible refine RdLe.alloc ?_ _) | (with_reducible refine RdLe.setC ?_ ?_ _; focus (first | (simp; done) | (simp; omega) | omega)))) (by omega) (by omega) (by omega)).mono ?_; rintro e wp3 ⟨⟨vp3, ⟨vlp3, vhp3⟩, rfl, hRp3, hbp3⟩, hsp3⟩; clear hsp3; have hzp3 := hbp3.size; (try simp at hzp3); (try (have g0_3 := (past_cells hbp3 (wr.heap.size) (by first | omega | (simp; omega)) (by omega) g0_2 f0_2); obtain ⟨g0_3, f0_3⟩ := g0_3; have s0_3 : wr.heap.size < wp3.heap.size := (by omega))); (try (have g1_3 := (past_cells hbp3 (wp1.heap.size) (by first | omega | (simp; omega)) (by omega) g1_2 f1_2); obtain ⟨g1_3, f1_3⟩ := g1_3; have s1_3 : wp1.heap.size < wp3.heap.size := (by omega))); (try (have g2_3 := (past_cells hbp3 (wp2.heap.size) (by simp) (by omega) (f := fun o => ([.int .i64 0, .int .i64 0, .slice none 0 0] : List Value)[o]?) (fun o => by simp [go_sem]) (fun o => by simp [go_sem])); obtain ⟨g2_3, f2_3⟩ := g2_3; have s2_3 : wp2.heap.size < wp3.heap.size := (by have := hbp3.size; simp at this; omega)))))
                  refine then_any rfl ?_ ?_; focus (first | (intro h; have h2 : false = true := h; cases h2) | (intro _; show Exc _ _ _; first | assumption | (first | exact Exc.of_past rfl (by assumption) | exact Exc.of_below (by assumption) (fun k hk => Or.inl hk) | (repeat (first | (with_reducible exact Exc.refl _ _) | (exact exc_undrew _ _) | (with_reducible refine Exc.drew ?_) | (with_reducible refine Exc.alloc ?_ _))))))
                  refine any_pure 13 (by decide +kernel) rfl rfl ?_; apply Exists.intro; refine ⟨fun w' => ?_, ?_⟩; (focus (first | (fail) | (go_simp; try exact rfl))); have e0 : True := trivial; clear e0; refine any_putK ?_; intro K hK; go_simp; refine hK _ ?_; clear hK K
                  refine any_pure 14 (by decide +kernel) rfl rfl ?_; apply Exists.intro; refine ⟨fun w' => ?_, ?_⟩; (focus (first | (fail) | (go_simp; try exact rfl))); have e0 : True := trivial; clear e0; refine any_putK ?_; intro K hK; go_simp; refine hK _ ?_; clear hK K
                  refine any_branch (by decide +kernel) ?_
                  simp only [List.size_toArray, List.length_cons, List.length_nil, Nat.zero_add, Nat.reduceAdd]
                  repeat' (first | exact lt_zero | refine lt_succ ?_ ?_ | exact any_none (by decide +kernel) | fail)
                  · refine any_one rfl rfl rfl ?_
                    go_wp2_with ((go_at_call 24; go_loud (refine (sbp_some _ (b + 1) wr.heap.size A n c y d now q _ _ _ _ _ _ ?_ ?_ hnbig hnc).mono ?_; (focus (exact RowAt.past (g := g) (by omega) (Nat.le_refl _) HRA.out (by repeat (first | (with_reducible exact Past.refl _ _ _) | (with_reducible refine Past.alloc ?_ (by simp) _) | (with_reducible refine Past.drew ?_) | (with_reducible refine Past.drewN ?_ _) | (with_reducible refine Past.setC ?_ ?_ _; focus (first | (with_reducible exact Nat.le_refl _) | (simp; done) | (simp; omega) | omega)) | (with_reducible refine Past.step ?_ (by simp) (by assumption)))))); (focus (first | omega | (simp; omega))); rintro e wp4 ⟨y8, d8, k8, A8, n8, c8, q8, rfl, hn8, hO8, hb8⟩; obtain ⟨L8, hL8, hO9⟩ : ∃ L : Nat, L = _ ∧ RowOwn 54 wp4 L wp4.heap.size A8 n8 c8 7 (HdF q8) := ⟨_, rfl, hO8⟩; (try simp at hL8); clear hO8; have hbp4 := Past.of (g := g) hb8; have hRp4 := (fun h => RdLe.below (g := g) (q := k + 10 + 4 * j + 1 + 1 + 1) h hb8) (by repeat (first | assumption | (with_reducible refine RdLe.drew ?_) | (with_reducible refine RdLe.drewN ?_ _) | (with_reducible refine RdLe.alloc ?_ _) | (with_reducible refine RdLe.setC ?_ ?_ _; focus (first | (simp; done) | (simp; omega) | omega)))); have hzp4 := hb8.size; (try simp at hzp4); (try (have g0_4 := (past_cells hbp4 (wr.heap.size) (by first | omega | (simp; omega)) (by omega) g0_3 f0_3); obtain ⟨g0_4, f0_4⟩ := g0_4; have s0_4 : wr.heap.size < wp4.heap.size := (by omega))); (try (have g1_4 := (past_cells hbp4 (wp1.heap.size) (by first | omega | (simp; omega)) (by omega) g1_3 f1_3); obtain ⟨g1_4, f1_4⟩ := g1_4; have s1_4 : wp1.heap.size < wp4.heap.size := (by omega))); (try (have g2_4 := (past_cells hbp4 (wp2.heap.size) (by first | omega | (simp; omega)) (by omega) g2_3 f2_3); obtain ⟨g2_4, f2_4⟩ := g2_4; have s2_4 : wp2.heap.size < wp4.heap.size := (by omega))); (try (have g3_4 := (past_cells hbp4 (wp3.heap.size) (by simp) (by omega) (f := fun o => ([.int .i64 0, .int .i64 0, .slice none 0 0] : List Value)[o]?) (fun o => by simp [go_sem]) (fun o => by simp [go_sem])); obtain ⟨g3_4, f3_4⟩ := g3_4; have s3_4 : wp3.heap.size < wp4.heap.size := (by have := hbp4.size; simp at this; omega))))))
                    refine then_any rfl ?_ ?_; focus (first | (intro h; have h2 : false = true := h; cases h2) | (intro _; show Exc _ _ _; first | assumption | (first | exact Exc.of_past rfl (by assumption) | exact Exc.of_below (by assumption) (fun k hk => Or.inl hk) | (repeat (first | (with_reducible exact Exc.refl _ _) | (exact exc_undrew _ _) | (with_reducible refine Exc.drew ?_) | (with_reducible refine Exc.alloc ?_ _))))))
                    refine any_pure 17 (by decide +kernel) rfl rfl ?_; apply Exists.intro; refine ⟨fun w' => ?_, ?_⟩; (focus (first | (fail) | (go_simp; try exact rfl))); have e0 : True := trivial; clear e0; refine any_putK ?_; intro K hK; go_simp; refine hK _ ?_; clear hK K
                    refine any_pure 18 (by decide +kernel) rfl rfl ?_; apply Exists.intro; refine ⟨fun w' => ?_, ?_⟩; (focus (first | (fail) | (go_simp; try exact rfl))); have e0 : True := trivial; clear e0; refine any_putK ?_; intro K hK; go_simp; refine hK _ ?_; clear hK K
                    refine any_pure 19 (by decide +kernel) rfl rfl ?_; apply Exists.intro; refine ⟨fun w' => ?_, ?_⟩; (focus (first | (fail) | (go_simp; try exact rfl))); have e0 : True := trivial; clear e0; refine any_putK ?_; intro K hK; go_simp; refine hK _ ?_; clear hK K
                    refine any_branch (by decide +kernel) ?_
                    simp only [List.size_toArray, List.length_cons, List.length_nil, Nat.zero_add, Nat.reduceAdd]
                    repeat' (first | exact lt_zero | refine lt_succ ?_ ?_ | exact any_none (by decide +kernel) | fail)
                    · refine any_one rfl rfl rfl ?_
                      go_wp2_with (fail)
                      refine then_any rfl ?_ ?_; focus (first | (intro h; have h2 : false = true := h; cases h2) | (intro _; show Exc _ _ _; first | assumption | (first | exact Exc.of_past rfl (by assumption) | exact Exc.of_below (by assumption) (fun k hk => Or.inl hk) | (repeat (first | (with_reducible exact Exc.refl _ _) | (exact exc_undrew _ _) | (with_reducible refine Exc.drew ?_) | (with_reducible refine Exc.alloc ?_ _))))))
                      refine any_pure 22 (by decide +kernel) rfl rfl ?_; apply Exists.intro; refine ⟨fun w' => ?_, ?_⟩; (focus (first | (fail) | (go_simp; try exact rfl))); have e0 : True := trivial; clear e0; refine any_putK ?_; intro K hK; go_simp; refine hK _ ?_; clear hK K
                      refine any_end (by decide +kernel) ?_
                      have h1 := H1.out
                      have h0 := H0.out
                      go_wp2_with fail
                      go_meet
                      refine ⟨_, y8, d8, A8, n8, c8, q8, _, rfl, rfl, hn8, Lib.hid ?_, Lib.hid ?_, Lib.hid ?_⟩
                      · refine ⟨?_, ?_, ?_, fun j => ?_, ?_⟩
                        · go_simp
                        · go_simp
                        · go_simp
                        · go_simp
                        · first | (simp [World.setCell]; done) | (simp [World.setCell]; omega)
                      · refine ⟨own_nc hO9, Or.inr ?_⟩
                        refine RowOwn.wide (lo := L8) (hi := wp4.heap.size) ?_ (by first | omega | (simp; omega) | (simp; done)) (by first | (simp [World.setCell]; done) | (simp [World.setCell]; omega))
                        repeat (first | (with_reducible exact hO9) | (with_reducible refine RowOwn.drew ?_) | (with_reducible refine RowOwn.alloc ?_ _) | (with_reducible refine RowOwn.setC ?_ ?_ _; focus (first | (left; first | omega | (simp; omega) | (simp; done)) | (right; first | omega | (simp; omega) | (simp; done)))))
                      · exact HS.out.past hg hbw (by repeat (first | (with_reducible exact Past.refl _ _ _) | (with_reducible refine Past.alloc ?_ (by simp) _) | (with_reducible refine Past.drew ?_) | (with_reducible refine Past.drewN ?_ _) | (with_reducible refine Past.setC ?_ ?_ _; focus (first | (with_reducible exact Nat.le_refl _) | (simp; done) | (simp; omega) | omega)) | (with_reducible refine Past.step ?_ (by simp) (by assumption)))) (by repeat (first | assumption | (with_reducible refine RdLe.drew ?_) | (with_reducible refine RdLe.drewN ?_ _) | (with_reducible refine RdLe.alloc ?_ _) | (with_reducible refine RdLe.setC ?_ ?_ _; focus (first | (simp; done) | (simp; omega) | omega))))
            · refine any_one rfl rfl rfl ?_
              go_wp2_with ((go_at_call 62; refine (pk _ g (k + 10 + 4 * j + 1) _ (by repeat (first | assumption | (with_reducible refine RdLe.drew ?_) | (with_reducible refine RdLe.drewN ?_ _) | (with_reducible refine RdLe.alloc ?_ _) | (with_reducible refine RdLe.setC ?_ ?_ _; focus (first | (simp; done) | (simp; omega) | omega)))) (by omega) (by omega) (by omega)).mono ?_; rintro e wp2 ⟨⟨vp2, ⟨vlp2, vhp2⟩, rfl, hRp2, hbp2⟩, hsp2⟩; clear hsp2; have hzp2 := hbp2.size; (try simp at hzp2); (try (have g0_2 := (past_cells hbp2 (wr.heap.size) (by first | omega | (simp; omega)) (by omega) g0_1 f0_1); obtain ⟨g0_2, f0_2⟩ := g0_2; have s0_2 : wr.heap.size < wp2.heap.size := (by omega))); (try (have g1_2 := (past_cells hbp2 (wp1.heap.size) (by simp) (by omega) (f := fun o => ([.int .i64 0, .int .i64 0, .slice none 0 0] : List Value)[o]?) (fun o => by simp [go_sem]) (fun o => by simp [go_sem])); obtain ⟨g1_2, f1_2⟩ := g1_2; have s1_2 : wp1.heap.size < wp2.heap.size := (by have := hbp2.size; simp at this; omega)))))
              refine then_any rfl ?_ ?_; focus (first | (intro h; have h2 : false = true := h; cases h2) | (intro _; show Exc _ _ _; first | assumption | (first | exact Exc.of_past rfl (by assumption) | exact Exc.of_below (by assumption) (fun k hk => Or.inl hk) | (repeat (first | (with_reducible exact Exc.refl _ _) | (exact exc_undrew _ _) | (with_reducible refine Exc.drew ?_) | (with_reducible refine Exc.alloc ?_ _))))))
              refine any_pure 8 (by decide +kernel) rfl rfl ?_; apply Exists.intro; refine ⟨fun w' => ?_, ?_⟩; (focus (first | (fail) | (go_simp; try exact rfl))); have e0 : True := trivial; clear e0; refine any_putK ?_; intro K hK; go_simp; refine hK _ ?_; clear hK K
              refine any_pure 9 (by decide +kernel) rfl rfl ?_; apply Exists.intro; refine ⟨fun w' => ?_, ?_⟩; (focus (first | (fail) | (go_simp; try exact rfl))); have e0 : True := trivial; clear e0; refine any_putK ?_; intro K hK; go_simp; refine hK _ ?_; clear hK K
              refine any_pure 10 (by decide +kernel) rfl rfl ?_; apply Exists.intro; refine ⟨fun w' => ?_, ?_⟩; (focus (first | (fail) | (go_simp; try exact rfl))); have e0 : True := trivial; clear e0; refine any_putK ?_; intro K hK; go_simp; refine hK _ ?_; clear hK K
              refine any_branch (by decide +kernel) ?_
              simp only [List.size_toArray, List.length_cons, List.length_nil, Nat.zero_add, Nat.reduceAdd]
              repeat' (first | exact lt_zero | refine lt_succ ?_ ?_ | exact any_none (by decide +kernel) | fail)
              · refine any_one rfl rfl rfl ?_
                go_wp2_with (fail)
                refine then_any rfl ?_ ?_; focus (first | (intro h; have h2 : false = true := h; cases h2) | (intro _; show Exc _ _ _; first | assumption | (first | exact Exc.of_past rfl (by assumption) | exact Exc.of_below (by assumption) (fun k hk => Or.inl hk) | (repeat (first | (with_reducible exact Exc.refl _ _) | (exact exc_undrew _ _) | (with_reducible refine Exc.drew ?_) | (with_reducible refine Exc.alloc ?_ _))))))
                refine any_branch (by decide +kernel) ?_
                simp only [List.size_toArray, List.length_cons, List.length_nil, Nat.zero_add, Nat.reduceAdd]
                repeat' (first | exact lt_zero | refine lt_succ ?_ ?_ | exact any_none (by decide +kernel) | fail)
                · refine any_one rfl rfl rfl ?_
                  go_wp2_with ((go_at_call 62; refine (pk _ g (k + 10 + 4 * j + 1 + 1) _ (by repeat (first | assumption | (with_reducible refine RdLe.drew ?_) | (with_reducible refine RdLe.drewN ?_ _) | (with_reducible refine RdLe.alloc ?_ _) | (with_reducible refine RdLe.setC ?_ ?_ _; focus (first | (simp; done) | (simp; omega) | omega)))) (by omega) (by omega) (by omega)).mono ?_; rintro e wp3 ⟨⟨vp3, ⟨vlp3, vhp3⟩, rfl, hRp3, hbp3⟩, hsp3⟩; clear hsp3; have hzp3 := hbp3.size; (try simp at hzp3); (try (have g0_3 := (past_cells hbp3 (wr.heap.size) (by first | omega | (simp; omega)) (by omega) g0_2 f0_2); obtain ⟨g0_3, f0_3⟩ := g0_3; have s0_3 : wr.heap.size < wp3.heap.size := (by omega))); (try (have g1_3 := (past_cells hbp3 (wp1.heap.size) (by first | omega | (simp; omega)) (by omega) g1_2 f1_2); obtain ⟨g1_3, f1_3⟩ := g1_3; have s1_3 : wp1.heap.size < wp3.heap.size := (by omega))); (try (have g2_3 := (past_cells hbp3 (wp2.heap.size) (by simp) (by omega) (f := fun o => ([.int .i64 0, .int .i64 0, .slice none 0 0] : List Value)[o]?) (fun o => by simp [go_sem]) (fun o => by simp [go_sem])); obtain ⟨g2_3, f2_3⟩ := g2_3; have s2_3 : wp2.heap.size < wp3.heap.size := (by have := hbp3.size; simp at this; omega)))))
                  refine then_any rfl ?_ ?_; focus (first | (intro h; have h2 : false = true := h; cases h2) | (intro _; show Exc _ _ _; first | assumption | (first | exact Exc.of_past rfl (by assumption) | exact Exc.of_below (by assumption) (fun k hk => Or.inl hk) | (repeat (first | (with_reducible exact Exc.refl _ _) | (exact exc_undrew _ _) | (with_reducible refine Exc.drew ?_) | (with_reducible refine Exc.alloc ?_ _))))))
                  refine any_pure 13 (by decide +kernel) rfl rfl ?_; apply Exists.intro; refine ⟨fun w' => ?_, ?_⟩; (focus (first | (fail) | (go_simp; try exact rfl))); have e0 : True := trivial; clear e0; refine any_putK ?_; intro K hK; go_simp; refine hK _ ?_; clear hK K
                  refine any_pure 14 (by decide +kernel) rfl rfl ?_; apply Exists.intro; refine ⟨fun w' => ?_, ?_⟩; (focus (first | (fail) | (go_simp; try exact rfl))); have e0 : True := trivial; clear e0; refine any_putK ?_; intro K hK; go_simp; refine hK _ ?_; clear hK K
                  refine any_branch (by decide +kernel) ?_
                  simp only [List.size_toArray, List.length_cons, List.length_nil, Nat.zero_add, Nat.reduceAdd]
                  repeat' (first | exact lt_zero | refine lt_succ ?_ ?_ | exact any_none (by decide +kernel) | fail)
                  · refine any_one rfl rfl rfl ?_
                    go_wp2_with ((go_at_call 24; go_loud (refine (sbp_some _ (b + 1) wr.heap.size A n c y d now q _ _ _ _ _ _ ?_ ?_ hnbig hnc).mono ?_; (focus (exact RowAt.past (g := g) (by omega) (Nat.le_refl _) HRA.out (by repeat (first | (with_reducible exact Past.refl _ _ _) | (with_reducible refine Past.alloc ?_ (by simp) _) | (with_reducible refine Past.drew ?_) | (with_reducible refine Past.drewN ?_ _) | (with_reducible refine Past.setC ?_ ?_ _; focus (first | (with_reducible exact Nat.le_refl _) | (simp; done) | (simp; omega) | omega)) | (with_reducible refine Past.step ?_ (by simp) (by assumption)))))); (focus (first | omega | (simp; omega))); rintro e wp4 ⟨y8, d8, k8, A8, n8, c8, q8, rfl, hn8, hO8, hb8⟩; obtain ⟨L8, hL8, hO9⟩ : ∃ L : Nat, L = _ ∧ RowOwn 54 wp4 L wp4.heap.size A8 n8 c8 7 (HdF q8) := ⟨_, rfl, hO8⟩; (try simp at hL8); clear hO8; have hbp4 := Past.of (g := g) hb8; have hRp4 := (fun h => RdLe.below (g := g) (q := k + 10 + 4 * j + 1 + 1 + 1) h hb8) (by repeat (first | assumption | (with_reducible refine RdLe.drew ?_) | (with_reducible refine RdLe.drewN ?_ _) | (with_reducible refine RdLe.alloc ?_ _) | (with_reducible refine RdLe.setC ?_ ?_ _; focus (first | (simp; done) | (simp; omega) | omega)))); have hzp4 := hb8.size; (try simp at hzp4); (try (have g0_4 := (past_cells hbp4 (wr.heap.size) (by first | omega | (simp; omega)) (by omega) g0_3 f0_3); obtain ⟨g0_4, f0_4⟩ := g0_4; have s0_4 : wr.heap.size < wp4.heap.size := (by omega))); (try (have g1_4 := (past_cells hbp4 (wp1.heap.size) (by first | omega | (simp; omega)) (by omega) g1_3 f1_3); obtain ⟨g1_4, f1_4⟩ := g1_4; have s1_4 : wp1.heap.size < wp4.heap.size := (by omega))); (try (have g2_4 := (past_cells hbp4 (wp2.heap.size) (by first | omega | (simp; omega)) (by omega) g2_3 f2_3); obtain ⟨g2_4, f2_4⟩ := g2_4; have s2_4 : wp2.heap.size < wp4.heap.size := (by omega))); (try (have g3_4 := (past_cells hbp4 (wp3.heap.size) (by simp) (by omega) (f := fun o => ([.int .i64 0, .int .i64 0, .slice none 0 0] : List Value)[o]?) (fun o => by simp [go_sem]) (fun o => by simp [go_sem])); obtain ⟨g3_4, f3_4⟩ := g3_4; have s3_4 : wp3.heap.size < wp4.heap.size := (by have := hbp4.size; simp at this; omega))))))
                    refine then_any rfl ?_ ?_; focus (first | (intro h; have h2 : false = true := h; cases h2) | (intro _; show Exc _ _ _; first | assumption | (first | exact Exc.of_past rfl (by assumption) | exact Exc.of_below (by assumption) (fun k hk => Or.inl hk) | (repeat (first | (with_reducible exact Exc.refl _ _) | (exact exc_undrew _ _) | (with_reducible refine Exc.drew ?_) | (with_reducible refine Exc.alloc ?_ _))))))
                    refine any_pure 17 (by decide +kernel) rfl rfl ?_; apply Exists.intro; refine ⟨fun w' => ?_, ?_⟩; (focus (first | (fail) | (go_simp; try exact rfl))); have e0 : True := trivial; clear e0; refine any_putK ?_; intro K hK; go_simp; refine hK _ ?_; clear hK K
                    refine any_pure 18 (by decide +kernel) rfl rfl ?_; apply Exists.intro; refine ⟨fun w' => ?_, ?_⟩; (focus (first | (fail) | (go_simp; try exact rfl))); have e0 : True := trivial; clear e0; refine any_putK ?_; intro K hK; go_simp; refine hK _ ?_; clear hK K
                    refine any_pure 19 (by decide +kernel) rfl rfl ?_; apply Exists.intro; refine ⟨fun w' => ?_, ?_⟩; (focus (first | (fail) | (go_simp; try exact rfl))); have e0 : True := trivial; clear e0; refine any_putK ?_; intro K hK; go_simp; refine hK _ ?_; clear hK K
                    refine any_branch (by decide +kernel) ?_
                    simp only [List.size_toArray, List.length_cons, List.length_nil, Nat.zero_add, Nat.reduceAdd]
                    repeat' (first | exact lt_zero | refine lt_succ ?_ ?_ | exact any_none (by decide +kernel) | fail)
                    · refine any_one rfl rfl rfl ?_
                      go_wp2_with (fail)
                      refine then_any rfl ?_ ?_; focus (first | (intro h; have h2 : false = true := h; cases h2) | (intro _; show Exc _ _ _; first | assumption | (first | exact Exc.of_past rfl (by assumption) | exact Exc.of_below (by assumption) (fun k hk => Or.inl hk) | (repeat (first | (with_reducible exact Exc.refl _ _) | (exact exc_undrew _ _) | (with_reducible refine Exc.drew ?_) | (with_reducible refine Exc.alloc ?_ _))))))
                      refine any_pure 22 (by decide +kernel) rfl rfl ?_; apply Exists.intro; refine ⟨fun w' => ?_, ?_⟩; (focus (first | (fail) | (go_simp; try exact rfl))); have e0 : True := trivial; clear e0; refine any_putK ?_; intro K hK; go_simp; refine hK _ ?_; clear hK K
                      refine any_end (by decide +kernel) ?_
                      have h1 := H1.out
                      have h0 := H0.out
                      go_wp2_with fail
                      go_meet
                      refine ⟨_, y8, d8, A8, n8, c8, q8, _, rfl, rfl, hn8, Lib.hid ?_, Lib.hid ?_, Lib.hid ?_⟩
                      · refine ⟨?_, ?_, ?_, fun j => ?_, ?_⟩
                        · go_simp
                        · go_simp
                        · go_simp
                        · go_simp
                        · first | (simp [World.setCell]; done) | (simp [World.setCell]; omega)
                      · refine ⟨own_nc hO9, Or.inr ?_⟩
                        refine RowOwn.wide (lo := L8) (hi := wp4.heap.size) ?_ (by first | omega | (simp; omega) | (simp; done)) (by first | (simp [World.setCell]; done) | (simp [World.setCell]; omega))
                        repeat (first | (with_reducible exact hO9) | (with_reducible refine RowOwn.drew ?_) | (with_reducible refine RowOwn.alloc ?_ _) | (with_reducible refine RowOwn.setC ?_ ?_ _; focus (first | (left; first | omega | (simp; omega) | (simp; done)) | (right; first | omega | (simp; omega) | (simp; done)))))
                      · exact HS.out.past hg hbw (by repeat (first | (with_reducible exact Past.refl _ _ _) | (with_reducible refine Past.alloc ?_ (by simp) _) | (with_reducible refine Past.drew ?_) | (with_reducible refine Past.drewN ?_ _) | (with_reducible refine Past.setC ?_ ?_ _; focus (first | (with_reducible exact Nat.le_refl _) | (simp; done) | (simp; omega) | omega)) | (with_reducible refine Past.step ?_ (by simp) (by assumption)))) (by repeat (first | assumption | (with_reducible refine RdLe.drew ?_) | (with_reducible refine RdLe.drewN ?_ _) | (with_reducible refine RdLe.alloc ?_ _) | (with_reducible refine RdLe.setC ?_ ?_ _; focus (first | (simp; done) | (simp; omega) | omega))))
              · refine any_one rfl rfl rfl ?_
                go_wp2_with ((go_at_call 62; refine (pk _ g (k + 10 + 4 * j + 1 + 1) _ (by repeat (first | assumption | (with_reducible refine RdLe.drew ?_) | (with_reducible refine RdLe.drewN ?_ _) | (with_reducible refine RdLe.alloc ?_ _) | (with_reducible refine RdLe.setC ?_ ?_ _; focus (first | (simp; done) | (simp; omega) | omega)))) (by omega) (by omega) (by omega)).mono ?_; rintro e wp3 ⟨⟨vp3, ⟨vlp3, vhp3⟩, rfl, hRp3, hbp3⟩, hsp3⟩; clear hsp3; have hzp3 := hbp3.size; (try simp at hzp3); (try (have g0_3 := (past_cells hbp3 (wr.heap.size) (by first | omega | (simp; omega)) (by omega) g0_2 f0_2); obtain ⟨g0_3, f0_3⟩ := g0_3; have s0_3 : wr.heap.size < wp3.heap.size := (by omega))); (try (have g1_3 := (past_cells hbp3 (wp1.heap.size) (by first | omega | (simp; omega)) (by omega) g1_2 f1_2); obtain ⟨g1_3, f1_3⟩ := g1_3; have s1_3 : wp1.heap.size < wp3.heap.size := (by omega))); (try (have g2_3 := (past_cells hbp3 (wp2.heap.size) (by simp) (by omega) (f := fun o => ([.int .i64 0, .int .i64 0, .slice none 0 0] : List Value)[o]?) (fun o => by simp [go_sem]) (fun o => by simp [go_sem])); obtain ⟨g2_3, f2_3⟩ := g2_3; have s2_3 : wp2.heap.size < wp3.heap.size := (by have := hbp3.size; simp at this; omega)))))
                refine then_any rfl ?_ ?_; focus (first | (intro h; have h2 : false = true := h; cases h2) | (intro _; show Exc _ _ _; first | assumption | (first | exact Exc.of_past rfl (by assumption) | exact Exc.of_below (by assumption) (fun k hk => Or.inl hk) | (repeat (first | (with_reducible exact Exc.refl _ _) | (exact exc_undrew _ _) | (with_reducible refine Exc.drew ?_) | (with_reducible refine Exc.alloc ?_ _))))))
                refine any_pure 13 (by decide +kernel) rfl rfl ?_; apply Exists.intro; refine ⟨fun w' => ?_, ?_⟩; (focus (first | (fail) | (go_simp; try exact rfl))); have e0 : True := trivial; clear e0; refine any_putK ?_; intro K hK; go_simp; refine hK _ ?_; clear hK K
                refine any_pure 14 (by decide +kernel) rfl rfl ?_; apply Exists.intro; refine ⟨fun w' => ?_, ?_⟩; (focus (first | (fail) | (go_simp; try exact rfl))); have e0 : True := trivial; clear e0; refine any_putK ?_; intro K hK; go_simp; refine hK _ ?_; clear hK K
                refine any_branch (by decide +kernel) ?_
                simp only [List.size_toArray, List.length_cons, List.length_nil, Nat.zero_add, Nat.reduceAdd]
                repeat' (first | exact lt_zero | refine lt_succ ?_ ?_ | exact any_none (by decide +kernel) | fail)
                · refine any_one rfl rfl rfl ?_
                  go_wp2_with (fail)
                  refine then_any rfl ?_ ?_; focus (first | (intro h; have h2 : false = true := h; cases h2) | (intro _; show Exc _ _ _; first | assumption | (first | exact Exc.of_past rfl (by assumption) | exact Exc.of_below (by assumption) (fun k hk => Or.inl hk) | (repeat (first | (with_reducible exact Exc.refl _ _) | (exact exc_undrew _ _) | (with_reducible refine Exc.drew ?_) | (with_reducible refine Exc.alloc ?_ _))))))
                  refine any_branch (by decide +kernel) ?_
                  simp only [List.size_toArray, List.length_cons, List.length_nil, Nat.zero_add, Nat.reduceAdd]
                  repeat' (first | exact lt_zero | refine lt_succ ?_ ?_ | exact any_none (by decide +kernel) | fail)
                  · refine any_one rfl rfl rfl ?_
                    go_wp2_with ((go_at_call 24; go_loud (refine (sbp_some _ (b + 1) wr.heap.size A n c y d now q _ _ _ _ _ _ ?_ ?_ hnbig hnc).mono ?_; (focus (exact RowAt.past (g := g) (by omega) (Nat.le_refl _) HRA.out (by repeat (first | (with_reducible exact Past.refl _ _ _) | (with_reducible refine Past.alloc ?_ (by simp) _) | (with_reducible refine Past.drew ?_) | (with_reducible refine Past.drewN ?_ _) | (with_reducible refine Past.setC ?_ ?_ _; focus (first | (with_reducible exact Nat.le_refl _) | (simp; done) | (simp; omega) | omega)) | (with_reducible refine Past.step ?_ (by simp) (by assumption)))))); (focus (first | omega | (simp; omega))); rintro e wp4 ⟨y8, d8, k8, A8, n8, c8, q8, rfl, hn8, hO8, hb8⟩; obtain ⟨L8, hL8, hO9⟩ : ∃ L : Nat, L = _ ∧ RowOwn 54 wp4 L wp4.heap.size A8 n8 c8 7 (HdF q8) := ⟨_, rfl, hO8⟩; (try simp at hL8); clear hO8; have hbp4 := Past.of (g := g) hb8; have hRp4 := (fun h => RdLe.below (g := g) (q := k + 10 + 4 * j + 1 + 1 + 1) h hb8) (by repeat (first | assumption | (with_reducible refine RdLe.drew ?_) | (with_reducible refine RdLe.drewN ?_ _) | (with_reducible refine RdLe.alloc ?_ _) | (with_reducible refine RdLe.setC ?_ ?_ _; focus (first | (simp; done) | (simp; omega) | omega)))); have hzp4 := hb8.size; (try simp at hzp4); (try (have g0_4 := (past_cells hbp4 (wr.heap.size) (by first | omega | (simp; omega)) (by omega) g0_3 f0_3); obtain ⟨g0_4, f0_4⟩ := g0_4; have s0_4 : wr.heap.size < wp4.heap.size := (by omega))); (try (have g1_4 := (past_cells hbp4 (wp1.heap.size) (by first | omega | (simp; omega)) (by omega) g1_3 f1_3); obtain ⟨g1_4, f1_4⟩ := g1_4; have s1_4 : wp1.heap.size < wp4.heap.size := (by omega))); (try (have g2_4 := (past_cells hbp4 (wp2.heap.size) (by first | omega | (simp; omega)) (by omega) g2_3 f2_3); obtain ⟨g2_4, f2_4⟩ := g2_4; have s2_4 : wp2.heap.size < wp4.heap.size := (by omega))); (try (have g3_4 := (past_cells hbp4 (wp3.heap.size) (by simp) (by omega) (f := fun o => ([.int .i64 0, .int .i64 0, .slice none 0 0] : List Value)[o]?) (fun o => by simp [go_sem]) (fun o => by simp [go_sem])); obtain ⟨g3_4, f3_4⟩ := g3_4; have s3_4 : wp3.heap.size < wp4.heap.size := (by have := hbp4.size; simp at this; omega))))))
                    refine then_any rfl ?_ ?_; focus (first | (intro h; have h2 : false = true := h; cases h2) | (intro _; show Exc _ _ _; first | assumption | (first | exact Exc.of_past rfl (by assumption) | exact Exc.of_below (by assumption) (fun k hk => Or.inl hk) | (repeat (first | (with_reducible exact Exc.refl _ _) | (exact exc_undrew _ _) | (with_reducible refine Exc.drew ?_) | (with_reducible refine Exc.alloc ?_ _))))))
                    refine any_pure 17 (by decide +kernel) rfl rfl ?_; apply Exists.intro; refine ⟨fun w' => ?_, ?_⟩; (focus (first | (fail) | (go_simp; try exact rfl))); have e0 : True := trivial; clear e0; refine any_putK ?_; intro K hK; go_simp; refine hK _ ?_; clear hK K
                    refine any_pure 18 (by decide +kernel) rfl rfl ?_; apply Exists.intro; refine ⟨fun w' => ?_, ?_⟩; (focus (first | (fail) | (go_simp; try exact rfl))); have e0 : True := trivial; clear e0; refine any_putK ?_; intro K hK; go_simp; refine hK _ ?_; clear hK K
                    refine any_pure 19 (by decide +kernel) rfl rfl ?_; apply Exists.intro; refine ⟨fun w' => ?_, ?_⟩; (focus (first | (fail) | (go_simp; try exact rfl))); have e0 : True := trivial; clear e0; refine any_putK ?_; intro K hK; go_simp; refine hK _ ?_; clear hK K
                    refine any_branch (by decide +kernel) ?_
                    simp only [List.size_toArray, List.length_cons, List.length_nil, Nat.zero_add, Nat.reduceAdd]
                    repeat' (first | exact lt_zero | refine lt_succ ?_ ?_ | exact any_none (by decide +kernel) | fail)
                    · refine any_one rfl rfl rfl ?_
                      go_wp2_with (fail)
                      refine then_any rfl ?_ ?_; focus (first | (intro h; have h2 : false = true := h; cases h2) | (intro _; show Exc _ _ _; first | assumption | (first | exact Exc.of_past rfl (by assumption) | exact Exc.of_below (by assumption) (fun k hk => Or.inl hk) | (repeat (first | (with_reducible exact Exc.refl _ _) | (exact exc_undrew _ _) | (with_reducible refine Exc.drew ?_) | (with_reducible refine Exc.alloc ?_ _))))))
                      refine any_pure 22 (by decide +kernel) rfl rfl ?_; apply Exists.intro; refine ⟨fun w' => ?_, ?_⟩; (focus (first | (fail) | (go_simp; try exact rfl))); have e0 : True := trivial; clear e0; refine any_putK ?_; intro K hK; go_simp; refine hK _ ?_; clear hK K
                      refine any_end (by decide +kernel) ?_
                      have h1 := H1.out
                      have h0 := H0.out
                      go_wp2_with fail
                      go_meet
                      refine ⟨_, y8, d8, A8, n8, c8, q8, _, rfl, rfl, hn8, Lib.hid ?_, Lib.hid ?_, Lib.hid ?_⟩
                      · refine ⟨?_, ?_, ?_, fun j => ?_, ?_⟩
                        · go_simp
                        · go_simp
                        · go_simp
                        · go_simp
                        · first | (simp [World.setCell]; done) | (simp [World.setCell]; omega)
                      · refine ⟨own_nc hO9, Or.inr ?_⟩
                        refine RowOwn.wide (lo := L8) (hi := wp4.heap.size) ?_ (by first | omega | (simp; omega) | (simp; done)) (by first | (simp [World.setCell]; done) | (simp [World.setCell]; omega))
                        repeat (first | (with_reducible exact hO9) | (with_reducible refine RowOwn.drew ?_) | (with_reducible refine RowOwn.alloc ?_ _) | (with_reducible refine RowOwn.setC ?_ ?_ _; focus (first | (left; first | omega | (simp; omega) | (simp; done)) | (right; first | omega | (simp; omega) | (simp; done)))))
                      · exact HS.out.past hg hbw (by repeat (first | (with_reducible exact Past.refl _ _ _) | (with_reducible refine Past.alloc ?_ (by simp) _) | (with_reducible refine Past.drew ?_) | (with_reducible refine Past.drewN ?_ _) | (with_reducible refine Past.setC ?_ ?_ _; focus (first | (with_reducible exact Nat.le_refl _) | (simp; done) | (simp; omega) | omega)) | (with_reducible refine Past.step ?_ (by simp) (by assumption)))) (by repeat (first | assumption | (with_reducible refine RdLe.drew ?_) | (with_reducible refine RdLe.drewN ?_ _) | (with_reducible refine RdLe.alloc ?_ _) | (with_reducible refine RdLe.setC ?_ ?_ _; focus (first | (simp; done) | (simp; omega) | omega))))
                · refine any_one rfl rfl rfl ?_
                  go_wp2_with ((go_at_call 24; go_loud (refine (sbp_some _ (b + 1) wr.heap.size A n c y d now q _ _ _ _ _ _ ?_ ?_ hnbig hnc).mono ?_; (focus (exact RowAt.past (g := g) (by omega) (Nat.le_refl _) HRA.out (by repeat (first | (with_reducible exact Past.refl _ _ _) | (with_reducible refine Past.alloc ?_ (by simp) _) | (with_reducible refine Past.drew ?_) | (with_reducible refine Past.drewN ?_ _) | (with_reducible refine Past.setC ?_ ?_ _; focus (first | (with_reducible exact Nat.le_refl _) | (simp; done) | (simp; omega) | omega)) | (with_reducible refine Past.step ?_ (by simp) (by assumption)))))); (focus (first | omega | (simp; omega))); rintro e wp4 ⟨y8, d8, k8, A8, n8, c8, q8, rfl, hn8, hO8, hb8⟩; obtain ⟨L8, hL8, hO9⟩ : ∃ L : Nat, L = _ ∧ RowOwn 54 wp4 L wp4.heap.size A8 n8 c8 7 (HdF q8) := ⟨_, rfl, hO8⟩; (try simp at hL8); clear hO8; have hbp4 := Past.of (g := g) hb8; have hRp4 := (fun h => RdLe.below (g := g) (q := k + 10 + 4 * j + 1 + 1 + 1) h hb8) (by repeat (first | assumption | (with_reducible refine RdLe.drew ?_) | (with_reducible refine RdLe.drewN ?_ _) | (with_reducible refine RdLe.alloc ?_ _) | (with_reducible refine RdLe.setC ?_ ?_ _; focus (first | (simp; done) | (simp; omega) | omega)))); have hzp4 := hb8.size; (try simp at hzp4); (try (have g0_4 := (past_cells hbp4 (wr.heap.size) (by first | omega | (simp; omega)) (by omega) g0_3 f0_3); obtain ⟨g0_4, f0_4⟩ := g0_4; have s0_4 : wr.heap.size < wp4.heap.size := (by omega))); (try (have g1_4 := (past_cells hbp4 (wp1.heap.size) (by first | omega | (simp; omega)) (by omega) g1_3 f1_3); obtain ⟨g1_4, f1_4⟩ := g1_4; have s1_4 : wp1.heap.size < wp4.heap.size := (by omega))); (try (have g2_4 := (past_cells hbp4 (wp2.heap.size) (by first | omega | (simp; omega)) (by omega) g2_3 f2_3); obtain ⟨g2_4, f2_4⟩ := g2_4; have s2_4 : wp2.heap.size < wp4.heap.size := (by omega))); (try (have g3_4 := (past_cells hbp4 (wp3.heap.size) (by simp) (by omega) (f := fun o => ([.int .i64 0, .int .i64 0, .slice none 0 0] : List Value)[o]?) (fun o => by simp [go_sem]) (fun o => by simp [go_sem])); obtain ⟨g3_4, f3_4⟩ := g3_4; have s3_4 : wp3.heap.size < wp4.heap.size := (by have := hbp4.size; simp at this; omega))))))
                  refine then_any rfl ?_ ?_; focus (first | (intro h; have h2 : false = true := h; cases h2) | (intro _; show Exc _ _ _; first | assumption | (first | exact Exc.of_past rfl (by assumption) | exact Exc.of_below (by assumption) (fun k hk => Or.inl hk) | (repeat (first | (with_reducible exact Exc.refl _ _) | (exact exc_undrew _ _) | (with_reducible refine Exc.drew ?_) | (with_reducible refine Exc.alloc ?_ _))))))
                  refine any_pure 17 (by decide +kernel) rfl rfl ?_; apply Exists.intro; refine ⟨fun w' => ?_, ?_⟩; (focus (first | (fail) | (go_simp; try exact rfl))); have e0 : True := trivial; clear e0; refine any_putK ?_; intro K hK; go_simp; refine hK _ ?_; clear hK K
                  refine any_pure 18 (by decide +kernel) rfl rfl ?_; apply Exists.intro; refine ⟨fun w' => ?_, ?_⟩; (focus (first | (fail) | (go_simp; try exact rfl))); have e0 : True := trivial; clear e0; refine any_putK ?_; intro K hK; go_simp; refine hK _ ?_; clear hK K
                  refine any_pure 19 (by decide +kernel) rfl rfl ?_; apply Exists.intro; refine ⟨fun w' => ?_, ?_⟩; (focus (first | (fail) | (go_simp; try exact rfl))); have e0 : True := trivial; clear e0; refine any_putK ?_; intro K hK; go_simp; refine hK _ ?_; clear hK K
                  refine any_branch (by decide +kernel) ?_
                  simp only [List.size_toArray, List.length_cons, List.length_nil, Nat.zero_add, Nat.reduceAdd]
                  repeat' (first | exact lt_zero | refine lt_succ ?_ ?_ | exact any_none (by decide +kernel) | fail)
                  · refine any_one rfl rfl rfl ?_
                    go_wp2_with (fail)
                    refine then_any rfl ?_ ?_; focus (first | (intro h; have h2 : false = true := h; cases h2) | (intro _; show Exc _ _ _; first | assumption | (first | exact Exc.of_past rfl (by assumption) | exact Exc.of_below (by assumption) (fun k hk => Or.inl hk) | (repeat (first | (with_reducible exact Exc.refl _ _) | (exact exc_undrew _ _) | (with_reducible refine Exc.drew ?_) | (with_reducible refine Exc.alloc ?_ _))))))
                    refine any_branch (by decide +kernel) ?_
                    simp only [List.size_toArray, List.length_cons, List.length_nil, Nat.zero_add, Nat.reduceAdd]
                    repeat' (first | exact lt_zero | refine lt_succ ?_ ?_ | exact any_none (by decide +kernel) | fail)
                    · refine any_one rfl rfl rfl ?_
                      go_wp2_with (fail)
                      refine then_any rfl ?_ ?_; focus (first | (intro h; have h2 : false = true := h; cases h2) | (intro _; show Exc _ _ _; first | assumption | (first | exact Exc.of_past rfl (by assumption) | exact Exc.of_below (by assumption) (fun k hk => Or.inl hk) | (repeat (first | (with_reducible exact Exc.refl _ _) | (exact exc_undrew _ _) | (with_reducible refine Exc.drew ?_) | (with_reducible refine Exc.alloc ?_ _))))))
                      refine any_pure 22 (by decide +kernel) rfl rfl ?_; apply Exists.intro; refine ⟨fun w' => ?_, ?_⟩; (focus (first | (fail) | (go_simp; try exact rfl))); have e0 : True := trivial; clear e0; refine any_putK ?_; intro K hK; go_simp; refine hK _ ?_; clear hK K
                      refine any_end (by decide +kernel) ?_
                      have h1 := H1.out
                      have h0 := H0.out
                      go_wp2_with fail
                      go_meet
                      refine ⟨_, y8, d8, A8, n8, c8, q8, _, rfl, rfl, hn8, Lib.hid ?_, Lib.hid ?_, Lib.hid ?_⟩
                      · refine ⟨?_, ?_, ?_, fun j => ?_, ?_⟩
                        · go_simp
                        · go_simp
                        · go_simp
                        · go_simp
                        · first | (simp [World.setCell]; done) | (simp [World.setCell]; omega)
                      · refine ⟨own_nc hO9, Or.inr ?_⟩
                        refine RowOwn.wide (lo := L8) (hi := wp4.heap.size) ?_ (by first | omega | (simp; omega) | (simp; done)) (by first | (simp [World.setCell]; done) | (simp [World.setCell]; omega))
                        repeat (first | (with_reducible exact hO9) | (with_reducible refine RowOwn.drew ?_) | (with_reducible refine RowOwn.alloc ?_ _) | (with_reducible refine RowOwn.setC ?_ ?_ _; focus (first | (left; first | omega | (simp; omega) | (simp; done)) | (right; first | omega | (simp; omega) | (simp; done)))))
                      · exact HS.out.past hg hbw (by repeat (first | (with_reducible exact Past.refl _ _ _) | (with_reducible refine Past.alloc ?_ (by simp) _) | (with_reducible refine Past.drew ?_) | (with_reducible refine Past.drewN ?_ _) | (with_reducible refine Past.setC ?_ ?_ _; focus (first | (with_reducible exact Nat.le_refl _) | (simp; done) | (simp; omega) | omega)) | (with_reducible refine Past.step ?_ (by simp) (by assumption)))) (by repeat (first | assumption | (with_reducible refine RdLe.drew ?_) | (with_reducible refine RdLe.drewN ?_ _) | (with_reducible refine RdLe.alloc ?_ _) | (with_reducible refine RdLe.setC ?_ ?_ _; focus (first | (simp; done) | (simp; omega) | omega))))
        case rest =>
          obtain ⟨b8, y8, d8, A8, n8, c8, q8, u, rfl, rfl, hn8, HX8, HR8, HS8⟩ := hcut
          obtain ⟨x0, x1, x2, x3, x4⟩ := HX8.out
          obtain ⟨z0, z1, z2, z3, z4⟩ := HS8.out.box
          have HS9 := Lib.hid (HS8.out.turn (y2 := y8) (d2 := d8) hg hbw HR8.out)
          go_wp2_with fail
          clear x0 x1 x2 x3 x4 z0 z1 z2 z3 z4
          refine (pk _ g _ _ HS9.out.R (by omega) (by omega) (by omega)).mono ?_
          rintro e w10 ⟨⟨v10, ⟨vl10, vh10⟩, rfl, hR10, hb10⟩, hs10⟩
          have HS10 := Lib.hid ((HS9.out.past hg hbw hb10 hR10).mono (show k + 10 + 4 * j + 1 + 1 + 1 + 1 ≤ k + 10 + 4 * (j + 1) by omega))
          clear hs10 hb10 hR10 HS9 HS8 HS HX8 HR8
          go_wp2_with fail
          go_roundw
          case rel => exact ⟨j + 1, _, _, _, _, _, _, _, by omega, by go_num, rfl, by omega, HS10⟩
          case measure => simp [intOf]; omega
      · obtain rfl : M = j := by omega
        by_cases h0 : n = 0
        · subst h0
          obtain ⟨ry, rd, rA, rn, rc, r0, r1, r2, r3, r4⟩ := HS.out.res
          obtain ⟨z0, z1, z2, z3, z4⟩ := HS.out.box
          go_wp2_with fail
          refine bodyPost_ret (v := .tuple #[.agg #[.int .i64 y, .int .i64 d, .slice A 0 c], .int .i64 now]) ?_ rfl ?_
          · simp only [results, Try.results60]
            go_simp
          exact bst_end (HS.out.mono (by omega)) hg hbw (by omega)
        · have h0' : 0 < n := by omega
          obtain ⟨z0, z1, z2, z3, z4⟩ := HS.out.box
          go_wp2_with fail
          clear z0 z1 z2 z3 z4
          refine (pk _ g _ n HS.out.R (by omega) (by omega) (by omega)).mono ?_
          rintro e w20 ⟨⟨v20, ⟨vl20, vh20⟩, rfl, hR20, hb20⟩, hs20⟩
          have HS20 := Lib.hid (HS.out.past hg hbw hb20 hR20)
          clear hs20 hb20 hR20
          obtain ⟨N, rfl⟩ : ∃ N : Nat, v20 = N := ⟨v20.toNat, by omega⟩
          have hN : N < n := by omega
          go_wp2_with fail
          refine (pk _ g _ _ HS20.out.R (by omega) (by omega) (by omega)).mono ?_
          rintro e w21 ⟨⟨v21, ⟨vl21, vh21⟩, rfl, hR21, hb21⟩, hs21⟩
          have HS21 := Lib.hid (HS20.out.past hg hbw hb21 hR21)
          clear hs21 hb21 hR21 HS20 HS
          obtain ⟨ry, rd, rA, rn, rc, r0, r1, r2, r3, r4⟩ := HS21.out.res
          obtain ⟨z0, z1, z2, z3, z4⟩ := HS21.out.box
          obtain ⟨hnc, hor⟩ := HS21.out.row
          have HO := Lib.hid (hor.resolve_left h0)
          clear hor
          rcases RowOwn.cases HO.out with ⟨_, e, _⟩ | ⟨g2, rfl, hlo2, _, hgl2, hnc2, hfz2, hcl2⟩
          · omega
          have hne1 : g2 ≠ b := by omega
          have hne2 : g2 ≠ w.heap.size := by omega
          have hne3 : b ≠ g2 := by omega
          have hne4 : w.heap.size ≠ g2 := by omega
          have hne5 : b ≠ w.heap.size := by omega
          have hne6 : w.heap.size ≠ b := by omega
          by_cases h1 : v21 = 0
          · subst h1
            obtain ⟨u, hu⟩ : ∃ u, w21.cell? ⟨g2, N * 7 + 6, none⟩ = some u := ⟨_, hcl2 (N * 7 + 6) (by omega)⟩
            have hf := hfz2 (N * 7 + 6)
            clear hcl2 hfz2
            have HT := Lib.hid (HS21.out.setRow hg hbw (show b < g2 by omega) hnc (hd_put_c (k := N) (a := -1) HO.out))
            go_wp2_with fail
            refine bodyPost_ret (v := .tuple #[.agg #[.int .i64 y, .int .i64 d, .slice (some ⟨g2, 0, none⟩) n c], .int .i64 now]) ?_ rfl ?_
            · simp only [results, Try.results60]
              go_simp
            exact bst_end (HT.out.mono (by omega)) hg hbw (by omega)
          · have h1b : (v21 == 0) = false := by simpa using h1
            by_cases h2 : v21 = 1
            · subst h2
              obtain ⟨u, hu⟩ : ∃ u, w21.cell? ⟨g2, N * 7, none⟩ = some u := ⟨_, hcl2 (N * 7) (by omega)⟩
              have hf := hfz2 (N * 7)
              clear hcl2 hfz2
              have HT := Lib.hid (fun a => HS21.out.setRow hg hbw (show b < g2 by omega) hnc (hd_put_w (k := N) (a := a) HO.out))
              go_wp2_with fail
              refine bodyPost_ret (v := .tuple #[.agg #[.int .i64 y, .int .i64 d, .slice (some ⟨g2, 0, none⟩) n c], .int .i64 now]) ?_ rfl ?_
              · simp only [results, Try.results60]
                go_simp
              exact bst_end ((HT.out _).mono (by omega)) hg hbw (by omega)
            · have h2b : (v21 == 1) = false := by simpa using h2
              clear hcl2 hfz2
              go_wp2_with fail
              refine bodyPost_ret (v := .tuple #[.agg #[.int .i64 y, .int .i64 d, .slice (some ⟨g2, 0, none⟩) n c], .int .i64 now]) ?_ rfl ?_
              · simp only [results, Try.results60]
                go_simp
              exact bst_end (HS21.out.mono (by omega)) hg hbw (by omega)
end Go.Proofs.Ytegdogamenoaiaa
