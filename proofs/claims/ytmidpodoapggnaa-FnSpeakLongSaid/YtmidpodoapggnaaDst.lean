/- The draw of a speaker and of how loud all are. -/
import Derived.Test.YtmidpodoapggnaaDsl
import Derived.Test.YtmidpodoapggnaaFad
namespace Go.Proofs.Ytmidpodoapggnaa
open Go Go.RowKit
set_option linter.unusedVariables false
set_option linter.unusedSimpArgs false
/-- What the draw of a step leaves. -/
def MadeSL (w : World) (e : Ending) (w' : World) : Prop :=
  ∃ (a b d : Int) (A : Option Addr) (n c : Nat) (z : Nat → Int), Ints w' 0 w'.heap.size A n z ∧ n ≤ 4 ∧ e = .returned (.tuple #[.agg #[.int .i64 a, .int .i64 b, .int .i64 d], .slice A n c]) ∧ Below w.heap.size w w'
theorem OwnI.past {w w' : World} {lo hi n c g B : Nat} {A : Option Addr} {z : Nat → Int} (hg : g < lo) (hB : hi ≤ B) (h : OwnI w lo hi A n c z) (hp : Past g B w w') : OwnI w' lo hi A n c z := RowOwn.past hg hB h hp
/-- The end of it: what has turned since the numbers were seen lies outside their row. -/
theorem made_sl {w w1 w2 : World} {a b d : Int} {A : Option Addr} {n c lo hi : Nat} {z : Nat → Int} (h : Ints w1 lo hi A n z) (hn : n ≤ 4) (hk : ∀ b o, lo ≤ b → b < hi → w2.cell? ⟨b, o, none⟩ = w1.cell? ⟨b, o, none⟩) (hs : hi ≤ w2.heap.size) (hb : Below w.heap.size w w2) :
    MadeSL w (.returned (.tuple #[.agg #[.int .i64 a, .int .i64 b, .int .i64 d], .slice A n c])) w2 :=
  ⟨a, b, d, A, n, c, z, (RowAt.keep h hk).wide (Nat.zero_le _) hs, hn, rfl, hb⟩
theorem made_sl2 {w w2 : World} {X : Nat → Prop} {a b d : Int} {A : Option Addr} {n c : Nat} (h : IntsX X w2 A n) (hn : n ≤ 4) (hb : Below w.heap.size w w2) :
    MadeSL w (.returned (.tuple #[.agg #[.int .i64 a, .int .i64 b, .int .i64 d], .slice A n c])) w2 := by
  obtain ⟨bb, off, z, h1, h2⟩ := h
  exact ⟨a, b, d, A, n, c, z, ⟨bb, off, fun h0 => ⟨(h1 h0).1, Nat.zero_le _, (h1 h0).2.2⟩, fun j hj => h2 j (by omega)⟩, hn, rfl, hb⟩
theorem cell3_put {r : Nat} {w : World} {x y z : Int} (h : Cell3 r w) : Cell3 r (((w.setCell ⟨r, 0, none⟩ (.int .i64 x)).setCell ⟨r, 1, none⟩ (.int .i64 y)).setCell ⟨r, 2, none⟩ (.int .i64 z)) := by
  obtain ⟨a, b, d, h1, h2, h3, h4, h5, h6⟩ := h
  refine ⟨x, y, z, ?_, ?_, ?_, ?_, ?_, ?_⟩ <;> go_simp
theorem cell3_off {r s : Nat} {w : World} {x y z : Value} (h : Cell3 s w) (hne : s ≠ r) : Cell3 s (((w.setCell ⟨r, 0, none⟩ x).setCell ⟨r, 1, none⟩ y).setCell ⟨r, 2, none⟩ z) := by
  obtain ⟨a, b, d, h1, h2, h3, h4, h5, h6⟩ := h
  have hne' : r ≠ s := Ne.symm hne
  refine ⟨a, b, d, ?_, ?_, ?_, ?_, ?_, ?_⟩ <;> go_simp
set_option maxHeartbeats 4000000 in
theorem draw_step (w : World) (A : Option Addr) (n c : Nat) (h : IsInts .u8 w A n c) (hn : n ≤ 1048576) :
    Calls Try.prog 19 #[.slice A n c] w (MadeSL w) := by
  have H := Lib.hid h
  clear h
  go_enter Try.func19, Try.ntmps19
  go_wp2_with fail
  refine (open_any _ A n c (H.out.below (by repeat (first | (with_reducible exact Below.refl _ _) | (with_reducible refine Bal ?_ _) | (with_reducible refine Below.drew ?_) | (with_reducible refine below_drewN ?_ _) | (with_reducible refine Bset ?_ ?_ _; focus (first | (with_reducible exact Nat.le_refl _) | (simp; done) | (simp; omega) | omega)) | (with_reducible refine Bt ?_ (by assumption)) | (with_reducible refine Bp (g := g) ?_ (by assumption) (by assumption))))) hn).mono ?_
  rintro e w0 ⟨g, rfl, hgo, hR0, hb0⟩
  obtain ⟨hc0, hf0⟩ := bcell hb0
  have hy0 := hb0.size
  try simp at hy0
  try simp at hgo
  have hgo2 : w.heap.size ≤ g := by omega
  have hgl := hR0.lt
  have hg0_0 := fun o => hc0 (w.heap.size) o (by first | (simp; done) | (simp; omega) | omega)
  have hk0_0 := fun o => hf0 (w.heap.size) o (by first | (simp; done) | (simp; omega) | omega)
  try simp [go_sem] at hg0_0
  try simp [go_sem] at hk0_0
  go_wp2_with fail
  refine (speaker_draw _ g 0 (by repeat (first | assumption | (with_reducible refine RdLe.drew ?_) | (with_reducible refine RdLe.drewN ?_ _) | (with_reducible refine RdLe.alloc ?_ _) | (with_reducible refine RdLe.setC ?_ ?_ _; focus (first | (simp; done) | (simp; omega) | omega)))) (by omega)).mono ?_
  rintro e w1 ⟨a1, b1, d1, hB1, rfl, hR1, hb1⟩
  obtain ⟨hc1, hf1⟩ := hb1.cells
  have hy1 := hb1.size
  try simp at hy1
  have ho1_0 : w.heap.size < w1.heap.size := by (have := hb1.size; (try simp at this); omega)
  have hg1_0 := fun o => hc1 (w.heap.size) o (by first | (simp; done) | (simp; omega) | omega) (by first | (simp; done) | (simp; omega) | omega)
  have hk1_0 := fun o => hf1 (w.heap.size) o (by first | (simp; done) | (simp; omega) | omega) (by first | (simp; done) | (simp; omega) | omega)
  try simp [go_sem] at hg1_0
  try simp [go_sem] at hk1_0
  have hne0 : w.heap.size ≠ g := by omega
  have hne1 : w1.heap.size ≠ g := by omega
  have hne2 : w1.heap.size ≠ w.heap.size := by omega
  have hne3 : w.heap.size ≠ w1.heap.size := by omega
  go_wp2_with fail
  refine (loud_draw _ g (0 + 20) 4 (by repeat (first | assumption | (with_reducible refine RdLe.drew ?_) | (with_reducible refine RdLe.drewN ?_ _) | (with_reducible refine RdLe.alloc ?_ _) | (with_reducible refine RdLe.setC ?_ ?_ _; focus (first | (simp; done) | (simp; omega) | omega)))) (by omega) (by omega)).mono ?_
  rintro e w2 ⟨A2, c2, z2, hO2, rfl, hR2, hb2⟩
  obtain ⟨hc2, hf2⟩ := hb2.cells
  have hy2 := hb2.size
  try simp at hy2
  have ho2_0 : w.heap.size < w2.heap.size := by (have := hb2.size; (try simp at this); omega)
  have hg2_0 := fun o => hc2 (w.heap.size) o (by first | (simp; done) | (simp; omega) | omega) (by first | (simp; done) | (simp; omega) | omega)
  have hk2_0 := fun o => hf2 (w.heap.size) o (by first | (simp; done) | (simp; omega) | omega) (by first | (simp; done) | (simp; omega) | omega)
  try simp [go_sem] at hg2_0
  try simp [go_sem] at hk2_0
  have ho2_1 : w1.heap.size < w2.heap.size := by (have := hb2.size; (try simp at this); omega)
  have hg2_1 := fun o => hc2 (w1.heap.size) o (by first | (simp; done) | (simp; omega) | omega) (by first | (simp; done) | (simp; omega) | omega)
  have hk2_1 := fun o => hf2 (w1.heap.size) o (by first | (simp; done) | (simp; omega) | omega) (by first | (simp; done) | (simp; omega) | omega)
  try simp [go_sem] at hg2_1
  try simp [go_sem] at hk2_1
  have hO2 := hO2.wide (lo' := w1.heap.size + 1) (by simp) (Nat.le_refl _)
  rcases OwnI.cases hO2 with ⟨_, e, _⟩ | ⟨g2, rfl, hlo2, _, hgl2, hnc2, hfz2, hcl2⟩
  · cases e
  · have hgg2 : g < g2 := by omega
    have hg2a : g2 ≠ g := by omega
    have hg2b : w.heap.size ≠ g2 := by omega
    have hg2c : w1.heap.size ≠ g2 := by omega
    have hg2d : g2 ≠ w.heap.size := by omega
    have hg2e : g2 ≠ w1.heap.size := by omega
    obtain ⟨B10, B11⟩ := hB1
    by_cases hb0 : 0 ≤ b1
    · skip
      go_wp2_with fail
      refine (pk _ g (0 + 20 + 2 * 4) _ (by repeat (first | assumption | (with_reducible refine RdLe.drew ?_) | (with_reducible refine RdLe.drewN ?_ _) | (with_reducible refine RdLe.alloc ?_ _) | (with_reducible refine RdLe.setC ?_ ?_ _; focus (first | (simp; done) | (simp; omega) | omega)))) (by omega) (by omega) (by omega)).mono ?_
      rintro e w3 ⟨⟨v3, ⟨vl3, vh3⟩, rfl, hR3, hb3⟩, hs3⟩
      obtain ⟨hc3, hf3⟩ := hb3.cells
      have hy3 := hb3.size
      try simp at hy3
      try simp at hs3
      have ho3_0 : w.heap.size < w3.heap.size := by (have := hb3.size; (try simp at this); omega)
      have hg3_0 := fun o => hc3 (w.heap.size) o (by first | (simp; done) | (simp; omega) | omega) (by first | (simp; done) | (simp; omega) | omega)
      have hk3_0 := fun o => hf3 (w.heap.size) o (by first | (simp; done) | (simp; omega) | omega) (by first | (simp; done) | (simp; omega) | omega)
      try simp [go_sem] at hg3_0
      try simp [go_sem] at hk3_0
      have ho3_1 : w1.heap.size < w3.heap.size := by (have := hb3.size; (try simp at this); omega)
      have hg3_1 := fun o => hc3 (w1.heap.size) o (by first | (simp; done) | (simp; omega) | omega) (by first | (simp; done) | (simp; omega) | omega)
      have hk3_1 := fun o => hf3 (w1.heap.size) o (by first | (simp; done) | (simp; omega) | omega) (by first | (simp; done) | (simp; omega) | omega)
      try simp [go_sem] at hg3_1
      try simp [go_sem] at hk3_1
      clear hs3
      have hO3 := hO2.past (by omega) (by first | exact Nat.le_refl _ | (simp; done) | (simp; omega) | omega) hb3
      rcases OwnI.cases hO3 with ⟨_, e, _⟩ | ⟨g3, hg3, _, _, _, _, hfz3, hcl3⟩
      · cases e
      · cases hg3
        by_cases h3 : v3 = 0
        · subst h3
          obtain ⟨N, rfl⟩ : ∃ N : Nat, b1 = N := ⟨b1.toNat, by omega⟩
          have hcs := hcl3 N (by omega)
          have hfs := hfz3 N
          have hcs2 := hcl2 N (by omega)
          have hfs2 := hfz2 N
          clear hcl3 hfz3 hcl2 hfz2
          go_wp2_with fail
          refine (pk _ g (0 + 20 + 2 * 4 + 1) _ (by repeat (first | assumption | (with_reducible refine RdLe.drew ?_) | (with_reducible refine RdLe.drewN ?_ _) | (with_reducible refine RdLe.alloc ?_ _) | (with_reducible refine RdLe.setC ?_ ?_ _; focus (first | (simp; done) | (simp; omega) | omega)))) (by omega) (by omega) (by omega)).mono ?_
          rintro e w4 ⟨⟨v4, ⟨vl4, vh4⟩, rfl, hR4, hb4⟩, hs4⟩
          obtain ⟨hc4, hf4⟩ := hb4.cells
          have hy4 := hb4.size
          try simp at hy4
          try simp at hs4
          have ho4_0 : w.heap.size < w4.heap.size := by (have := hb4.size; (try simp at this); omega)
          have hg4_0 := fun o => hc4 (w.heap.size) o (by first | (simp; done) | (simp; omega) | omega) (by first | (simp; done) | (simp; omega) | omega)
          have hk4_0 := fun o => hf4 (w.heap.size) o (by first | (simp; done) | (simp; omega) | omega) (by first | (simp; done) | (simp; omega) | omega)
          try simp [go_sem] at hg4_0
          try simp [go_sem] at hk4_0
          have ho4_1 : w1.heap.size < w4.heap.size := by (have := hb4.size; (try simp at this); omega)
          have hg4_1 := fun o => hc4 (w1.heap.size) o (by first | (simp; done) | (simp; omega) | omega) (by first | (simp; done) | (simp; omega) | omega)
          have hk4_1 := fun o => hf4 (w1.heap.size) o (by first | (simp; done) | (simp; omega) | omega) (by first | (simp; done) | (simp; omega) | omega)
          try simp [go_sem] at hg4_1
          try simp [go_sem] at hk4_1
          clear hs4
          have hO4 := (hO3.storeI N 127).past (by omega) (by first | exact Nat.le_refl _ | (simp; done) | (simp; omega) | omega) hb4
          by_cases h4 : v4 = 0
          · subst h4
            have hS := Lib.hid (show Cell3 w1.heap.size w4 by (apply Exists.intro; apply Exists.intro; apply Exists.intro; refine ⟨?_, ?_, ?_, ?_, ?_, ?_⟩ <;> first | (go_simp; done) | (go_simp; rfl)))
            have hRr := Lib.hid (show Cell3 w.heap.size w4 by (apply Exists.intro; apply Exists.intro; apply Exists.intro; refine ⟨?_, ?_, ?_, ?_, ?_, ?_⟩ <;> first | (go_simp; done) | (go_simp; rfl)))
            have hBw := Lib.hid (show Below w.heap.size w w4 by repeat (first | (with_reducible exact Below.refl _ _) | (with_reducible refine Bal ?_ _) | (with_reducible refine Below.drew ?_) | (with_reducible refine below_drewN ?_ _) | (with_reducible refine Bset ?_ ?_ _; focus (first | (with_reducible exact Nat.le_refl _) | (simp; done) | (simp; omega) | omega)) | (with_reducible refine Bt ?_ (by assumption)) | (with_reducible refine Bp (g := g) ?_ (by assumption) (by assumption))))
            have hIz := Lib.hid (show ∀ j, j < 4 → ∃ x : Int, w4.cell? ⟨g2, j, none⟩ = some (.int .i64 x) from fun j hj => ⟨_, by have := hO4.ints.cell (k := j) hj; simpa using this⟩)
            have hgr : w.heap.size ≠ g := by omega
            have hgs : g < w4.heap.size := by have := hR4.lt; omega
            have hg2s : g2 < w4.heap.size := by omega
            have hw1s : w1.heap.size < w4.heap.size := by omega
            have hws : w.heap.size < w4.heap.size := by omega
            have hgr1 : w1.heap.size ≠ g := by omega
            have hlo : w.heap.size ≤ g := by omega
            have hg2n : g2 ≠ g := by omega
            have hg2r : g2 ≠ w.heap.size := by omega
            have hw1n : w1.heap.size ≠ w.heap.size := by omega
            (try clear hc0); (try clear hf0); (try clear hy0); (try clear ho0_0); (try clear ho0_1); (try clear hg0_0); (try clear hg0_1); (try clear hk0_0); (try clear hk0_1); (try clear hs0); (try clear hc1); (try clear hf1); (try clear hy1); (try clear ho1_0); (try clear ho1_1); (try clear hg1_0); (try clear hg1_1); (try clear hk1_0); (try clear hk1_1); (try clear hs1); (try clear hc2); (try clear hf2); (try clear hy2); (try clear ho2_0); (try clear ho2_1); (try clear hg2_0); (try clear hg2_1); (try clear hk2_0); (try clear hk2_1); (try clear hs2); (try clear hc3); (try clear hf3); (try clear hy3); (try clear ho3_0); (try clear ho3_1); (try clear hg3_0); (try clear hg3_1); (try clear hk3_0); (try clear hk3_1); (try clear hs3); (try clear hc4); (try clear hf4); (try clear hy4); (try clear ho4_0); (try clear ho4_1); (try clear hg4_0); (try clear hg4_1); (try clear hk4_0); (try clear hk4_1); (try clear hs4); (try clear hO2); (try clear hO3); (try clear hO4); (try clear hfs); (try clear hcs); (try clear hfs2); (try clear hcs2); (try clear hne0); (try clear hne1); (try clear hne2); (try clear hne3); (try clear hgo2); (try clear hgl); (try clear H); (try clear B10); (try clear B11); (try clear hbb); (try clear hgl2); (try clear hlo2); (try clear hgg2)
            go_wp2_with fail
            have hXn7 := Lib.hid (show ∀ q, w4.heap.size ≤ q → ¬ (fun q => q = g ∨ q = w.heap.size) q by intro q hq hx; rcases hx with hx | hx <;> omega)
            refine wp_region_fad g ((0 + 20 + 2 * 4 + 1 + 1)) (fun q => q = g ∨ q = w.heap.size) (fun W => Cell3 w.heap.size W ∧ Cell3 w1.heap.size W) [10] [kAg3, kInts 0 (0) (0), kInts 1 (200) (200), kEq (.slice (some ⟨g2, 0, none⟩) 4 c2), kEq (.slice (some ⟨g2, 0, none⟩) 2 c2), kRows 3 4, kEq (.pointer (some ⟨g, 0, none⟩)), kInt (0) (2), kAdS 4, kSl 4, kAny, kSl 4] (by kernel_rfl) 40 rfl (by kernel_rfl) (by kernel_rfl) (by repeat (first | assumption | (with_reducible refine RdLe.drew ?_) | (with_reducible refine RdLe.drewN ?_ _) | (with_reducible refine RdLe.alloc ?_ _) | (with_reducible refine RdLe.setC ?_ ?_ _; focus (first | (simp; done) | (simp; omega) | omega)))) (by exact ⟨hRr.out, hS.out⟩) (fac_cons [] false false (by kernel_rfl) (by kernel_rfl) (by kernel_rfl) ?_ (fac_cons [] false false (by kernel_rfl) (by kernel_rfl) (by kernel_rfl) ?_ (fac_cons [] false false (by kernel_rfl) (by kernel_rfl) (by kernel_rfl) ?_ (fac_cons [] false false (by kernel_rfl) (by kernel_rfl) (by kernel_rfl) ?_ (fac_cons [(3, 31)] false false (by kernel_rfl) (by kernel_rfl) (by kernel_rfl) ?_ (fac_cons [(1, 29), (2, 30), (4, 32)] false false (by kernel_rfl) (by kernel_rfl) (by kernel_rfl) ?_ (fac_cons [] false false (by kernel_rfl) (by kernel_rfl) (by kernel_rfl) ?_ (fac_cons [(6, 34)] true false (by kernel_rfl) (by kernel_rfl) (by kernel_rfl) ?_ (fac_cons [(5, 33), (7, 35)] false false (by kernel_rfl) (by kernel_rfl) (by kernel_rfl) ?_ (fac_cons [(8, 36)] false false (by kernel_rfl) (by kernel_rfl) (by kernel_rfl) ?_ (fac_cons [(0, 28)] false true (by kernel_rfl) (by kernel_rfl) (by kernel_rfl) ?_ (fac_cons [(9, 37)] false false (by kernel_rfl) (by kernel_rfl) (by kernel_rfl) ?_ (fac_nil))))))))))))) [(0, 28), (1, 29), (2, 30), (3, 31), (4, 32), (5, 33), (6, 34), (7, 35), (8, 36), (9, 37), (11, 3)] (by kernel_rfl) ?_
            · intro b n W hn _ hJ
              have hR0 := Lib.hid hJ.1
              have hn : n < 12 := hn
              have hE := hJ.2.1
              have hjx := hJ.2.2
              have hsz := hE.size
              have hws2 := Nat.lt_of_lt_of_le hws hsz
              have hw1s2 := Nat.lt_of_lt_of_le hw1s hsz
              have hsz : w4.heap.size ≤ W.heap.size := hsz
              obtain ⟨ja, jb, jd, k0, k1, k2, f0, f1, f2⟩ := hjx.2
              refine fac_op rfl rfl (by show 28 < 40; decide) ?_
              refine fac_putK ?_; intro K hK; go_simp; refine hK _ ?_; clear hK K
              go_wp2_with fail
              refine then_fac rfl (fad_step hJ (by exact Or.inl rfl) (by repeat (first | (with_reducible exact Past.refl _ _ _) | (with_reducible refine Past.alloc ?_ (by simp) _) | (with_reducible refine Past.drew ?_) | (with_reducible refine Past.drewN ?_ _) | (with_reducible refine Past.setC ?_ ?_ _; focus (first | (with_reducible exact Nat.le_refl _) | (simp; done) | (simp; omega) | omega)) | (with_reducible refine Past.step ?_ (by simp) (by assumption)))) (fun hb => (hR0.out hb).mono (by omega)) (fun _ => hjx) ?_)
              exact kAg3_mk
            · intro b n W hn _ hJ
              have hR0 := Lib.hid hJ.1
              have hn : n < 12 := hn
              have hE := hJ.2.1
              have hjx := hJ.2.2
              have hsz := hE.size
              have hws2 := Nat.lt_of_lt_of_le hws hsz
              have hw1s2 := Nat.lt_of_lt_of_le hw1s hsz
              have hsz : w4.heap.size ≤ W.heap.size := hsz
              refine fac_op rfl rfl (by show 29 < 40; decide) ?_
              refine fac_putK ?_; intro K hK; go_simp; refine hK _ ?_; clear hK K
              go_wp2_with fail
              refine then_fac rfl (fad_step hJ (by exact Or.inl rfl) (by repeat (first | (with_reducible exact Past.refl _ _ _) | (with_reducible refine Past.alloc ?_ (by simp) _) | (with_reducible refine Past.drew ?_) | (with_reducible refine Past.drewN ?_ _) | (with_reducible refine Past.setC ?_ ?_ _; focus (first | (with_reducible exact Nat.le_refl _) | (simp; done) | (simp; omega) | omega)) | (with_reducible refine Past.step ?_ (by simp) (by assumption)))) (fun hb => RdLe.mono (k := (0 + 20 + 2 * 4 + 1 + 1) + n) (by have hR := hR0.out hb; repeat (first | assumption | (with_reducible refine RdLe.drew ?_) | (with_reducible refine RdLe.drewN ?_ _) | (with_reducible refine RdLe.alloc ?_ _) | (with_reducible refine RdLe.setC ?_ ?_ _; focus (first | (simp; done) | (simp; omega) | omega)))) (by omega)) (by exact fun hp => ⟨hjx.1.past hp hws2 hgr, hjx.2.past hp hw1s2 hgr1⟩) ?_)
              refine kInts_mk (hXn7.out _ hsz) (by simp) (fun j hj => ?_)
              omega
            · intro b n W hn _ hJ
              have hR0 := Lib.hid hJ.1
              have hn : n < 12 := hn
              have hE := hJ.2.1
              have hjx := hJ.2.2
              have hsz := hE.size
              have hws2 := Nat.lt_of_lt_of_le hws hsz
              have hw1s2 := Nat.lt_of_lt_of_le hw1s hsz
              have hsz : w4.heap.size ≤ W.heap.size := hsz
              refine fac_op rfl rfl (by show 30 < 40; decide) ?_
              refine fac_putK ?_; intro K hK; go_simp; refine hK _ ?_; clear hK K
              go_wp2_with fail
              refine then_fac rfl (fad_step hJ (by exact Or.inl rfl) (by repeat (first | (with_reducible exact Past.refl _ _ _) | (with_reducible refine Past.alloc ?_ (by simp) _) | (with_reducible refine Past.drew ?_) | (with_reducible refine Past.drewN ?_ _) | (with_reducible refine Past.setC ?_ ?_ _; focus (first | (with_reducible exact Nat.le_refl _) | (simp; done) | (simp; omega) | omega)) | (with_reducible refine Past.step ?_ (by simp) (by assumption)))) (fun hb => RdLe.mono (k := (0 + 20 + 2 * 4 + 1 + 1) + n) (by have hR := hR0.out hb; repeat (first | assumption | (with_reducible refine RdLe.drew ?_) | (with_reducible refine RdLe.drewN ?_ _) | (with_reducible refine RdLe.alloc ?_ _) | (with_reducible refine RdLe.setC ?_ ?_ _; focus (first | (simp; done) | (simp; omega) | omega)))) (by omega)) (by exact fun hp => ⟨hjx.1.past hp hws2 hgr, hjx.2.past hp hw1s2 hgr1⟩) ?_)
              refine kInts_mk (hXn7.out _ hsz) (by simp) (fun j hj => ?_)
              rcases (by omega : j = 0) with rfl
              · exact ⟨200, by go_simp, by decide, by decide⟩
            · intro b n W hn _ hJ
              have hR0 := Lib.hid hJ.1
              have hn : n < 12 := hn
              have hE := hJ.2.1
              have hjx := hJ.2.2
              have hsz := hE.size
              have hws2 := Nat.lt_of_lt_of_le hws hsz
              have hw1s2 := Nat.lt_of_lt_of_le hw1s hsz
              have hsz : w4.heap.size ≤ W.heap.size := hsz
              refine fac_op rfl rfl (by show 31 < 40; decide) ?_
              refine fac_putK ?_; intro K hK; go_simp; refine hK _ ?_; clear hK K
              go_wp2_with fail
              refine then_fac rfl (fad_step hJ (by exact Or.inl rfl) (by repeat (first | (with_reducible exact Past.refl _ _ _) | (with_reducible refine Past.alloc ?_ (by simp) _) | (with_reducible refine Past.drew ?_) | (with_reducible refine Past.drewN ?_ _) | (with_reducible refine Past.setC ?_ ?_ _; focus (first | (with_reducible exact Nat.le_refl _) | (simp; done) | (simp; omega) | omega)) | (with_reducible refine Past.step ?_ (by simp) (by assumption)))) (fun hb => RdLe.mono (k := (0 + 20 + 2 * 4 + 1 + 1) + n) (by have hR := hR0.out hb; repeat (first | assumption | (with_reducible refine RdLe.drew ?_) | (with_reducible refine RdLe.drewN ?_ _) | (with_reducible refine RdLe.alloc ?_ _) | (with_reducible refine RdLe.setC ?_ ?_ _; focus (first | (simp; done) | (simp; omega) | omega)))) (by omega)) (by exact fun hp => ⟨hjx.1.past hp hws2 hgr, hjx.2.past hp hw1s2 hgr1⟩) ?_)
              exact kEq_mk rfl
            · intro b n W hn _ hJ
              have hR0 := Lib.hid hJ.1
              have hn : n < 12 := hn
              have hE := hJ.2.1
              have hjx := hJ.2.2
              have hsz := hE.size
              have hws2 := Nat.lt_of_lt_of_le hws hsz
              have hw1s2 := Nat.lt_of_lt_of_le hw1s hsz
              have hsz : w4.heap.size ≤ W.heap.size := hsz
              intro u31 hu31
              have hu31 : u31 = (.slice (some ⟨g2, 0, none⟩) 4 c2 : Value) := hu31
              subst hu31
              refine fac_op rfl rfl (by show 32 < 40; decide) ?_
              refine fac_putK ?_; intro K hK; go_simp; refine hK _ ?_; clear hK K
              go_wp2_with fail
              refine then_fac rfl (fad_step hJ (by exact Or.inl rfl) (by repeat (first | (with_reducible exact Past.refl _ _ _) | (with_reducible refine Past.alloc ?_ (by simp) _) | (with_reducible refine Past.drew ?_) | (with_reducible refine Past.drewN ?_ _) | (with_reducible refine Past.setC ?_ ?_ _; focus (first | (with_reducible exact Nat.le_refl _) | (simp; done) | (simp; omega) | omega)) | (with_reducible refine Past.step ?_ (by simp) (by assumption)))) (fun hb => (hR0.out hb).mono (by omega)) (fun _ => hjx) ?_)
              exact kEq_mk rfl
            · intro b n W hn _ hJ
              have hR0 := Lib.hid hJ.1
              have hn : n < 12 := hn
              have hE := hJ.2.1
              have hjx := hJ.2.2
              have hsz := hE.size
              have hws2 := Nat.lt_of_lt_of_le hws hsz
              have hw1s2 := Nat.lt_of_lt_of_le hw1s hsz
              have hsz : w4.heap.size ≤ W.heap.size := hsz
              intro u29 hu29
              obtain ⟨b29, rfl, nb29, sb29, cb29⟩ := hu29
              intro u30 hu30
              obtain ⟨b30, rfl, nb30, sb30, cb30⟩ := hu30
              intro u32 hu32
              have hu32 : u32 = (.slice (some ⟨g2, 0, none⟩) 2 c2 : Value) := hu32
              subst hu32
              have hcz := Lib.hid (show ∀ j, j < 4 → ∃ x : Int, W.cell? ⟨g2, j, none⟩ = some (.int .i64 x) from fun j hj => let ⟨x, hx⟩ := hIz.out j hj; ⟨x, (hE.cell hg2s (fun hx => hx.elim hg2n hg2r)).trans hx⟩)
              have c30 := Lib.hid cb30; clear cb30; (try clear cb29)
              refine fac_op rfl rfl (by show 33 < 40; decide) ?_
              refine fac_putK ?_; intro K hK; go_simp; refine hK _ ?_; clear hK K
              go_wp2_with fail
              have hEx : Exc (fun q => q = g ∨ q = w.heap.size) W (W.alloc (.cells #[.slice (some ⟨b29, 0, none⟩) 0 0, .slice (some ⟨b30, 0, none⟩) 1 1, .slice (some ⟨g2, 0, none⟩) 2 c2] 34)) := Exc.of_past (g := g) (Or.inl rfl) (by repeat (first | (with_reducible exact Past.refl _ _ _) | (with_reducible refine Past.alloc ?_ (by simp) _) | (with_reducible refine Past.drew ?_) | (with_reducible refine Past.drewN ?_ _) | (with_reducible refine Past.setC ?_ ?_ _; focus (first | (with_reducible exact Nat.le_refl _) | (simp; done) | (simp; omega) | omega)) | (with_reducible refine Past.step ?_ (by simp) (by assumption))))
              refine then_fac rfl (fad_step hJ (by exact Or.inl rfl) (by repeat (first | (with_reducible exact Past.refl _ _ _) | (with_reducible refine Past.alloc ?_ (by simp) _) | (with_reducible refine Past.drew ?_) | (with_reducible refine Past.drewN ?_ _) | (with_reducible refine Past.setC ?_ ?_ _; focus (first | (with_reducible exact Nat.le_refl _) | (simp; done) | (simp; omega) | omega)) | (with_reducible refine Past.step ?_ (by simp) (by assumption)))) (fun hb => RdLe.mono (k := (0 + 20 + 2 * 4 + 1 + 1) + n) (by have hR := hR0.out hb; repeat (first | assumption | (with_reducible refine RdLe.drew ?_) | (with_reducible refine RdLe.drewN ?_ _) | (with_reducible refine RdLe.alloc ?_ _) | (with_reducible refine RdLe.setC ?_ ?_ _; focus (first | (simp; done) | (simp; omega) | omega)))) (by omega)) (fun hp => ⟨hjx.1.past hp hws2 hgr, hjx.2.past hp hw1s2 hgr1⟩) ?_)
              refine kRows_mk (hXn7.out _ hsz) (by simp) (fun j hj => ?_)
              rcases (by omega : j = 0 ∨ j = 1 ∨ j = 2) with rfl | rfl | rfl
              · exact ⟨some ⟨b29, 0, none⟩, 0, 0, by go_simp, by decide, IntsX.nil⟩
              · exact ⟨some ⟨b30, 0, none⟩, 1, 1, by go_simp, by decide, (IntsX.of_cells nb30 sb30 fun j hj => let ⟨x, h1, _⟩ := c30.out j hj; ⟨x, h1⟩).st hEx⟩
              · exact ⟨some ⟨g2, 0, none⟩, 2, c2, by go_simp, by decide, (IntsX.of_cells (fun hx => hx.elim hg2n hg2r) (by omega) fun j hj => hcz.out j (by omega)).st hEx⟩
            · intro b n W hn _ hJ
              have hR0 := Lib.hid hJ.1
              have hn : n < 12 := hn
              have hE := hJ.2.1
              have hjx := hJ.2.2
              have hsz := hE.size
              have hws2 := Nat.lt_of_lt_of_le hws hsz
              have hw1s2 := Nat.lt_of_lt_of_le hw1s hsz
              have hsz : w4.heap.size ≤ W.heap.size := hsz
              refine fac_op rfl rfl (by show 34 < 40; decide) ?_
              refine fac_putK ?_; intro K hK; go_simp; refine hK _ ?_; clear hK K
              go_wp2_with fail
              refine then_fac rfl (fad_step hJ (by exact Or.inl rfl) (by repeat (first | (with_reducible exact Past.refl _ _ _) | (with_reducible refine Past.alloc ?_ (by simp) _) | (with_reducible refine Past.drew ?_) | (with_reducible refine Past.drewN ?_ _) | (with_reducible refine Past.setC ?_ ?_ _; focus (first | (with_reducible exact Nat.le_refl _) | (simp; done) | (simp; omega) | omega)) | (with_reducible refine Past.step ?_ (by simp) (by assumption)))) (fun hb => RdLe.mono (k := (0 + 20 + 2 * 4 + 1 + 1) + n) (by have hR := hR0.out hb; repeat (first | assumption | (with_reducible refine RdLe.drew ?_) | (with_reducible refine RdLe.drewN ?_ _) | (with_reducible refine RdLe.alloc ?_ _) | (with_reducible refine RdLe.setC ?_ ?_ _; focus (first | (simp; done) | (simp; omega) | omega)))) (by omega)) (by exact fun hp => ⟨hjx.1.past hp hws2 hgr, hjx.2.past hp hw1s2 hgr1⟩) ?_)
              exact kEq_mk rfl
            · intro b n W hn hb hJ
              obtain rfl := hb rfl
              have hR := hJ.1 rfl
              have hgW := hR.lt
              have hn : n < 12 := hn
              have hE := hJ.2.1
              have hjx := hJ.2.2
              have hsz := hE.size
              have hws2 := Nat.lt_of_lt_of_le hws hsz
              have hw1s2 := Nat.lt_of_lt_of_le hw1s hsz
              have hsz : w4.heap.size ≤ W.heap.size := hsz
              intro u34 hu34
              have hu34 : u34 = (.pointer (some ⟨g, 0, none⟩) : Value) := hu34
              subst hu34
              refine fac_op rfl rfl (by show 35 < 40; decide) ?_
              refine fac_putK ?_; intro K hK; go_simp; refine hK _ ?_; clear hK K
              go_wp2_with (go_at_call 53; refine (pk _ g ((0 + 20 + 2 * 4 + 1 + 1) + n) _ (by repeat (first | assumption | (with_reducible refine RdLe.drew ?_) | (with_reducible refine RdLe.drewN ?_ _) | (with_reducible refine RdLe.alloc ?_ _) | (with_reducible refine RdLe.setC ?_ ?_ _; focus (first | (simp; done) | (simp; omega) | omega)))) (by omega) (by omega) (by omega)).mono ?_; rintro e W1 ⟨⟨v1, ⟨vl1, vh1⟩, rfl, hR1, hb1⟩, hs1⟩)
              refine then_fac rfl (fad_step hJ (by exact Or.inl rfl) (by repeat (first | (with_reducible exact Past.refl _ _ _) | (with_reducible refine Past.alloc ?_ (by simp) _) | (with_reducible refine Past.drew ?_) | (with_reducible refine Past.drewN ?_ _) | (with_reducible refine Past.setC ?_ ?_ _; focus (first | (with_reducible exact Nat.le_refl _) | (simp; done) | (simp; omega) | omega)) | (with_reducible refine Past.step ?_ (by simp) (by assumption)))) (fun _ => hR1) (by exact fun hp => ⟨hjx.1.past hp hws2 hgr, hjx.2.past hp hw1s2 hgr1⟩) ?_)
              exact kInt_mk (by omega) (by omega)
            · intro b n W hn _ hJ
              have hR0 := Lib.hid hJ.1
              have hn : n < 12 := hn
              have hE := hJ.2.1
              have hjx := hJ.2.2
              have hsz := hE.size
              have hws2 := Nat.lt_of_lt_of_le hws hsz
              have hw1s2 := Nat.lt_of_lt_of_le hw1s hsz
              have hsz : w4.heap.size ≤ W.heap.size := hsz
              intro u33 hu33
              obtain ⟨b33, rfl, nb33, sb33, cb33⟩ := hu33
              intro u35 hu35
              obtain ⟨x35, rfl, xl35, xh35⟩ := hu35
              obtain ⟨N35, rfl⟩ : ∃ N : Nat, x35 = N := ⟨x35.toNat, by omega⟩
              obtain ⟨A36, n36, c36, hy36, m36, i36⟩ := cb33 N35 (by omega)
              clear cb33
              refine fac_op rfl rfl (by show 36 < 40; decide) ?_
              refine fac_putK ?_; intro K hK; go_simp; refine hK _ ?_; clear hK K
              go_wp2_with fail
              refine then_fac rfl (fad_step hJ (by exact Or.inl rfl) (by repeat (first | (with_reducible exact Past.refl _ _ _) | (with_reducible refine Past.alloc ?_ (by simp) _) | (with_reducible refine Past.drew ?_) | (with_reducible refine Past.drewN ?_ _) | (with_reducible refine Past.setC ?_ ?_ _; focus (first | (with_reducible exact Nat.le_refl _) | (simp; done) | (simp; omega) | omega)) | (with_reducible refine Past.step ?_ (by simp) (by assumption)))) (fun hb => (hR0.out hb).mono (by omega)) (fun _ => hjx) ?_)
              exact kAdS_mk nb33 sb33 (by first | exact hy36 | simpa using hy36) m36 i36
            · intro b n W hn _ hJ
              have hR0 := Lib.hid hJ.1
              have hn : n < 12 := hn
              have hE := hJ.2.1
              have hjx := hJ.2.2
              have hsz := hE.size
              have hws2 := Nat.lt_of_lt_of_le hws hsz
              have hw1s2 := Nat.lt_of_lt_of_le hw1s hsz
              have hsz : w4.heap.size ≤ W.heap.size := hsz
              intro u36 hu36
              obtain ⟨b36, j36, A36, n36, c36, rfl, nb36, sb36, cb36, mb36, ib36⟩ := hu36
              refine fac_op rfl rfl (by show 37 < 40; decide) ?_
              refine fac_putK ?_; intro K hK; go_simp; refine hK _ ?_; clear hK K
              go_wp2_with fail
              refine then_fac rfl (fad_step hJ (by exact Or.inl rfl) (by repeat (first | (with_reducible exact Past.refl _ _ _) | (with_reducible refine Past.alloc ?_ (by simp) _) | (with_reducible refine Past.drew ?_) | (with_reducible refine Past.drewN ?_ _) | (with_reducible refine Past.setC ?_ ?_ _; focus (first | (with_reducible exact Nat.le_refl _) | (simp; done) | (simp; omega) | omega)) | (with_reducible refine Past.step ?_ (by simp) (by assumption)))) (fun hb => (hR0.out hb).mono (by omega)) (fun _ => hjx) ?_)
              exact kSl_mk mb36 ib36
            · intro b n W hn _ hJ
              have hR0 := Lib.hid hJ.1
              have hn : n < 12 := hn
              have hE := hJ.2.1
              have hjx := hJ.2.2
              have hsz := hE.size
              have hws2 := Nat.lt_of_lt_of_le hws hsz
              have hw1s2 := Nat.lt_of_lt_of_le hw1s hsz
              have hsz : w4.heap.size ≤ W.heap.size := hsz
              intro u28 hu28
              obtain ⟨x28, y28, q28, rfl⟩ := hu28
              obtain ⟨ja, jb, jd, k0, k1, k2, f0, f1, f2⟩ := hjx.1
              have hjx2 := Lib.hid hjx.2
              refine fac_nop rfl rfl (fun _ _ => trivial) ?_
              refine fac_putK ?_; intro K hK; go_simp; refine hK _ ?_; clear hK K
              go_wp2_with fail
              have hEx : Exc (fun q => q = g ∨ q = w.heap.size) W (((W.setCell ⟨w.heap.size, 0, none⟩ (.int .i64 x28)).setCell ⟨w.heap.size, 1, none⟩ (.int .i64 y28)).setCell ⟨w.heap.size, 2, none⟩ (.int .i64 q28)) := ((Exc.refl _ _).setC (Or.inr rfl) _ |>.setC (Or.inr rfl) _).setC (Or.inr rfl) _
              refine then_fac rfl (fad_late hJ hEx ⟨cell3_put hjx.1, cell3_off hjx2.out hw1n⟩)
            · intro b n W hn _ hJ
              have hR0 := Lib.hid hJ.1
              have hn : n < 12 := hn
              have hE := hJ.2.1
              have hjx := hJ.2.2
              have hsz := hE.size
              have hws2 := Nat.lt_of_lt_of_le hws hsz
              have hw1s2 := Nat.lt_of_lt_of_le hw1s hsz
              have hsz : w4.heap.size ≤ W.heap.size := hsz
              intro u37 hu37
              obtain ⟨A37, n37, c37, rfl, mb37, ib37⟩ := hu37
              refine fac_op rfl rfl (by show 3 < 40; decide) ?_
              refine fac_putK ?_; intro K hK; go_simp; refine hK _ ?_; clear hK K
              go_wp2_with fail
              refine then_fac rfl (fad_step hJ (by exact Or.inl rfl) (by repeat (first | (with_reducible exact Past.refl _ _ _) | (with_reducible refine Past.alloc ?_ (by simp) _) | (with_reducible refine Past.drew ?_) | (with_reducible refine Past.drewN ?_ _) | (with_reducible refine Past.setC ?_ ?_ _; focus (first | (with_reducible exact Nat.le_refl _) | (simp; done) | (simp; omega) | omega)) | (with_reducible refine Past.step ?_ (by simp) (by assumption)))) (fun hb => (hR0.out hb).mono (by omega)) (fun _ => hjx) ?_)
              exact kSl_mk mb37 ib37
            intro w7 hR7 hE7 hjx7
            clear hR7
            have hjx7 : (fun W => Cell3 w.heap.size W ∧ Cell3 w1.heap.size W) w7 := hjx7
            intro u28 hu28
            obtain ⟨x28, y28, q28, rfl⟩ := hu28
            intro u29 hu29
            obtain ⟨b29, rfl, _⟩ := hu29
            intro u30 hu30
            obtain ⟨b30, rfl, _⟩ := hu30
            intro u31 hu31
            have hu31 : u31 = (.slice (some ⟨g2, 0, none⟩) 4 c2 : Value) := hu31
            subst hu31
            intro u32 hu32
            have hu32 : u32 = (.slice (some ⟨g2, 0, none⟩) 2 c2 : Value) := hu32
            subst hu32
            intro u33 hu33
            obtain ⟨b33, rfl, nb33, sb33, cb33⟩ := hu33
            intro u34 hu34
            have hu34 : u34 = (.pointer (some ⟨g, 0, none⟩) : Value) := hu34
            subst hu34
            intro u35 hu35
            obtain ⟨x35, rfl, xl35, xh35⟩ := hu35
            intro u36 hu36
            obtain ⟨b36, j36, A36, n36, c36, rfl, nb36, sb36, cb36, mb36, ib36⟩ := hu36
            intro u37 hu37
            obtain ⟨A37, n37, c37, rfl, mb37, ib37⟩ := hu37
            intro u3 hu3
            obtain ⟨A3, n3, c3, rfl, mb3, ib3⟩ := hu3
            refine fac_end ?_; intro K hK; go_simp; refine hK _ ?_; clear hK K
            obtain ⟨⟨ja, jb, jd, k0, k1, k2, _, _, _⟩, _⟩ := hjx7
            go_wp2_with fail
            refine bodyPost_retE rfl ?_
            apply Exists.intro
            refine ⟨?_, ?_⟩
            · simp only [results, Try.results19]
              go_simp
              first | done | rfl
            go_light
            exact made_sl2 ib3 mb3 (hBw.out.trans (hE7.below (fun q hq => by rcases hq with hq | hq <;> omega) (by omega)))
          · go_wp2_with fail
            refine bodyPost_retE rfl ?_
            apply Exists.intro
            refine ⟨?_, ?_⟩
            · simp only [results, Try.results19]
              go_simp
              first | done | rfl
            go_light
            refine made_sl hO4.ints (by decide) ?_ (by first | exact Nat.le_refl _ | (simp; done) | (simp; omega) | omega) ?_
            · intro b o h1 h2
              go_simp
            repeat (first | (with_reducible exact Below.refl _ _) | (with_reducible refine Bal ?_ _) | (with_reducible refine Below.drew ?_) | (with_reducible refine below_drewN ?_ _) | (with_reducible refine Bset ?_ ?_ _; focus (first | (with_reducible exact Nat.le_refl _) | (simp; done) | (simp; omega) | omega)) | (with_reducible refine Bt ?_ (by assumption)) | (with_reducible refine Bp (g := g) ?_ (by assumption) (by assumption)))
        · clear hcl3 hfz3 hcl2 hfz2
          go_wp2_with fail
          refine (pk _ g (0 + 20 + 2 * 4 + 1) _ (by repeat (first | assumption | (with_reducible refine RdLe.drew ?_) | (with_reducible refine RdLe.drewN ?_ _) | (with_reducible refine RdLe.alloc ?_ _) | (with_reducible refine RdLe.setC ?_ ?_ _; focus (first | (simp; done) | (simp; omega) | omega)))) (by omega) (by omega) (by omega)).mono ?_
          rintro e w4 ⟨⟨v4, ⟨vl4, vh4⟩, rfl, hR4, hb4⟩, hs4⟩
          obtain ⟨hc4, hf4⟩ := hb4.cells
          have hy4 := hb4.size
          try simp at hy4
          try simp at hs4
          have ho4_0 : w.heap.size < w4.heap.size := by (have := hb4.size; (try simp at this); omega)
          have hg4_0 := fun o => hc4 (w.heap.size) o (by first | (simp; done) | (simp; omega) | omega) (by first | (simp; done) | (simp; omega) | omega)
          have hk4_0 := fun o => hf4 (w.heap.size) o (by first | (simp; done) | (simp; omega) | omega) (by first | (simp; done) | (simp; omega) | omega)
          try simp [go_sem] at hg4_0
          try simp [go_sem] at hk4_0
          have ho4_1 : w1.heap.size < w4.heap.size := by (have := hb4.size; (try simp at this); omega)
          have hg4_1 := fun o => hc4 (w1.heap.size) o (by first | (simp; done) | (simp; omega) | omega) (by first | (simp; done) | (simp; omega) | omega)
          have hk4_1 := fun o => hf4 (w1.heap.size) o (by first | (simp; done) | (simp; omega) | omega) (by first | (simp; done) | (simp; omega) | omega)
          try simp [go_sem] at hg4_1
          try simp [go_sem] at hk4_1
          clear hs4
          have hO4 := hO3.past (by omega) (by first | exact Nat.le_refl _ | (simp; done) | (simp; omega) | omega) hb4
          by_cases h4 : v4 = 0
          · subst h4
            have hS := Lib.hid (show Cell3 w1.heap.size w4 by (apply Exists.intro; apply Exists.intro; apply Exists.intro; refine ⟨?_, ?_, ?_, ?_, ?_, ?_⟩ <;> first | (go_simp; done) | (go_simp; rfl)))
            have hRr := Lib.hid (show Cell3 w.heap.size w4 by (apply Exists.intro; apply Exists.intro; apply Exists.intro; refine ⟨?_, ?_, ?_, ?_, ?_, ?_⟩ <;> first | (go_simp; done) | (go_simp; rfl)))
            have hBw := Lib.hid (show Below w.heap.size w w4 by repeat (first | (with_reducible exact Below.refl _ _) | (with_reducible refine Bal ?_ _) | (with_reducible refine Below.drew ?_) | (with_reducible refine below_drewN ?_ _) | (with_reducible refine Bset ?_ ?_ _; focus (first | (with_reducible exact Nat.le_refl _) | (simp; done) | (simp; omega) | omega)) | (with_reducible refine Bt ?_ (by assumption)) | (with_reducible refine Bp (g := g) ?_ (by assumption) (by assumption))))
            have hIz := Lib.hid (show ∀ j, j < 4 → ∃ x : Int, w4.cell? ⟨g2, j, none⟩ = some (.int .i64 x) from fun j hj => ⟨_, by have := hO4.ints.cell (k := j) hj; simpa using this⟩)
            have hgr : w.heap.size ≠ g := by omega
            have hgs : g < w4.heap.size := by have := hR4.lt; omega
            have hg2s : g2 < w4.heap.size := by omega
            have hw1s : w1.heap.size < w4.heap.size := by omega
            have hws : w.heap.size < w4.heap.size := by omega
            have hgr1 : w1.heap.size ≠ g := by omega
            have hlo : w.heap.size ≤ g := by omega
            have hg2n : g2 ≠ g := by omega
            have hg2r : g2 ≠ w.heap.size := by omega
            have hw1n : w1.heap.size ≠ w.heap.size := by omega
            (try clear hc0); (try clear hf0); (try clear hy0); (try clear ho0_0); (try clear ho0_1); (try clear hg0_0); (try clear hg0_1); (try clear hk0_0); (try clear hk0_1); (try clear hs0); (try clear hc1); (try clear hf1); (try clear hy1); (try clear ho1_0); (try clear ho1_1); (try clear hg1_0); (try clear hg1_1); (try clear hk1_0); (try clear hk1_1); (try clear hs1); (try clear hc2); (try clear hf2); (try clear hy2); (try clear ho2_0); (try clear ho2_1); (try clear hg2_0); (try clear hg2_1); (try clear hk2_0); (try clear hk2_1); (try clear hs2); (try clear hc3); (try clear hf3); (try clear hy3); (try clear ho3_0); (try clear ho3_1); (try clear hg3_0); (try clear hg3_1); (try clear hk3_0); (try clear hk3_1); (try clear hs3); (try clear hc4); (try clear hf4); (try clear hy4); (try clear ho4_0); (try clear ho4_1); (try clear hg4_0); (try clear hg4_1); (try clear hk4_0); (try clear hk4_1); (try clear hs4); (try clear hO2); (try clear hO3); (try clear hO4); (try clear hfs); (try clear hcs); (try clear hfs2); (try clear hcs2); (try clear hne0); (try clear hne1); (try clear hne2); (try clear hne3); (try clear hgo2); (try clear hgl); (try clear H); (try clear B10); (try clear B11); (try clear hbb); (try clear hgl2); (try clear hlo2); (try clear hgg2)
            go_wp2_with fail
            have hXn7 := Lib.hid (show ∀ q, w4.heap.size ≤ q → ¬ (fun q => q = g ∨ q = w.heap.size) q by intro q hq hx; rcases hx with hx | hx <;> omega)
            refine wp_region_fad g ((0 + 20 + 2 * 4 + 1 + 1)) (fun q => q = g ∨ q = w.heap.size) (fun W => Cell3 w.heap.size W ∧ Cell3 w1.heap.size W) [10] [kAg3, kInts 0 (0) (0), kInts 1 (200) (200), kEq (.slice (some ⟨g2, 0, none⟩) 4 c2), kEq (.slice (some ⟨g2, 0, none⟩) 2 c2), kRows 3 4, kEq (.pointer (some ⟨g, 0, none⟩)), kInt (0) (2), kAdS 4, kSl 4, kAny, kSl 4] (by kernel_rfl) 40 rfl (by kernel_rfl) (by kernel_rfl) (by repeat (first | assumption | (with_reducible refine RdLe.drew ?_) | (with_reducible refine RdLe.drewN ?_ _) | (with_reducible refine RdLe.alloc ?_ _) | (with_reducible refine RdLe.setC ?_ ?_ _; focus (first | (simp; done) | (simp; omega) | omega)))) (by exact ⟨hRr.out, hS.out⟩) (fac_cons [] false false (by kernel_rfl) (by kernel_rfl) (by kernel_rfl) ?_ (fac_cons [] false false (by kernel_rfl) (by kernel_rfl) (by kernel_rfl) ?_ (fac_cons [] false false (by kernel_rfl) (by kernel_rfl) (by kernel_rfl) ?_ (fac_cons [] false false (by kernel_rfl) (by kernel_rfl) (by kernel_rfl) ?_ (fac_cons [(3, 31)] false false (by kernel_rfl) (by kernel_rfl) (by kernel_rfl) ?_ (fac_cons [(1, 29), (2, 30), (4, 32)] false false (by kernel_rfl) (by kernel_rfl) (by kernel_rfl) ?_ (fac_cons [] false false (by kernel_rfl) (by kernel_rfl) (by kernel_rfl) ?_ (fac_cons [(6, 34)] true false (by kernel_rfl) (by kernel_rfl) (by kernel_rfl) ?_ (fac_cons [(5, 33), (7, 35)] false false (by kernel_rfl) (by kernel_rfl) (by kernel_rfl) ?_ (fac_cons [(8, 36)] false false (by kernel_rfl) (by kernel_rfl) (by kernel_rfl) ?_ (fac_cons [(0, 28)] false true (by kernel_rfl) (by kernel_rfl) (by kernel_rfl) ?_ (fac_cons [(9, 37)] false false (by kernel_rfl) (by kernel_rfl) (by kernel_rfl) ?_ (fac_nil))))))))))))) [(0, 28), (1, 29), (2, 30), (3, 31), (4, 32), (5, 33), (6, 34), (7, 35), (8, 36), (9, 37), (11, 3)] (by kernel_rfl) ?_
            · intro b n W hn _ hJ
              have hR0 := Lib.hid hJ.1
              have hn : n < 12 := hn
              have hE := hJ.2.1
              have hjx := hJ.2.2
              have hsz := hE.size
              have hws2 := Nat.lt_of_lt_of_le hws hsz
              have hw1s2 := Nat.lt_of_lt_of_le hw1s hsz
              have hsz : w4.heap.size ≤ W.heap.size := hsz
              obtain ⟨ja, jb, jd, k0, k1, k2, f0, f1, f2⟩ := hjx.2
              refine fac_op rfl rfl (by show 28 < 40; decide) ?_
              refine fac_putK ?_; intro K hK; go_simp; refine hK _ ?_; clear hK K
              go_wp2_with fail
              refine then_fac rfl (fad_step hJ (by exact Or.inl rfl) (by repeat (first | (with_reducible exact Past.refl _ _ _) | (with_reducible refine Past.alloc ?_ (by simp) _) | (with_reducible refine Past.drew ?_) | (with_reducible refine Past.drewN ?_ _) | (with_reducible refine Past.setC ?_ ?_ _; focus (first | (with_reducible exact Nat.le_refl _) | (simp; done) | (simp; omega) | omega)) | (with_reducible refine Past.step ?_ (by simp) (by assumption)))) (fun hb => (hR0.out hb).mono (by omega)) (fun _ => hjx) ?_)
              exact kAg3_mk
            · intro b n W hn _ hJ
              have hR0 := Lib.hid hJ.1
              have hn : n < 12 := hn
              have hE := hJ.2.1
              have hjx := hJ.2.2
              have hsz := hE.size
              have hws2 := Nat.lt_of_lt_of_le hws hsz
              have hw1s2 := Nat.lt_of_lt_of_le hw1s hsz
              have hsz : w4.heap.size ≤ W.heap.size := hsz
              refine fac_op rfl rfl (by show 29 < 40; decide) ?_
              refine fac_putK ?_; intro K hK; go_simp; refine hK _ ?_; clear hK K
              go_wp2_with fail
              refine then_fac rfl (fad_step hJ (by exact Or.inl rfl) (by repeat (first | (with_reducible exact Past.refl _ _ _) | (with_reducible refine Past.alloc ?_ (by simp) _) | (with_reducible refine Past.drew ?_) | (with_reducible refine Past.drewN ?_ _) | (with_reducible refine Past.setC ?_ ?_ _; focus (first | (with_reducible exact Nat.le_refl _) | (simp; done) | (simp; omega) | omega)) | (with_reducible refine Past.step ?_ (by simp) (by assumption)))) (fun hb => RdLe.mono (k := (0 + 20 + 2 * 4 + 1 + 1) + n) (by have hR := hR0.out hb; repeat (first | assumption | (with_reducible refine RdLe.drew ?_) | (with_reducible refine RdLe.drewN ?_ _) | (with_reducible refine RdLe.alloc ?_ _) | (with_reducible refine RdLe.setC ?_ ?_ _; focus (first | (simp; done) | (simp; omega) | omega)))) (by omega)) (by exact fun hp => ⟨hjx.1.past hp hws2 hgr, hjx.2.past hp hw1s2 hgr1⟩) ?_)
              refine kInts_mk (hXn7.out _ hsz) (by simp) (fun j hj => ?_)
              omega
            · intro b n W hn _ hJ
              have hR0 := Lib.hid hJ.1
              have hn : n < 12 := hn
              have hE := hJ.2.1
              have hjx := hJ.2.2
              have hsz := hE.size
              have hws2 := Nat.lt_of_lt_of_le hws hsz
              have hw1s2 := Nat.lt_of_lt_of_le hw1s hsz
              have hsz : w4.heap.size ≤ W.heap.size := hsz
              refine fac_op rfl rfl (by show 30 < 40; decide) ?_
              refine fac_putK ?_; intro K hK; go_simp; refine hK _ ?_; clear hK K
              go_wp2_with fail
              refine then_fac rfl (fad_step hJ (by exact Or.inl rfl) (by repeat (first | (with_reducible exact Past.refl _ _ _) | (with_reducible refine Past.alloc ?_ (by simp) _) | (with_reducible refine Past.drew ?_) | (with_reducible refine Past.drewN ?_ _) | (with_reducible refine Past.setC ?_ ?_ _; focus (first | (with_reducible exact Nat.le_refl _) | (simp; done) | (simp; omega) | omega)) | (with_reducible refine Past.step ?_ (by simp) (by assumption)))) (fun hb => RdLe.mono (k := (0 + 20 + 2 * 4 + 1 + 1) + n) (by have hR := hR0.out hb; repeat (first | assumption | (with_reducible refine RdLe.drew ?_) | (with_reducible refine RdLe.drewN ?_ _) | (with_reducible refine RdLe.alloc ?_ _) | (with_reducible refine RdLe.setC ?_ ?_ _; focus (first | (simp; done) | (simp; omega) | omega)))) (by omega)) (by exact fun hp => ⟨hjx.1.past hp hws2 hgr, hjx.2.past hp hw1s2 hgr1⟩) ?_)
              refine kInts_mk (hXn7.out _ hsz) (by simp) (fun j hj => ?_)
              rcases (by omega : j = 0) with rfl
              · exact ⟨200, by go_simp, by decide, by decide⟩
            · intro b n W hn _ hJ
              have hR0 := Lib.hid hJ.1
              have hn : n < 12 := hn
              have hE := hJ.2.1
              have hjx := hJ.2.2
              have hsz := hE.size
              have hws2 := Nat.lt_of_lt_of_le hws hsz
              have hw1s2 := Nat.lt_of_lt_of_le hw1s hsz
              have hsz : w4.heap.size ≤ W.heap.size := hsz
              refine fac_op rfl rfl (by show 31 < 40; decide) ?_
              refine fac_putK ?_; intro K hK; go_simp; refine hK _ ?_; clear hK K
              go_wp2_with fail
              refine then_fac rfl (fad_step hJ (by exact Or.inl rfl) (by repeat (first | (with_reducible exact Past.refl _ _ _) | (with_reducible refine Past.alloc ?_ (by simp) _) | (with_reducible refine Past.drew ?_) | (with_reducible refine Past.drewN ?_ _) | (with_reducible refine Past.setC ?_ ?_ _; focus (first | (with_reducible exact Nat.le_refl _) | (simp; done) | (simp; omega) | omega)) | (with_reducible refine Past.step ?_ (by simp) (by assumption)))) (fun hb => RdLe.mono (k := (0 + 20 + 2 * 4 + 1 + 1) + n) (by have hR := hR0.out hb; repeat (first | assumption | (with_reducible refine RdLe.drew ?_) | (with_reducible refine RdLe.drewN ?_ _) | (with_reducible refine RdLe.alloc ?_ _) | (with_reducible refine RdLe.setC ?_ ?_ _; focus (first | (simp; done) | (simp; omega) | omega)))) (by omega)) (by exact fun hp => ⟨hjx.1.past hp hws2 hgr, hjx.2.past hp hw1s2 hgr1⟩) ?_)
              exact kEq_mk rfl
            · intro b n W hn _ hJ
              have hR0 := Lib.hid hJ.1
              have hn : n < 12 := hn
              have hE := hJ.2.1
              have hjx := hJ.2.2
              have hsz := hE.size
              have hws2 := Nat.lt_of_lt_of_le hws hsz
              have hw1s2 := Nat.lt_of_lt_of_le hw1s hsz
              have hsz : w4.heap.size ≤ W.heap.size := hsz
              intro u31 hu31
              have hu31 : u31 = (.slice (some ⟨g2, 0, none⟩) 4 c2 : Value) := hu31
              subst hu31
              refine fac_op rfl rfl (by show 32 < 40; decide) ?_
              refine fac_putK ?_; intro K hK; go_simp; refine hK _ ?_; clear hK K
              go_wp2_with fail
              refine then_fac rfl (fad_step hJ (by exact Or.inl rfl) (by repeat (first | (with_reducible exact Past.refl _ _ _) | (with_reducible refine Past.alloc ?_ (by simp) _) | (with_reducible refine Past.drew ?_) | (with_reducible refine Past.drewN ?_ _) | (with_reducible refine Past.setC ?_ ?_ _; focus (first | (with_reducible exact Nat.le_refl _) | (simp; done) | (simp; omega) | omega)) | (with_reducible refine Past.step ?_ (by simp) (by assumption)))) (fun hb => (hR0.out hb).mono (by omega)) (fun _ => hjx) ?_)
              exact kEq_mk rfl
            · intro b n W hn _ hJ
              have hR0 := Lib.hid hJ.1
              have hn : n < 12 := hn
              have hE := hJ.2.1
              have hjx := hJ.2.2
              have hsz := hE.size
              have hws2 := Nat.lt_of_lt_of_le hws hsz
              have hw1s2 := Nat.lt_of_lt_of_le hw1s hsz
              have hsz : w4.heap.size ≤ W.heap.size := hsz
              intro u29 hu29
              obtain ⟨b29, rfl, nb29, sb29, cb29⟩ := hu29
              intro u30 hu30
              obtain ⟨b30, rfl, nb30, sb30, cb30⟩ := hu30
              intro u32 hu32
              have hu32 : u32 = (.slice (some ⟨g2, 0, none⟩) 2 c2 : Value) := hu32
              subst hu32
              have hcz := Lib.hid (show ∀ j, j < 4 → ∃ x : Int, W.cell? ⟨g2, j, none⟩ = some (.int .i64 x) from fun j hj => let ⟨x, hx⟩ := hIz.out j hj; ⟨x, (hE.cell hg2s (fun hx => hx.elim hg2n hg2r)).trans hx⟩)
              have c30 := Lib.hid cb30; clear cb30; (try clear cb29)
              refine fac_op rfl rfl (by show 33 < 40; decide) ?_
              refine fac_putK ?_; intro K hK; go_simp; refine hK _ ?_; clear hK K
              go_wp2_with fail
              have hEx : Exc (fun q => q = g ∨ q = w.heap.size) W (W.alloc (.cells #[.slice (some ⟨b29, 0, none⟩) 0 0, .slice (some ⟨b30, 0, none⟩) 1 1, .slice (some ⟨g2, 0, none⟩) 2 c2] 34)) := Exc.of_past (g := g) (Or.inl rfl) (by repeat (first | (with_reducible exact Past.refl _ _ _) | (with_reducible refine Past.alloc ?_ (by simp) _) | (with_reducible refine Past.drew ?_) | (with_reducible refine Past.drewN ?_ _) | (with_reducible refine Past.setC ?_ ?_ _; focus (first | (with_reducible exact Nat.le_refl _) | (simp; done) | (simp; omega) | omega)) | (with_reducible refine Past.step ?_ (by simp) (by assumption))))
              refine then_fac rfl (fad_step hJ (by exact Or.inl rfl) (by repeat (first | (with_reducible exact Past.refl _ _ _) | (with_reducible refine Past.alloc ?_ (by simp) _) | (with_reducible refine Past.drew ?_) | (with_reducible refine Past.drewN ?_ _) | (with_reducible refine Past.setC ?_ ?_ _; focus (first | (with_reducible exact Nat.le_refl _) | (simp; done) | (simp; omega) | omega)) | (with_reducible refine Past.step ?_ (by simp) (by assumption)))) (fun hb => RdLe.mono (k := (0 + 20 + 2 * 4 + 1 + 1) + n) (by have hR := hR0.out hb; repeat (first | assumption | (with_reducible refine RdLe.drew ?_) | (with_reducible refine RdLe.drewN ?_ _) | (with_reducible refine RdLe.alloc ?_ _) | (with_reducible refine RdLe.setC ?_ ?_ _; focus (first | (simp; done) | (simp; omega) | omega)))) (by omega)) (fun hp => ⟨hjx.1.past hp hws2 hgr, hjx.2.past hp hw1s2 hgr1⟩) ?_)
              refine kRows_mk (hXn7.out _ hsz) (by simp) (fun j hj => ?_)
              rcases (by omega : j = 0 ∨ j = 1 ∨ j = 2) with rfl | rfl | rfl
              · exact ⟨some ⟨b29, 0, none⟩, 0, 0, by go_simp, by decide, IntsX.nil⟩
              · exact ⟨some ⟨b30, 0, none⟩, 1, 1, by go_simp, by decide, (IntsX.of_cells nb30 sb30 fun j hj => let ⟨x, h1, _⟩ := c30.out j hj; ⟨x, h1⟩).st hEx⟩
              · exact ⟨some ⟨g2, 0, none⟩, 2, c2, by go_simp, by decide, (IntsX.of_cells (fun hx => hx.elim hg2n hg2r) (by omega) fun j hj => hcz.out j (by omega)).st hEx⟩
            · intro b n W hn _ hJ
              have hR0 := Lib.hid hJ.1
              have hn : n < 12 := hn
              have hE := hJ.2.1
              have hjx := hJ.2.2
              have hsz := hE.size
              have hws2 := Nat.lt_of_lt_of_le hws hsz
              have hw1s2 := Nat.lt_of_lt_of_le hw1s hsz
              have hsz : w4.heap.size ≤ W.heap.size := hsz
              refine fac_op rfl rfl (by show 34 < 40; decide) ?_
              refine fac_putK ?_; intro K hK; go_simp; refine hK _ ?_; clear hK K
              go_wp2_with fail
              refine then_fac rfl (fad_step hJ (by exact Or.inl rfl) (by repeat (first | (with_reducible exact Past.refl _ _ _) | (with_reducible refine Past.alloc ?_ (by simp) _) | (with_reducible refine Past.drew ?_) | (with_reducible refine Past.drewN ?_ _) | (with_reducible refine Past.setC ?_ ?_ _; focus (first | (with_reducible exact Nat.le_refl _) | (simp; done) | (simp; omega) | omega)) | (with_reducible refine Past.step ?_ (by simp) (by assumption)))) (fun hb => RdLe.mono (k := (0 + 20 + 2 * 4 + 1 + 1) + n) (by have hR := hR0.out hb; repeat (first | assumption | (with_reducible refine RdLe.drew ?_) | (with_reducible refine RdLe.drewN ?_ _) | (with_reducible refine RdLe.alloc ?_ _) | (with_reducible refine RdLe.setC ?_ ?_ _; focus (first | (simp; done) | (simp; omega) | omega)))) (by omega)) (by exact fun hp => ⟨hjx.1.past hp hws2 hgr, hjx.2.past hp hw1s2 hgr1⟩) ?_)
              exact kEq_mk rfl
            · intro b n W hn hb hJ
              obtain rfl := hb rfl
              have hR := hJ.1 rfl
              have hgW := hR.lt
              have hn : n < 12 := hn
              have hE := hJ.2.1
              have hjx := hJ.2.2
              have hsz := hE.size
              have hws2 := Nat.lt_of_lt_of_le hws hsz
              have hw1s2 := Nat.lt_of_lt_of_le hw1s hsz
              have hsz : w4.heap.size ≤ W.heap.size := hsz
              intro u34 hu34
              have hu34 : u34 = (.pointer (some ⟨g, 0, none⟩) : Value) := hu34
              subst hu34
              refine fac_op rfl rfl (by show 35 < 40; decide) ?_
              refine fac_putK ?_; intro K hK; go_simp; refine hK _ ?_; clear hK K
              go_wp2_with (go_at_call 53; refine (pk _ g ((0 + 20 + 2 * 4 + 1 + 1) + n) _ (by repeat (first | assumption | (with_reducible refine RdLe.drew ?_) | (with_reducible refine RdLe.drewN ?_ _) | (with_reducible refine RdLe.alloc ?_ _) | (with_reducible refine RdLe.setC ?_ ?_ _; focus (first | (simp; done) | (simp; omega) | omega)))) (by omega) (by omega) (by omega)).mono ?_; rintro e W1 ⟨⟨v1, ⟨vl1, vh1⟩, rfl, hR1, hb1⟩, hs1⟩)
              refine then_fac rfl (fad_step hJ (by exact Or.inl rfl) (by repeat (first | (with_reducible exact Past.refl _ _ _) | (with_reducible refine Past.alloc ?_ (by simp) _) | (with_reducible refine Past.drew ?_) | (with_reducible refine Past.drewN ?_ _) | (with_reducible refine Past.setC ?_ ?_ _; focus (first | (with_reducible exact Nat.le_refl _) | (simp; done) | (simp; omega) | omega)) | (with_reducible refine Past.step ?_ (by simp) (by assumption)))) (fun _ => hR1) (by exact fun hp => ⟨hjx.1.past hp hws2 hgr, hjx.2.past hp hw1s2 hgr1⟩) ?_)
              exact kInt_mk (by omega) (by omega)
            · intro b n W hn _ hJ
              have hR0 := Lib.hid hJ.1
              have hn : n < 12 := hn
              have hE := hJ.2.1
              have hjx := hJ.2.2
              have hsz := hE.size
              have hws2 := Nat.lt_of_lt_of_le hws hsz
              have hw1s2 := Nat.lt_of_lt_of_le hw1s hsz
              have hsz : w4.heap.size ≤ W.heap.size := hsz
              intro u33 hu33
              obtain ⟨b33, rfl, nb33, sb33, cb33⟩ := hu33
              intro u35 hu35
              obtain ⟨x35, rfl, xl35, xh35⟩ := hu35
              obtain ⟨N35, rfl⟩ : ∃ N : Nat, x35 = N := ⟨x35.toNat, by omega⟩
              obtain ⟨A36, n36, c36, hy36, m36, i36⟩ := cb33 N35 (by omega)
              clear cb33
              refine fac_op rfl rfl (by show 36 < 40; decide) ?_
              refine fac_putK ?_; intro K hK; go_simp; refine hK _ ?_; clear hK K
              go_wp2_with fail
              refine then_fac rfl (fad_step hJ (by exact Or.inl rfl) (by repeat (first | (with_reducible exact Past.refl _ _ _) | (with_reducible refine Past.alloc ?_ (by simp) _) | (with_reducible refine Past.drew ?_) | (with_reducible refine Past.drewN ?_ _) | (with_reducible refine Past.setC ?_ ?_ _; focus (first | (with_reducible exact Nat.le_refl _) | (simp; done) | (simp; omega) | omega)) | (with_reducible refine Past.step ?_ (by simp) (by assumption)))) (fun hb => (hR0.out hb).mono (by omega)) (fun _ => hjx) ?_)
              exact kAdS_mk nb33 sb33 (by first | exact hy36 | simpa using hy36) m36 i36
            · intro b n W hn _ hJ
              have hR0 := Lib.hid hJ.1
              have hn : n < 12 := hn
              have hE := hJ.2.1
              have hjx := hJ.2.2
              have hsz := hE.size
              have hws2 := Nat.lt_of_lt_of_le hws hsz
              have hw1s2 := Nat.lt_of_lt_of_le hw1s hsz
              have hsz : w4.heap.size ≤ W.heap.size := hsz
              intro u36 hu36
              obtain ⟨b36, j36, A36, n36, c36, rfl, nb36, sb36, cb36, mb36, ib36⟩ := hu36
              refine fac_op rfl rfl (by show 37 < 40; decide) ?_
              refine fac_putK ?_; intro K hK; go_simp; refine hK _ ?_; clear hK K
              go_wp2_with fail
              refine then_fac rfl (fad_step hJ (by exact Or.inl rfl) (by repeat (first | (with_reducible exact Past.refl _ _ _) | (with_reducible refine Past.alloc ?_ (by simp) _) | (with_reducible refine Past.drew ?_) | (with_reducible refine Past.drewN ?_ _) | (with_reducible refine Past.setC ?_ ?_ _; focus (first | (with_reducible exact Nat.le_refl _) | (simp; done) | (simp; omega) | omega)) | (with_reducible refine Past.step ?_ (by simp) (by assumption)))) (fun hb => (hR0.out hb).mono (by omega)) (fun _ => hjx) ?_)
              exact kSl_mk mb36 ib36
            · intro b n W hn _ hJ
              have hR0 := Lib.hid hJ.1
              have hn : n < 12 := hn
              have hE := hJ.2.1
              have hjx := hJ.2.2
              have hsz := hE.size
              have hws2 := Nat.lt_of_lt_of_le hws hsz
              have hw1s2 := Nat.lt_of_lt_of_le hw1s hsz
              have hsz : w4.heap.size ≤ W.heap.size := hsz
              intro u28 hu28
              obtain ⟨x28, y28, q28, rfl⟩ := hu28
              obtain ⟨ja, jb, jd, k0, k1, k2, f0, f1, f2⟩ := hjx.1
              have hjx2 := Lib.hid hjx.2
              refine fac_nop rfl rfl (fun _ _ => trivial) ?_
              refine fac_putK ?_; intro K hK; go_simp; refine hK _ ?_; clear hK K
              go_wp2_with fail
              have hEx : Exc (fun q => q = g ∨ q = w.heap.size) W (((W.setCell ⟨w.heap.size, 0, none⟩ (.int .i64 x28)).setCell ⟨w.heap.size, 1, none⟩ (.int .i64 y28)).setCell ⟨w.heap.size, 2, none⟩ (.int .i64 q28)) := ((Exc.refl _ _).setC (Or.inr rfl) _ |>.setC (Or.inr rfl) _).setC (Or.inr rfl) _
              refine then_fac rfl (fad_late hJ hEx ⟨cell3_put hjx.1, cell3_off hjx2.out hw1n⟩)
            · intro b n W hn _ hJ
              have hR0 := Lib.hid hJ.1
              have hn : n < 12 := hn
              have hE := hJ.2.1
              have hjx := hJ.2.2
              have hsz := hE.size
              have hws2 := Nat.lt_of_lt_of_le hws hsz
              have hw1s2 := Nat.lt_of_lt_of_le hw1s hsz
              have hsz : w4.heap.size ≤ W.heap.size := hsz
              intro u37 hu37
              obtain ⟨A37, n37, c37, rfl, mb37, ib37⟩ := hu37
              refine fac_op rfl rfl (by show 3 < 40; decide) ?_
              refine fac_putK ?_; intro K hK; go_simp; refine hK _ ?_; clear hK K
              go_wp2_with fail
              refine then_fac rfl (fad_step hJ (by exact Or.inl rfl) (by repeat (first | (with_reducible exact Past.refl _ _ _) | (with_reducible refine Past.alloc ?_ (by simp) _) | (with_reducible refine Past.drew ?_) | (with_reducible refine Past.drewN ?_ _) | (with_reducible refine Past.setC ?_ ?_ _; focus (first | (with_reducible exact Nat.le_refl _) | (simp; done) | (simp; omega) | omega)) | (with_reducible refine Past.step ?_ (by simp) (by assumption)))) (fun hb => (hR0.out hb).mono (by omega)) (fun _ => hjx) ?_)
              exact kSl_mk mb37 ib37
            intro w7 hR7 hE7 hjx7
            clear hR7
            have hjx7 : (fun W => Cell3 w.heap.size W ∧ Cell3 w1.heap.size W) w7 := hjx7
            intro u28 hu28
            obtain ⟨x28, y28, q28, rfl⟩ := hu28
            intro u29 hu29
            obtain ⟨b29, rfl, _⟩ := hu29
            intro u30 hu30
            obtain ⟨b30, rfl, _⟩ := hu30
            intro u31 hu31
            have hu31 : u31 = (.slice (some ⟨g2, 0, none⟩) 4 c2 : Value) := hu31
            subst hu31
            intro u32 hu32
            have hu32 : u32 = (.slice (some ⟨g2, 0, none⟩) 2 c2 : Value) := hu32
            subst hu32
            intro u33 hu33
            obtain ⟨b33, rfl, nb33, sb33, cb33⟩ := hu33
            intro u34 hu34
            have hu34 : u34 = (.pointer (some ⟨g, 0, none⟩) : Value) := hu34
            subst hu34
            intro u35 hu35
            obtain ⟨x35, rfl, xl35, xh35⟩ := hu35
            intro u36 hu36
            obtain ⟨b36, j36, A36, n36, c36, rfl, nb36, sb36, cb36, mb36, ib36⟩ := hu36
            intro u37 hu37
            obtain ⟨A37, n37, c37, rfl, mb37, ib37⟩ := hu37
            intro u3 hu3
            obtain ⟨A3, n3, c3, rfl, mb3, ib3⟩ := hu3
            refine fac_end ?_; intro K hK; go_simp; refine hK _ ?_; clear hK K
            obtain ⟨⟨ja, jb, jd, k0, k1, k2, _, _, _⟩, _⟩ := hjx7
            go_wp2_with fail
            refine bodyPost_retE rfl ?_
            apply Exists.intro
            refine ⟨?_, ?_⟩
            · simp only [results, Try.results19]
              go_simp
              first | done | rfl
            go_light
            exact made_sl2 ib3 mb3 (hBw.out.trans (hE7.below (fun q hq => by rcases hq with hq | hq <;> omega) (by omega)))
          · go_wp2_with fail
            refine bodyPost_retE rfl ?_
            apply Exists.intro
            refine ⟨?_, ?_⟩
            · simp only [results, Try.results19]
              go_simp
              first | done | rfl
            go_light
            refine made_sl hO4.ints (by decide) ?_ (by first | exact Nat.le_refl _ | (simp; done) | (simp; omega) | omega) ?_
            · intro b o h1 h2
              go_simp
            repeat (first | (with_reducible exact Below.refl _ _) | (with_reducible refine Bal ?_ _) | (with_reducible refine Below.drew ?_) | (with_reducible refine below_drewN ?_ _) | (with_reducible refine Bset ?_ ?_ _; focus (first | (with_reducible exact Nat.le_refl _) | (simp; done) | (simp; omega) | omega)) | (with_reducible refine Bt ?_ (by assumption)) | (with_reducible refine Bp (g := g) ?_ (by assumption) (by assumption)))
    · clear hcl2 hfz2
      go_wp2_with fail
      refine (pk _ g (0 + 20 + 2 * 4) _ (by repeat (first | assumption | (with_reducible refine RdLe.drew ?_) | (with_reducible refine RdLe.drewN ?_ _) | (with_reducible refine RdLe.alloc ?_ _) | (with_reducible refine RdLe.setC ?_ ?_ _; focus (first | (simp; done) | (simp; omega) | omega)))) (by omega) (by omega) (by omega)).mono ?_
      rintro e w3 ⟨⟨v3, ⟨vl3, vh3⟩, rfl, hR3, hb3⟩, hs3⟩
      obtain ⟨hc3, hf3⟩ := hb3.cells
      have hy3 := hb3.size
      try simp at hy3
      try simp at hs3
      have ho3_0 : w.heap.size < w3.heap.size := by (have := hb3.size; (try simp at this); omega)
      have hg3_0 := fun o => hc3 (w.heap.size) o (by first | (simp; done) | (simp; omega) | omega) (by first | (simp; done) | (simp; omega) | omega)
      have hk3_0 := fun o => hf3 (w.heap.size) o (by first | (simp; done) | (simp; omega) | omega) (by first | (simp; done) | (simp; omega) | omega)
      try simp [go_sem] at hg3_0
      try simp [go_sem] at hk3_0
      have ho3_1 : w1.heap.size < w3.heap.size := by (have := hb3.size; (try simp at this); omega)
      have hg3_1 := fun o => hc3 (w1.heap.size) o (by first | (simp; done) | (simp; omega) | omega) (by first | (simp; done) | (simp; omega) | omega)
      have hk3_1 := fun o => hf3 (w1.heap.size) o (by first | (simp; done) | (simp; omega) | omega) (by first | (simp; done) | (simp; omega) | omega)
      try simp [go_sem] at hg3_1
      try simp [go_sem] at hk3_1
      clear hs3
      have hO3 := hO2.past (by omega) (by first | exact Nat.le_refl _ | (simp; done) | (simp; omega) | omega) hb3
      by_cases h3 : v3 = 0
      · subst h3
        have hS := Lib.hid (show Cell3 w1.heap.size w3 by (apply Exists.intro; apply Exists.intro; apply Exists.intro; refine ⟨?_, ?_, ?_, ?_, ?_, ?_⟩ <;> first | (go_simp; done) | (go_simp; rfl)))
        have hRr := Lib.hid (show Cell3 w.heap.size w3 by (apply Exists.intro; apply Exists.intro; apply Exists.intro; refine ⟨?_, ?_, ?_, ?_, ?_, ?_⟩ <;> first | (go_simp; done) | (go_simp; rfl)))
        have hBw := Lib.hid (show Below w.heap.size w w3 by repeat (first | (with_reducible exact Below.refl _ _) | (with_reducible refine Bal ?_ _) | (with_reducible refine Below.drew ?_) | (with_reducible refine below_drewN ?_ _) | (with_reducible refine Bset ?_ ?_ _; focus (first | (with_reducible exact Nat.le_refl _) | (simp; done) | (simp; omega) | omega)) | (with_reducible refine Bt ?_ (by assumption)) | (with_reducible refine Bp (g := g) ?_ (by assumption) (by assumption))))
        have hIz := Lib.hid (show ∀ j, j < 4 → ∃ x : Int, w3.cell? ⟨g2, j, none⟩ = some (.int .i64 x) from fun j hj => ⟨_, by have := hO3.ints.cell (k := j) hj; simpa using this⟩)
        have hgr : w.heap.size ≠ g := by omega
        have hgs : g < w3.heap.size := by have := hR3.lt; omega
        have hg2s : g2 < w3.heap.size := by omega
        have hw1s : w1.heap.size < w3.heap.size := by omega
        have hws : w.heap.size < w3.heap.size := by omega
        have hgr1 : w1.heap.size ≠ g := by omega
        have hlo : w.heap.size ≤ g := by omega
        have hg2n : g2 ≠ g := by omega
        have hg2r : g2 ≠ w.heap.size := by omega
        have hw1n : w1.heap.size ≠ w.heap.size := by omega
        (try clear hc0); (try clear hf0); (try clear hy0); (try clear ho0_0); (try clear ho0_1); (try clear hg0_0); (try clear hg0_1); (try clear hk0_0); (try clear hk0_1); (try clear hs0); (try clear hc1); (try clear hf1); (try clear hy1); (try clear ho1_0); (try clear ho1_1); (try clear hg1_0); (try clear hg1_1); (try clear hk1_0); (try clear hk1_1); (try clear hs1); (try clear hc2); (try clear hf2); (try clear hy2); (try clear ho2_0); (try clear ho2_1); (try clear hg2_0); (try clear hg2_1); (try clear hk2_0); (try clear hk2_1); (try clear hs2); (try clear hc3); (try clear hf3); (try clear hy3); (try clear ho3_0); (try clear ho3_1); (try clear hg3_0); (try clear hg3_1); (try clear hk3_0); (try clear hk3_1); (try clear hs3); (try clear hc4); (try clear hf4); (try clear hy4); (try clear ho4_0); (try clear ho4_1); (try clear hg4_0); (try clear hg4_1); (try clear hk4_0); (try clear hk4_1); (try clear hs4); (try clear hO2); (try clear hO3); (try clear hO4); (try clear hfs); (try clear hcs); (try clear hfs2); (try clear hcs2); (try clear hne0); (try clear hne1); (try clear hne2); (try clear hne3); (try clear hgo2); (try clear hgl); (try clear H); (try clear B10); (try clear B11); (try clear hbb); (try clear hgl2); (try clear hlo2); (try clear hgg2)
        go_wp2_with fail
        have hXn7 := Lib.hid (show ∀ q, w3.heap.size ≤ q → ¬ (fun q => q = g ∨ q = w.heap.size) q by intro q hq hx; rcases hx with hx | hx <;> omega)
        refine wp_region_fad g ((0 + 20 + 2 * 4 + 1)) (fun q => q = g ∨ q = w.heap.size) (fun W => Cell3 w.heap.size W ∧ Cell3 w1.heap.size W) [10] [kAg3, kInts 0 (0) (0), kInts 1 (200) (200), kEq (.slice (some ⟨g2, 0, none⟩) 4 c2), kEq (.slice (some ⟨g2, 0, none⟩) 2 c2), kRows 3 4, kEq (.pointer (some ⟨g, 0, none⟩)), kInt (0) (2), kAdS 4, kSl 4, kAny, kSl 4] (by kernel_rfl) 40 rfl (by kernel_rfl) (by kernel_rfl) (by repeat (first | assumption | (with_reducible refine RdLe.drew ?_) | (with_reducible refine RdLe.drewN ?_ _) | (with_reducible refine RdLe.alloc ?_ _) | (with_reducible refine RdLe.setC ?_ ?_ _; focus (first | (simp; done) | (simp; omega) | omega)))) (by exact ⟨hRr.out, hS.out⟩) (fac_cons [] false false (by kernel_rfl) (by kernel_rfl) (by kernel_rfl) ?_ (fac_cons [] false false (by kernel_rfl) (by kernel_rfl) (by kernel_rfl) ?_ (fac_cons [] false false (by kernel_rfl) (by kernel_rfl) (by kernel_rfl) ?_ (fac_cons [] false false (by kernel_rfl) (by kernel_rfl) (by kernel_rfl) ?_ (fac_cons [(3, 31)] false false (by kernel_rfl) (by kernel_rfl) (by kernel_rfl) ?_ (fac_cons [(1, 29), (2, 30), (4, 32)] false false (by kernel_rfl) (by kernel_rfl) (by kernel_rfl) ?_ (fac_cons [] false false (by kernel_rfl) (by kernel_rfl) (by kernel_rfl) ?_ (fac_cons [(6, 34)] true false (by kernel_rfl) (by kernel_rfl) (by kernel_rfl) ?_ (fac_cons [(5, 33), (7, 35)] false false (by kernel_rfl) (by kernel_rfl) (by kernel_rfl) ?_ (fac_cons [(8, 36)] false false (by kernel_rfl) (by kernel_rfl) (by kernel_rfl) ?_ (fac_cons [(0, 28)] false true (by kernel_rfl) (by kernel_rfl) (by kernel_rfl) ?_ (fac_cons [(9, 37)] false false (by kernel_rfl) (by kernel_rfl) (by kernel_rfl) ?_ (fac_nil))))))))))))) [(0, 28), (1, 29), (2, 30), (3, 31), (4, 32), (5, 33), (6, 34), (7, 35), (8, 36), (9, 37), (11, 3)] (by kernel_rfl) ?_
        · intro b n W hn _ hJ
          have hR0 := Lib.hid hJ.1
          have hn : n < 12 := hn
          have hE := hJ.2.1
          have hjx := hJ.2.2
          have hsz := hE.size
          have hws2 := Nat.lt_of_lt_of_le hws hsz
          have hw1s2 := Nat.lt_of_lt_of_le hw1s hsz
          have hsz : w3.heap.size ≤ W.heap.size := hsz
          obtain ⟨ja, jb, jd, k0, k1, k2, f0, f1, f2⟩ := hjx.2
          refine fac_op rfl rfl (by show 28 < 40; decide) ?_
          refine fac_putK ?_; intro K hK; go_simp; refine hK _ ?_; clear hK K
          go_wp2_with fail
          refine then_fac rfl (fad_step hJ (by exact Or.inl rfl) (by repeat (first | (with_reducible exact Past.refl _ _ _) | (with_reducible refine Past.alloc ?_ (by simp) _) | (with_reducible refine Past.drew ?_) | (with_reducible refine Past.drewN ?_ _) | (with_reducible refine Past.setC ?_ ?_ _; focus (first | (with_reducible exact Nat.le_refl _) | (simp; done) | (simp; omega) | omega)) | (with_reducible refine Past.step ?_ (by simp) (by assumption)))) (fun hb => (hR0.out hb).mono (by omega)) (fun _ => hjx) ?_)
          exact kAg3_mk
        · intro b n W hn _ hJ
          have hR0 := Lib.hid hJ.1
          have hn : n < 12 := hn
          have hE := hJ.2.1
          have hjx := hJ.2.2
          have hsz := hE.size
          have hws2 := Nat.lt_of_lt_of_le hws hsz
          have hw1s2 := Nat.lt_of_lt_of_le hw1s hsz
          have hsz : w3.heap.size ≤ W.heap.size := hsz
          refine fac_op rfl rfl (by show 29 < 40; decide) ?_
          refine fac_putK ?_; intro K hK; go_simp; refine hK _ ?_; clear hK K
          go_wp2_with fail
          refine then_fac rfl (fad_step hJ (by exact Or.inl rfl) (by repeat (first | (with_reducible exact Past.refl _ _ _) | (with_reducible refine Past.alloc ?_ (by simp) _) | (with_reducible refine Past.drew ?_) | (with_reducible refine Past.drewN ?_ _) | (with_reducible refine Past.setC ?_ ?_ _; focus (first | (with_reducible exact Nat.le_refl _) | (simp; done) | (simp; omega) | omega)) | (with_reducible refine Past.step ?_ (by simp) (by assumption)))) (fun hb => RdLe.mono (k := (0 + 20 + 2 * 4 + 1) + n) (by have hR := hR0.out hb; repeat (first | assumption | (with_reducible refine RdLe.drew ?_) | (with_reducible refine RdLe.drewN ?_ _) | (with_reducible refine RdLe.alloc ?_ _) | (with_reducible refine RdLe.setC ?_ ?_ _; focus (first | (simp; done) | (simp; omega) | omega)))) (by omega)) (by exact fun hp => ⟨hjx.1.past hp hws2 hgr, hjx.2.past hp hw1s2 hgr1⟩) ?_)
          refine kInts_mk (hXn7.out _ hsz) (by simp) (fun j hj => ?_)
          omega
        · intro b n W hn _ hJ
          have hR0 := Lib.hid hJ.1
          have hn : n < 12 := hn
          have hE := hJ.2.1
          have hjx := hJ.2.2
          have hsz := hE.size
          have hws2 := Nat.lt_of_lt_of_le hws hsz
          have hw1s2 := Nat.lt_of_lt_of_le hw1s hsz
          have hsz : w3.heap.size ≤ W.heap.size := hsz
          refine fac_op rfl rfl (by show 30 < 40; decide) ?_
          refine fac_putK ?_; intro K hK; go_simp; refine hK _ ?_; clear hK K
          go_wp2_with fail
          refine then_fac rfl (fad_step hJ (by exact Or.inl rfl) (by repeat (first | (with_reducible exact Past.refl _ _ _) | (with_reducible refine Past.alloc ?_ (by simp) _) | (with_reducible refine Past.drew ?_) | (with_reducible refine Past.drewN ?_ _) | (with_reducible refine Past.setC ?_ ?_ _; focus (first | (with_reducible exact Nat.le_refl _) | (simp; done) | (simp; omega) | omega)) | (with_reducible refine Past.step ?_ (by simp) (by assumption)))) (fun hb => RdLe.mono (k := (0 + 20 + 2 * 4 + 1) + n) (by have hR := hR0.out hb; repeat (first | assumption | (with_reducible refine RdLe.drew ?_) | (with_reducible refine RdLe.drewN ?_ _) | (with_reducible refine RdLe.alloc ?_ _) | (with_reducible refine RdLe.setC ?_ ?_ _; focus (first | (simp; done) | (simp; omega) | omega)))) (by omega)) (by exact fun hp => ⟨hjx.1.past hp hws2 hgr, hjx.2.past hp hw1s2 hgr1⟩) ?_)
          refine kInts_mk (hXn7.out _ hsz) (by simp) (fun j hj => ?_)
          rcases (by omega : j = 0) with rfl
          · exact ⟨200, by go_simp, by decide, by decide⟩
        · intro b n W hn _ hJ
          have hR0 := Lib.hid hJ.1
          have hn : n < 12 := hn
          have hE := hJ.2.1
          have hjx := hJ.2.2
          have hsz := hE.size
          have hws2 := Nat.lt_of_lt_of_le hws hsz
          have hw1s2 := Nat.lt_of_lt_of_le hw1s hsz
          have hsz : w3.heap.size ≤ W.heap.size := hsz
          refine fac_op rfl rfl (by show 31 < 40; decide) ?_
          refine fac_putK ?_; intro K hK; go_simp; refine hK _ ?_; clear hK K
          go_wp2_with fail
          refine then_fac rfl (fad_step hJ (by exact Or.inl rfl) (by repeat (first | (with_reducible exact Past.refl _ _ _) | (with_reducible refine Past.alloc ?_ (by simp) _) | (with_reducible refine Past.drew ?_) | (with_reducible refine Past.drewN ?_ _) | (with_reducible refine Past.setC ?_ ?_ _; focus (first | (with_reducible exact Nat.le_refl _) | (simp; done) | (simp; omega) | omega)) | (with_reducible refine Past.step ?_ (by simp) (by assumption)))) (fun hb => RdLe.mono (k := (0 + 20 + 2 * 4 + 1) + n) (by have hR := hR0.out hb; repeat (first | assumption | (with_reducible refine RdLe.drew ?_) | (with_reducible refine RdLe.drewN ?_ _) | (with_reducible refine RdLe.alloc ?_ _) | (with_reducible refine RdLe.setC ?_ ?_ _; focus (first | (simp; done) | (simp; omega) | omega)))) (by omega)) (by exact fun hp => ⟨hjx.1.past hp hws2 hgr, hjx.2.past hp hw1s2 hgr1⟩) ?_)
          exact kEq_mk rfl
        · intro b n W hn _ hJ
          have hR0 := Lib.hid hJ.1
          have hn : n < 12 := hn
          have hE := hJ.2.1
          have hjx := hJ.2.2
          have hsz := hE.size
          have hws2 := Nat.lt_of_lt_of_le hws hsz
          have hw1s2 := Nat.lt_of_lt_of_le hw1s hsz
          have hsz : w3.heap.size ≤ W.heap.size := hsz
          intro u31 hu31
          have hu31 : u31 = (.slice (some ⟨g2, 0, none⟩) 4 c2 : Value) := hu31
          subst hu31
          refine fac_op rfl rfl (by show 32 < 40; decide) ?_
          refine fac_putK ?_; intro K hK; go_simp; refine hK _ ?_; clear hK K
          go_wp2_with fail
          refine then_fac rfl (fad_step hJ (by exact Or.inl rfl) (by repeat (first | (with_reducible exact Past.refl _ _ _) | (with_reducible refine Past.alloc ?_ (by simp) _) | (with_reducible refine Past.drew ?_) | (with_reducible refine Past.drewN ?_ _) | (with_reducible refine Past.setC ?_ ?_ _; focus (first | (with_reducible exact Nat.le_refl _) | (simp; done) | (simp; omega) | omega)) | (with_reducible refine Past.step ?_ (by simp) (by assumption)))) (fun hb => (hR0.out hb).mono (by omega)) (fun _ => hjx) ?_)
          exact kEq_mk rfl
        · intro b n W hn _ hJ
          have hR0 := Lib.hid hJ.1
          have hn : n < 12 := hn
          have hE := hJ.2.1
          have hjx := hJ.2.2
          have hsz := hE.size
          have hws2 := Nat.lt_of_lt_of_le hws hsz
          have hw1s2 := Nat.lt_of_lt_of_le hw1s hsz
          have hsz : w3.heap.size ≤ W.heap.size := hsz
          intro u29 hu29
          obtain ⟨b29, rfl, nb29, sb29, cb29⟩ := hu29
          intro u30 hu30
          obtain ⟨b30, rfl, nb30, sb30, cb30⟩ := hu30
          intro u32 hu32
          have hu32 : u32 = (.slice (some ⟨g2, 0, none⟩) 2 c2 : Value) := hu32
          subst hu32
          have hcz := Lib.hid (show ∀ j, j < 4 → ∃ x : Int, W.cell? ⟨g2, j, none⟩ = some (.int .i64 x) from fun j hj => let ⟨x, hx⟩ := hIz.out j hj; ⟨x, (hE.cell hg2s (fun hx => hx.elim hg2n hg2r)).trans hx⟩)
          have c30 := Lib.hid cb30; clear cb30; (try clear cb29)
          refine fac_op rfl rfl (by show 33 < 40; decide) ?_
          refine fac_putK ?_; intro K hK; go_simp; refine hK _ ?_; clear hK K
          go_wp2_with fail
          have hEx : Exc (fun q => q = g ∨ q = w.heap.size) W (W.alloc (.cells #[.slice (some ⟨b29, 0, none⟩) 0 0, .slice (some ⟨b30, 0, none⟩) 1 1, .slice (some ⟨g2, 0, none⟩) 2 c2] 34)) := Exc.of_past (g := g) (Or.inl rfl) (by repeat (first | (with_reducible exact Past.refl _ _ _) | (with_reducible refine Past.alloc ?_ (by simp) _) | (with_reducible refine Past.drew ?_) | (with_reducible refine Past.drewN ?_ _) | (with_reducible refine Past.setC ?_ ?_ _; focus (first | (with_reducible exact Nat.le_refl _) | (simp; done) | (simp; omega) | omega)) | (with_reducible refine Past.step ?_ (by simp) (by assumption))))
          refine then_fac rfl (fad_step hJ (by exact Or.inl rfl) (by repeat (first | (with_reducible exact Past.refl _ _ _) | (with_reducible refine Past.alloc ?_ (by simp) _) | (with_reducible refine Past.drew ?_) | (with_reducible refine Past.drewN ?_ _) | (with_reducible refine Past.setC ?_ ?_ _; focus (first | (with_reducible exact Nat.le_refl _) | (simp; done) | (simp; omega) | omega)) | (with_reducible refine Past.step ?_ (by simp) (by assumption)))) (fun hb => RdLe.mono (k := (0 + 20 + 2 * 4 + 1) + n) (by have hR := hR0.out hb; repeat (first | assumption | (with_reducible refine RdLe.drew ?_) | (with_reducible refine RdLe.drewN ?_ _) | (with_reducible refine RdLe.alloc ?_ _) | (with_reducible refine RdLe.setC ?_ ?_ _; focus (first | (simp; done) | (simp; omega) | omega)))) (by omega)) (fun hp => ⟨hjx.1.past hp hws2 hgr, hjx.2.past hp hw1s2 hgr1⟩) ?_)
          refine kRows_mk (hXn7.out _ hsz) (by simp) (fun j hj => ?_)
          rcases (by omega : j = 0 ∨ j = 1 ∨ j = 2) with rfl | rfl | rfl
          · exact ⟨some ⟨b29, 0, none⟩, 0, 0, by go_simp, by decide, IntsX.nil⟩
          · exact ⟨some ⟨b30, 0, none⟩, 1, 1, by go_simp, by decide, (IntsX.of_cells nb30 sb30 fun j hj => let ⟨x, h1, _⟩ := c30.out j hj; ⟨x, h1⟩).st hEx⟩
          · exact ⟨some ⟨g2, 0, none⟩, 2, c2, by go_simp, by decide, (IntsX.of_cells (fun hx => hx.elim hg2n hg2r) (by omega) fun j hj => hcz.out j (by omega)).st hEx⟩
        · intro b n W hn _ hJ
          have hR0 := Lib.hid hJ.1
          have hn : n < 12 := hn
          have hE := hJ.2.1
          have hjx := hJ.2.2
          have hsz := hE.size
          have hws2 := Nat.lt_of_lt_of_le hws hsz
          have hw1s2 := Nat.lt_of_lt_of_le hw1s hsz
          have hsz : w3.heap.size ≤ W.heap.size := hsz
          refine fac_op rfl rfl (by show 34 < 40; decide) ?_
          refine fac_putK ?_; intro K hK; go_simp; refine hK _ ?_; clear hK K
          go_wp2_with fail
          refine then_fac rfl (fad_step hJ (by exact Or.inl rfl) (by repeat (first | (with_reducible exact Past.refl _ _ _) | (with_reducible refine Past.alloc ?_ (by simp) _) | (with_reducible refine Past.drew ?_) | (with_reducible refine Past.drewN ?_ _) | (with_reducible refine Past.setC ?_ ?_ _; focus (first | (with_reducible exact Nat.le_refl _) | (simp; done) | (simp; omega) | omega)) | (with_reducible refine Past.step ?_ (by simp) (by assumption)))) (fun hb => RdLe.mono (k := (0 + 20 + 2 * 4 + 1) + n) (by have hR := hR0.out hb; repeat (first | assumption | (with_reducible refine RdLe.drew ?_) | (with_reducible refine RdLe.drewN ?_ _) | (with_reducible refine RdLe.alloc ?_ _) | (with_reducible refine RdLe.setC ?_ ?_ _; focus (first | (simp; done) | (simp; omega) | omega)))) (by omega)) (by exact fun hp => ⟨hjx.1.past hp hws2 hgr, hjx.2.past hp hw1s2 hgr1⟩) ?_)
          exact kEq_mk rfl
        · intro b n W hn hb hJ
          obtain rfl := hb rfl
          have hR := hJ.1 rfl
          have hgW := hR.lt
          have hn : n < 12 := hn
          have hE := hJ.2.1
          have hjx := hJ.2.2
          have hsz := hE.size
          have hws2 := Nat.lt_of_lt_of_le hws hsz
          have hw1s2 := Nat.lt_of_lt_of_le hw1s hsz
          have hsz : w3.heap.size ≤ W.heap.size := hsz
          intro u34 hu34
          have hu34 : u34 = (.pointer (some ⟨g, 0, none⟩) : Value) := hu34
          subst hu34
          refine fac_op rfl rfl (by show 35 < 40; decide) ?_
          refine fac_putK ?_; intro K hK; go_simp; refine hK _ ?_; clear hK K
          go_wp2_with (go_at_call 53; refine (pk _ g ((0 + 20 + 2 * 4 + 1) + n) _ (by repeat (first | assumption | (with_reducible refine RdLe.drew ?_) | (with_reducible refine RdLe.drewN ?_ _) | (with_reducible refine RdLe.alloc ?_ _) | (with_reducible refine RdLe.setC ?_ ?_ _; focus (first | (simp; done) | (simp; omega) | omega)))) (by omega) (by omega) (by omega)).mono ?_; rintro e W1 ⟨⟨v1, ⟨vl1, vh1⟩, rfl, hR1, hb1⟩, hs1⟩)
          refine then_fac rfl (fad_step hJ (by exact Or.inl rfl) (by repeat (first | (with_reducible exact Past.refl _ _ _) | (with_reducible refine Past.alloc ?_ (by simp) _) | (with_reducible refine Past.drew ?_) | (with_reducible refine Past.drewN ?_ _) | (with_reducible refine Past.setC ?_ ?_ _; focus (first | (with_reducible exact Nat.le_refl _) | (simp; done) | (simp; omega) | omega)) | (with_reducible refine Past.step ?_ (by simp) (by assumption)))) (fun _ => hR1) (by exact fun hp => ⟨hjx.1.past hp hws2 hgr, hjx.2.past hp hw1s2 hgr1⟩) ?_)
          exact kInt_mk (by omega) (by omega)
        · intro b n W hn _ hJ
          have hR0 := Lib.hid hJ.1
          have hn : n < 12 := hn
          have hE := hJ.2.1
          have hjx := hJ.2.2
          have hsz := hE.size
          have hws2 := Nat.lt_of_lt_of_le hws hsz
          have hw1s2 := Nat.lt_of_lt_of_le hw1s hsz
          have hsz : w3.heap.size ≤ W.heap.size := hsz
          intro u33 hu33
          obtain ⟨b33, rfl, nb33, sb33, cb33⟩ := hu33
          intro u35 hu35
          obtain ⟨x35, rfl, xl35, xh35⟩ := hu35
          obtain ⟨N35, rfl⟩ : ∃ N : Nat, x35 = N := ⟨x35.toNat, by omega⟩
          obtain ⟨A36, n36, c36, hy36, m36, i36⟩ := cb33 N35 (by omega)
          clear cb33
          refine fac_op rfl rfl (by show 36 < 40; decide) ?_
          refine fac_putK ?_; intro K hK; go_simp; refine hK _ ?_; clear hK K
          go_wp2_with fail
          refine then_fac rfl (fad_step hJ (by exact Or.inl rfl) (by repeat (first | (with_reducible exact Past.refl _ _ _) | (with_reducible refine Past.alloc ?_ (by simp) _) | (with_reducible refine Past.drew ?_) | (with_reducible refine Past.drewN ?_ _) | (with_reducible refine Past.setC ?_ ?_ _; focus (first | (with_reducible exact Nat.le_refl _) | (simp; done) | (simp; omega) | omega)) | (with_reducible refine Past.step ?_ (by simp) (by assumption)))) (fun hb => (hR0.out hb).mono (by omega)) (fun _ => hjx) ?_)
          exact kAdS_mk nb33 sb33 (by first | exact hy36 | simpa using hy36) m36 i36
        · intro b n W hn _ hJ
          have hR0 := Lib.hid hJ.1
          have hn : n < 12 := hn
          have hE := hJ.2.1
          have hjx := hJ.2.2
          have hsz := hE.size
          have hws2 := Nat.lt_of_lt_of_le hws hsz
          have hw1s2 := Nat.lt_of_lt_of_le hw1s hsz
          have hsz : w3.heap.size ≤ W.heap.size := hsz
          intro u36 hu36
          obtain ⟨b36, j36, A36, n36, c36, rfl, nb36, sb36, cb36, mb36, ib36⟩ := hu36
          refine fac_op rfl rfl (by show 37 < 40; decide) ?_
          refine fac_putK ?_; intro K hK; go_simp; refine hK _ ?_; clear hK K
          go_wp2_with fail
          refine then_fac rfl (fad_step hJ (by exact Or.inl rfl) (by repeat (first | (with_reducible exact Past.refl _ _ _) | (with_reducible refine Past.alloc ?_ (by simp) _) | (with_reducible refine Past.drew ?_) | (with_reducible refine Past.drewN ?_ _) | (with_reducible refine Past.setC ?_ ?_ _; focus (first | (with_reducible exact Nat.le_refl _) | (simp; done) | (simp; omega) | omega)) | (with_reducible refine Past.step ?_ (by simp) (by assumption)))) (fun hb => (hR0.out hb).mono (by omega)) (fun _ => hjx) ?_)
          exact kSl_mk mb36 ib36
        · intro b n W hn _ hJ
          have hR0 := Lib.hid hJ.1
          have hn : n < 12 := hn
          have hE := hJ.2.1
          have hjx := hJ.2.2
          have hsz := hE.size
          have hws2 := Nat.lt_of_lt_of_le hws hsz
          have hw1s2 := Nat.lt_of_lt_of_le hw1s hsz
          have hsz : w3.heap.size ≤ W.heap.size := hsz
          intro u28 hu28
          obtain ⟨x28, y28, q28, rfl⟩ := hu28
          obtain ⟨ja, jb, jd, k0, k1, k2, f0, f1, f2⟩ := hjx.1
          have hjx2 := Lib.hid hjx.2
          refine fac_nop rfl rfl (fun _ _ => trivial) ?_
          refine fac_putK ?_; intro K hK; go_simp; refine hK _ ?_; clear hK K
          go_wp2_with fail
          have hEx : Exc (fun q => q = g ∨ q = w.heap.size) W (((W.setCell ⟨w.heap.size, 0, none⟩ (.int .i64 x28)).setCell ⟨w.heap.size, 1, none⟩ (.int .i64 y28)).setCell ⟨w.heap.size, 2, none⟩ (.int .i64 q28)) := ((Exc.refl _ _).setC (Or.inr rfl) _ |>.setC (Or.inr rfl) _).setC (Or.inr rfl) _
          refine then_fac rfl (fad_late hJ hEx ⟨cell3_put hjx.1, cell3_off hjx2.out hw1n⟩)
        · intro b n W hn _ hJ
          have hR0 := Lib.hid hJ.1
          have hn : n < 12 := hn
          have hE := hJ.2.1
          have hjx := hJ.2.2
          have hsz := hE.size
          have hws2 := Nat.lt_of_lt_of_le hws hsz
          have hw1s2 := Nat.lt_of_lt_of_le hw1s hsz
          have hsz : w3.heap.size ≤ W.heap.size := hsz
          intro u37 hu37
          obtain ⟨A37, n37, c37, rfl, mb37, ib37⟩ := hu37
          refine fac_op rfl rfl (by show 3 < 40; decide) ?_
          refine fac_putK ?_; intro K hK; go_simp; refine hK _ ?_; clear hK K
          go_wp2_with fail
          refine then_fac rfl (fad_step hJ (by exact Or.inl rfl) (by repeat (first | (with_reducible exact Past.refl _ _ _) | (with_reducible refine Past.alloc ?_ (by simp) _) | (with_reducible refine Past.drew ?_) | (with_reducible refine Past.drewN ?_ _) | (with_reducible refine Past.setC ?_ ?_ _; focus (first | (with_reducible exact Nat.le_refl _) | (simp; done) | (simp; omega) | omega)) | (with_reducible refine Past.step ?_ (by simp) (by assumption)))) (fun hb => (hR0.out hb).mono (by omega)) (fun _ => hjx) ?_)
          exact kSl_mk mb37 ib37
        intro w7 hR7 hE7 hjx7
        clear hR7
        have hjx7 : (fun W => Cell3 w.heap.size W ∧ Cell3 w1.heap.size W) w7 := hjx7
        intro u28 hu28
        obtain ⟨x28, y28, q28, rfl⟩ := hu28
        intro u29 hu29
        obtain ⟨b29, rfl, _⟩ := hu29
        intro u30 hu30
        obtain ⟨b30, rfl, _⟩ := hu30
        intro u31 hu31
        have hu31 : u31 = (.slice (some ⟨g2, 0, none⟩) 4 c2 : Value) := hu31
        subst hu31
        intro u32 hu32
        have hu32 : u32 = (.slice (some ⟨g2, 0, none⟩) 2 c2 : Value) := hu32
        subst hu32
        intro u33 hu33
        obtain ⟨b33, rfl, nb33, sb33, cb33⟩ := hu33
        intro u34 hu34
        have hu34 : u34 = (.pointer (some ⟨g, 0, none⟩) : Value) := hu34
        subst hu34
        intro u35 hu35
        obtain ⟨x35, rfl, xl35, xh35⟩ := hu35
        intro u36 hu36
        obtain ⟨b36, j36, A36, n36, c36, rfl, nb36, sb36, cb36, mb36, ib36⟩ := hu36
        intro u37 hu37
        obtain ⟨A37, n37, c37, rfl, mb37, ib37⟩ := hu37
        intro u3 hu3
        obtain ⟨A3, n3, c3, rfl, mb3, ib3⟩ := hu3
        refine fac_end ?_; intro K hK; go_simp; refine hK _ ?_; clear hK K
        obtain ⟨⟨ja, jb, jd, k0, k1, k2, _, _, _⟩, _⟩ := hjx7
        go_wp2_with fail
        refine bodyPost_retE rfl ?_
        apply Exists.intro
        refine ⟨?_, ?_⟩
        · simp only [results, Try.results19]
          go_simp
          first | done | rfl
        go_light
        exact made_sl2 ib3 mb3 (hBw.out.trans (hE7.below (fun q hq => by rcases hq with hq | hq <;> omega) (by omega)))
      · go_wp2_with fail
        refine bodyPost_retE rfl ?_
        apply Exists.intro
        refine ⟨?_, ?_⟩
        · simp only [results, Try.results19]
          go_simp
          first | done | rfl
        go_light
        refine made_sl hO3.ints (by decide) ?_ (by first | exact Nat.le_refl _ | (simp; done) | (simp; omega) | omega) ?_
        · intro b o h1 h2
          go_simp
        repeat (first | (with_reducible exact Below.refl _ _) | (with_reducible refine Bal ?_ _) | (with_reducible refine Below.drew ?_) | (with_reducible refine below_drewN ?_ _) | (with_reducible refine Bset ?_ ?_ _; focus (first | (with_reducible exact Nat.le_refl _) | (simp; done) | (simp; omega) | omega)) | (with_reducible refine Bt ?_ (by assumption)) | (with_reducible refine Bp (g := g) ?_ (by assumption) (by assumption)))
end Go.Proofs.Ytmidpodoapggnaa
