/- The law FnHoldPutFull of the program is true at every input: the call returns true, and each argument reads behind the call as before. Conditions: none. -/
import Derived.Test.YtegdogamenoaiaaBsl
import Derived.WalkKit
import Derived.ProofKit
import Derived.OpenShut
import Derived.ShutString
import Derived.ChangeOld
import Derived.Below
import Derived.Test.YtegdogamenoaiaaBsl
namespace Go.Proofs.Ytegdogamenoaiaa
open Go.RowKit
set_option linter.unusedVariables false
set_option linter.unusedSimpArgs false

set_option maxRecDepth 100000 in
set_option maxHeartbeats 8000000 in
theorem walk_FnHoldPutFull (A : Option Addr) (n c : Nat) (w : World) (h : IsInts .u8 w A n c) :
    Calls Try.prog 10 #[.slice A n c] w fun e w' => e = .returned (.bool true) ∧ Below w.heap.size w w' := by
  have H := Lib.hid h
  clear h
  by_cases hn0 : 1048576 < n
  · go_enter Try.func10, Try.ntmps10
    go_wp2_with fail
    go_ret
    exact ⟨rfl, Below.refl _ _⟩
  · have hn : n ≤ 1048576 := by omega
    clear hn0
    go_enter Try.func10, Try.ntmps10
    go_wp2_with fail
    refine (draw_bputQ _ A n c (H.out.below (by repeat (first | (with_reducible exact Below.refl _ _) | (with_reducible refine Bal ?_ _) | (with_reducible refine Below.drew ?_) | (with_reducible refine below_drewN ?_ _) | (with_reducible refine Bset ?_ ?_ _; focus (first | (with_reducible exact Nat.le_refl _) | (simp; done) | (simp; omega) | omega)) | (with_reducible refine Bt ?_ (by assumption)) | (with_reducible refine Bp (g := g) ?_ (by assumption) (by assumption))))) hn).mono ?_
    rintro e w1 ⟨y, d, A1, m, c1, q, a1, a2, a3, a4, a5, a6, now, hr1, hmc, hm, rfl, hb1⟩
    obtain ⟨hc1, hf1⟩ := bcell hb1
    have hy1 := hb1.size
    try simp at hy1
    have HR := Lib.hid hr1
    have hmn : m ≤ 1048576 := by omega
    clear hr1
    obtain ⟨k, hk, hP⟩ : ∃ k, ptCode y d m q ⟨a1, a2, a3, a4, a5, a6⟩ now = k ∧ PtIs y d m q ⟨a1, a2, a3, a4, a5, a6⟩ now k := ⟨_, rfl, pt_is _ _ _ _ _ _⟩
    have hi := fun W h1 h2 => iput_w W 0 w1.heap.size A1 m c1 y d now k q a1 a2 a3 a4 a5 a6 hk h1 h2 hmn
    have hs := fun W h1 h2 => sput_w W 0 w1.heap.size A1 m c1 y d now k q a1 a2 a3 a4 a5 a6 hk h1 h2 hmn hmc
    have hnn : ptN k m ≤ 1048576 := by have := ptN_le k m; omega
    clear hk
    by_cases hk0 : k = 3
    · subst hk0
      obtain ⟨f1, f2⟩ : (∀ i, i < m → (q i).p.w ≠ a1) ∧ m = 10 := by cases hP; exact ⟨by assumption, by assumption⟩
      have F1 := Lib.hid f1
      have F2 := Lib.hid f2
      clear f1 f2
      generalize ptY 3 y = yy at hi hs
      generalize ptY 3 d = dd at hi hs
      generalize ptQ 3 m q ⟨a1, a2, a3, a4, a5, a6⟩ now = qq at hi hs
      generalize ptN 3 m = nn at hi hs hnn
      clear hP
      have HI := Lib.hid hi
      have HS := Lib.hid hs
      clear hi hs
      go_wp2_with fail
      refine (HI.out _ (HR.out.below (Nat.le_refl _) (by repeat (first | (with_reducible exact Below.refl _ _) | (with_reducible refine Bal ?_ _) | (with_reducible refine Below.drew ?_) | (with_reducible refine below_drewN ?_ _) | (with_reducible refine Bset ?_ ?_ _; focus (first | (with_reducible exact Nat.le_refl _) | (simp; done) | (simp; omega) | omega)) | (with_reducible refine Bt ?_ (by assumption)) | (with_reducible refine Bp (g := g) ?_ (by assumption) (by assumption))))) (by first | exact Nat.le_refl _ | (simp; done) | (simp; omega) | omega)).mono ?_
      rintro e w2 ⟨A2, c2, hr2, rfl, hb2⟩
      obtain ⟨hc2, hf2⟩ := bcell hb2
      have hy2 := hb2.size
      try simp at hy2
      have ho2_0 : w1.heap.size < w2.heap.size := by (have := hb2.size; (try simp at this); omega)
      have hg2_0 := fun o => hc2 (w1.heap.size) o (by first | (simp; done) | (simp; omega) | omega)
      have hk2_0 := fun o => hf2 (w1.heap.size) o (by first | (simp; done) | (simp; omega) | omega)
      try simp [go_sem] at hg2_0
      try simp [go_sem] at hk2_0
      have ho2_1 : w1.heap.size + 1 < w2.heap.size := by (have := hb2.size; (try simp at this); omega)
      have hg2_1 := fun o => hc2 (w1.heap.size + 1) o (by first | (simp; done) | (simp; omega) | omega)
      have hk2_1 := fun o => hf2 (w1.heap.size + 1) o (by first | (simp; done) | (simp; omega) | omega)
      try simp [go_sem] at hg2_1
      try simp [go_sem] at hk2_1
      have HR2 := Lib.hid hr2
      clear hr2
      go_wp2_with fail
      refine (HS.out _ (HR.out.below (Nat.le_refl _) (by repeat (first | (with_reducible exact Below.refl _ _) | (with_reducible refine Bal ?_ _) | (with_reducible refine Below.drew ?_) | (with_reducible refine below_drewN ?_ _) | (with_reducible refine Bset ?_ ?_ _; focus (first | (with_reducible exact Nat.le_refl _) | (simp; done) | (simp; omega) | omega)) | (with_reducible refine Bt ?_ (by assumption)) | (with_reducible refine Bp (g := g) ?_ (by assumption) (by assumption))))) (by first | exact Nat.le_refl _ | (simp; done) | (simp; omega) | omega)).mono ?_
      rintro e w3 ⟨A3, c3, hr3, rfl, hb3⟩
      obtain ⟨hc3, hf3⟩ := bcell hb3
      have hy3 := hb3.size
      try simp at hy3
      have ho3_0 : w1.heap.size < w3.heap.size := by (have := hb3.size; (try simp at this); omega)
      have hg3_0 := fun o => hc3 (w1.heap.size) o (by first | (simp; done) | (simp; omega) | omega)
      have hk3_0 := fun o => hf3 (w1.heap.size) o (by first | (simp; done) | (simp; omega) | omega)
      try simp [go_sem] at hg3_0
      try simp [go_sem] at hk3_0
      have ho3_1 : w1.heap.size + 1 < w3.heap.size := by (have := hb3.size; (try simp at this); omega)
      have hg3_1 := fun o => hc3 (w1.heap.size + 1) o (by first | (simp; done) | (simp; omega) | omega)
      have hk3_1 := fun o => hf3 (w1.heap.size + 1) o (by first | (simp; done) | (simp; omega) | omega)
      try simp [go_sem] at hg3_1
      try simp [go_sem] at hk3_1
      have ho3_2 : w2.heap.size < w3.heap.size := by (have := hb3.size; (try simp at this); omega)
      have hg3_2 := fun o => hc3 (w2.heap.size) o (by first | (simp; done) | (simp; omega) | omega)
      have hk3_2 := fun o => hf3 (w2.heap.size) o (by first | (simp; done) | (simp; omega) | omega)
      try simp [go_sem] at hg3_2
      try simp [go_sem] at hk3_2
      have HR3 := Lib.hid hr3
      clear hr3
      have hb23 : Below w2.heap.size w2 w3 := by repeat (first | (with_reducible exact Below.refl _ _) | (with_reducible refine Bal ?_ _) | (with_reducible refine Below.drew ?_) | (with_reducible refine below_drewN ?_ _) | (with_reducible refine Bset ?_ ?_ _; focus (first | (with_reducible exact Nat.le_refl _) | (simp; done) | (simp; omega) | omega)) | (with_reducible refine Bt ?_ (by assumption)) | (with_reducible refine Bp (g := g) ?_ (by assumption) (by assumption)))
      have HB := Lib.hid (fun W (h : Below w3.heap.size w3 W) => sameBuffer_same W (c1 := c2) (c2 := c3) (y := yy) (d := dd) (q := qq) (HR2.out.below (Nat.le_refl _) (hb23.trans (h.mono (by have := hb23.size; omega)))) (HR3.out.below (Nat.le_refl _) h) (Nat.le_trans hb23.size h.size) h.size hnn)
      clear hb23
      go_wp2_with fail
      refine (HB.out _ (by repeat (first | (with_reducible exact Below.refl _ _) | (with_reducible refine Bal ?_ _) | (with_reducible refine Below.drew ?_) | (with_reducible refine below_drewN ?_ _) | (with_reducible refine Bset ?_ ?_ _; focus (first | (with_reducible exact Nat.le_refl _) | (simp; done) | (simp; omega) | omega)) | (with_reducible refine Bt ?_ (by assumption)) | (with_reducible refine Bp (g := g) ?_ (by assumption) (by assumption))))).mono ?_
      rintro e w4 ⟨rfl, hb4⟩
      obtain ⟨hc4, hf4⟩ := bcell hb4
      have hy4 := hb4.size
      try simp at hy4
      first | (have hz4 : w.heap.size < w4.heap.size := by (have := hb4.size; (try simp at this); omega)) | skip
      have ho4_0 : w1.heap.size < w4.heap.size := by (have := hb4.size; (try simp at this); omega)
      have hg4_0 := fun o => hc4 (w1.heap.size) o (by first | (simp; done) | (simp; omega) | omega)
      have hk4_0 := fun o => hf4 (w1.heap.size) o (by first | (simp; done) | (simp; omega) | omega)
      try simp [go_sem] at hg4_0
      try simp [go_sem] at hk4_0
      have ho4_1 : w1.heap.size + 1 < w4.heap.size := by (have := hb4.size; (try simp at this); omega)
      have hg4_1 := fun o => hc4 (w1.heap.size + 1) o (by first | (simp; done) | (simp; omega) | omega)
      have hk4_1 := fun o => hf4 (w1.heap.size + 1) o (by first | (simp; done) | (simp; omega) | omega)
      try simp [go_sem] at hg4_1
      try simp [go_sem] at hk4_1
      have ho4_2 : w2.heap.size < w4.heap.size := by (have := hb4.size; (try simp at this); omega)
      have hg4_2 := fun o => hc4 (w2.heap.size) o (by first | (simp; done) | (simp; omega) | omega)
      have hk4_2 := fun o => hf4 (w2.heap.size) o (by first | (simp; done) | (simp; omega) | omega)
      try simp [go_sem] at hg4_2
      try simp [go_sem] at hk4_2
      have ho4_3 : w3.heap.size < w4.heap.size := by (have := hb4.size; (try simp at this); omega)
      have hg4_3 := fun o => hc4 (w3.heap.size) o (by first | (simp; done) | (simp; omega) | omega)
      have hk4_3 := fun o => hf4 (w3.heap.size) o (by first | (simp; done) | (simp; omega) | omega)
      try simp [go_sem] at hg4_3
      try simp [go_sem] at hk4_3
      have hb1x : Below w1.heap.size w1 w4 := by repeat (first | (with_reducible exact Below.refl _ _) | (with_reducible refine Bal ?_ _) | (with_reducible refine Below.drew ?_) | (with_reducible refine below_drewN ?_ _) | (with_reducible refine Bset ?_ ?_ _; focus (first | (with_reducible exact Nat.le_refl _) | (simp; done) | (simp; omega) | omega)) | (with_reducible refine Bt ?_ (by assumption)) | (with_reducible refine Bp (g := g) ?_ (by assumption) (by assumption)))
      have HB4 := Lib.hid (show Below w.heap.size w w4 by repeat (first | (with_reducible exact Below.refl _ _) | (with_reducible refine Bal ?_ _) | (with_reducible refine Below.drew ?_) | (with_reducible refine below_drewN ?_ _) | (with_reducible refine Bset ?_ ?_ _; focus (first | (with_reducible exact Nat.le_refl _) | (simp; done) | (simp; omega) | omega)) | (with_reducible refine Bt ?_ (by assumption)) | (with_reducible refine Bp (g := g) ?_ (by assumption) (by assumption))))
      have HR4 := Lib.hid (HR.out.below (Nat.le_refl _) hb1x)
      have hg4 : ∀ o : Nat, w4.cell? ⟨w1.heap.size, o, none⟩ = ([.int .i64 y, .int .i64 d, .slice A1 m c1] : List Value)[o]? := fun o => (hg4_0 o).trans (by go_simp; try rfl)
      have hG4 : ∀ o : Nat, w4.cell? ⟨w1.heap.size + 1, o, none⟩ = ([.int .i64 a1, .int .i64 a2, .int .i64 a3, .int .i64 a4, .bool a5, .bool a6] : List Value)[o]? := fun o => (hg4_1 o).trans (by go_simp; try rfl)
      have hw1 : w1.heap.size < w4.heap.size := ho4_0
      have hw1a : w1.heap.size + 1 < w4.heap.size := ho4_1
      have hw1b : w1.heap.size ≤ w4.heap.size := by omega
      clear hb1x hb2 hb3 hb4 hc2 hc3 hc4 hf2 hf3 hf4
      go_wp2_with fail
      go_loopw [10] (fun i wr => ∃ k, k ≤ m ∧ i = .int .i64 (k : Nat) ∧ Hid (Below w4.heap.size w4 wr)) (fun i _ => m - (intOf i).toNat)
      case atStart => exact ⟨0, Nat.zero_le _, rfl, Lib.hid (Below.refl _ _)⟩
      case round =>
        obtain ⟨k, hk, rfl, hB⟩ := hrel
        have hsz := hB.out.size
        have hw1r : w1.heap.size < wr.heap.size := by omega
        have hw1ar : w1.heap.size + 1 < wr.heap.size := by omega
        have hgr : ∀ o : Nat, wr.cell? ⟨w1.heap.size, o, none⟩ = ([.int .i64 y, .int .i64 d, .slice A1 m c1] : List Value)[o]? := fun o => (hB.out.cell (p := ⟨w1.heap.size, o, none⟩) hw1).trans (hg4 o)
        have hGr : ∀ o : Nat, wr.cell? ⟨w1.heap.size + 1, o, none⟩ = ([.int .i64 a1, .int .i64 a2, .int .i64 a3, .int .i64 a4, .bool a5, .bool a6] : List Value)[o]? := fun o => (hB.out.cell (p := ⟨w1.heap.size + 1, o, none⟩) hw1a).trans (hG4 o)
        by_cases hkn : k < m
        · obtain ⟨b, off, rfl, _, hb1, z0, z1, z2, z3, z4, z5, z6⟩ := Hd_at (HR4.out.below hw1b hB.out) hkn
          have hne : ¬ (q k).p.w = a1 := F1.out k hkn
          have hneb : ((q k).p.w == a1) = false := by simpa using hne
          have hb1' : b < wr.heap.size := by omega
          clear hne
          go_wp2_with fail
          refine wp_region_mixB (by kernel_rfl) (by kernel_rfl) ?_
          repeat (first
            | (refine mix_skip rfl ?_; have e0 : True := trivial; clear e0; refine mix_putK ?_; intro K hK; go_simp; refine hK _ ?_; clear hK K)
            | (refine mix_readE rfl rfl rfl ?_; apply Exists.intro; refine ⟨fun w' hb' => ?_, ?_⟩; (focus (obtain ⟨hc', hf'⟩ := Old.cells hb'; clear hb'; go_simp; try exact rfl)); have e0 : True := trivial; clear e0; refine mix_putK ?_; intro K hK; go_simp; refine hK _ ?_; clear hK K)
            | (refine mix_pureE rfl rfl ?_; apply Exists.intro; refine ⟨fun w' => ?_, ?_⟩; (focus (go_simp; try exact rfl)); have e0 : True := trivial; clear e0; refine mix_putK ?_; intro K hK; go_simp; refine hK _ ?_; clear hK K)
            | (refine mix_eff rfl rfl ?_; go_wp2_with (fail); refine then_mix rfl ?_ ?_; (first | (intro h; have h2 : false = true := h; cases h2) | (intro _; assumption) | (intro _; refine Old.mk ?_; repeat (first | (with_reducible exact Below.refl _ _) | (with_reducible refine Bal ?_ _) | (with_reducible refine Below.drew ?_) | (with_reducible refine below_drewN ?_ _) | (with_reducible refine Bset ?_ ?_ _; focus (first | (with_reducible exact Nat.le_refl _) | (simp; done) | (simp; omega) | omega)) | (with_reducible refine Bt ?_ (by assumption)) | (with_reducible refine Bp (g := g) ?_ (by assumption) (by assumption)))))))
          refine mix_nil ?_
          go_wp2_with fail
          go_roundw
          case rel => exact ⟨k + 1, by omega, by go_num, Lib.hid hB.out.drew⟩
          case measure => simp [intOf]; omega
        · go_wp2_with fail
          go_ret
          exact ⟨by have f2 := F2.out; simp [f2], HB4.out.trans (hB.out.mono (by have := HB4.out.size; omega))⟩
    · have hk0b : (k == 3) = false := by simpa using hk0
      generalize ptY k y = yy at hi hs
      generalize ptY k d = dd at hi hs
      generalize ptQ k m q ⟨a1, a2, a3, a4, a5, a6⟩ now = qq at hi hs
      generalize ptN k m = nn at hi hs hnn
      clear hP
      have HI := Lib.hid hi
      have HS := Lib.hid hs
      clear hi hs
      go_wp2_with fail
      refine (HI.out _ (HR.out.below (Nat.le_refl _) (by repeat (first | (with_reducible exact Below.refl _ _) | (with_reducible refine Bal ?_ _) | (with_reducible refine Below.drew ?_) | (with_reducible refine below_drewN ?_ _) | (with_reducible refine Bset ?_ ?_ _; focus (first | (with_reducible exact Nat.le_refl _) | (simp; done) | (simp; omega) | omega)) | (with_reducible refine Bt ?_ (by assumption)) | (with_reducible refine Bp (g := g) ?_ (by assumption) (by assumption))))) (by first | exact Nat.le_refl _ | (simp; done) | (simp; omega) | omega)).mono ?_
      rintro e w2 ⟨A2, c2, hr2, rfl, hb2⟩
      obtain ⟨hc2, hf2⟩ := bcell hb2
      have hy2 := hb2.size
      try simp at hy2
      have ho2_0 : w1.heap.size < w2.heap.size := by (have := hb2.size; (try simp at this); omega)
      have hg2_0 := fun o => hc2 (w1.heap.size) o (by first | (simp; done) | (simp; omega) | omega)
      have hk2_0 := fun o => hf2 (w1.heap.size) o (by first | (simp; done) | (simp; omega) | omega)
      try simp [go_sem] at hg2_0
      try simp [go_sem] at hk2_0
      have ho2_1 : w1.heap.size + 1 < w2.heap.size := by (have := hb2.size; (try simp at this); omega)
      have hg2_1 := fun o => hc2 (w1.heap.size + 1) o (by first | (simp; done) | (simp; omega) | omega)
      have hk2_1 := fun o => hf2 (w1.heap.size + 1) o (by first | (simp; done) | (simp; omega) | omega)
      try simp [go_sem] at hg2_1
      try simp [go_sem] at hk2_1
      have HR2 := Lib.hid hr2
      clear hr2
      go_wp2_with fail
      refine (HS.out _ (HR.out.below (Nat.le_refl _) (by repeat (first | (with_reducible exact Below.refl _ _) | (with_reducible refine Bal ?_ _) | (with_reducible refine Below.drew ?_) | (with_reducible refine below_drewN ?_ _) | (with_reducible refine Bset ?_ ?_ _; focus (first | (with_reducible exact Nat.le_refl _) | (simp; done) | (simp; omega) | omega)) | (with_reducible refine Bt ?_ (by assumption)) | (with_reducible refine Bp (g := g) ?_ (by assumption) (by assumption))))) (by first | exact Nat.le_refl _ | (simp; done) | (simp; omega) | omega)).mono ?_
      rintro e w3 ⟨A3, c3, hr3, rfl, hb3⟩
      obtain ⟨hc3, hf3⟩ := bcell hb3
      have hy3 := hb3.size
      try simp at hy3
      have ho3_0 : w1.heap.size < w3.heap.size := by (have := hb3.size; (try simp at this); omega)
      have hg3_0 := fun o => hc3 (w1.heap.size) o (by first | (simp; done) | (simp; omega) | omega)
      have hk3_0 := fun o => hf3 (w1.heap.size) o (by first | (simp; done) | (simp; omega) | omega)
      try simp [go_sem] at hg3_0
      try simp [go_sem] at hk3_0
      have ho3_1 : w1.heap.size + 1 < w3.heap.size := by (have := hb3.size; (try simp at this); omega)
      have hg3_1 := fun o => hc3 (w1.heap.size + 1) o (by first | (simp; done) | (simp; omega) | omega)
      have hk3_1 := fun o => hf3 (w1.heap.size + 1) o (by first | (simp; done) | (simp; omega) | omega)
      try simp [go_sem] at hg3_1
      try simp [go_sem] at hk3_1
      have ho3_2 : w2.heap.size < w3.heap.size := by (have := hb3.size; (try simp at this); omega)
      have hg3_2 := fun o => hc3 (w2.heap.size) o (by first | (simp; done) | (simp; omega) | omega)
      have hk3_2 := fun o => hf3 (w2.heap.size) o (by first | (simp; done) | (simp; omega) | omega)
      try simp [go_sem] at hg3_2
      try simp [go_sem] at hk3_2
      have HR3 := Lib.hid hr3
      clear hr3
      have hb23 : Below w2.heap.size w2 w3 := by repeat (first | (with_reducible exact Below.refl _ _) | (with_reducible refine Bal ?_ _) | (with_reducible refine Below.drew ?_) | (with_reducible refine below_drewN ?_ _) | (with_reducible refine Bset ?_ ?_ _; focus (first | (with_reducible exact Nat.le_refl _) | (simp; done) | (simp; omega) | omega)) | (with_reducible refine Bt ?_ (by assumption)) | (with_reducible refine Bp (g := g) ?_ (by assumption) (by assumption)))
      have HB := Lib.hid (fun W (h : Below w3.heap.size w3 W) => sameBuffer_same W (c1 := c2) (c2 := c3) (y := yy) (d := dd) (q := qq) (HR2.out.below (Nat.le_refl _) (hb23.trans (h.mono (by have := hb23.size; omega)))) (HR3.out.below (Nat.le_refl _) h) (Nat.le_trans hb23.size h.size) h.size hnn)
      clear hb23
      go_wp2_with fail
      refine (HB.out _ (by repeat (first | (with_reducible exact Below.refl _ _) | (with_reducible refine Bal ?_ _) | (with_reducible refine Below.drew ?_) | (with_reducible refine below_drewN ?_ _) | (with_reducible refine Bset ?_ ?_ _; focus (first | (with_reducible exact Nat.le_refl _) | (simp; done) | (simp; omega) | omega)) | (with_reducible refine Bt ?_ (by assumption)) | (with_reducible refine Bp (g := g) ?_ (by assumption) (by assumption))))).mono ?_
      rintro e w4 ⟨rfl, hb4⟩
      obtain ⟨hc4, hf4⟩ := bcell hb4
      have hy4 := hb4.size
      try simp at hy4
      first | (have hz4 : w.heap.size < w4.heap.size := by (have := hb4.size; (try simp at this); omega)) | skip
      have ho4_0 : w2.heap.size < w4.heap.size := by (have := hb4.size; (try simp at this); omega)
      have hg4_0 := fun o => hc4 (w2.heap.size) o (by first | (simp; done) | (simp; omega) | omega)
      have hk4_0 := fun o => hf4 (w2.heap.size) o (by first | (simp; done) | (simp; omega) | omega)
      try simp [go_sem] at hg4_0
      try simp [go_sem] at hk4_0
      have ho4_1 : w3.heap.size < w4.heap.size := by (have := hb4.size; (try simp at this); omega)
      have hg4_1 := fun o => hc4 (w3.heap.size) o (by first | (simp; done) | (simp; omega) | omega)
      have hk4_1 := fun o => hf4 (w3.heap.size) o (by first | (simp; done) | (simp; omega) | omega)
      try simp [go_sem] at hg4_1
      try simp [go_sem] at hk4_1
      go_wp2_with fail
      refine (HB.out _ (by repeat (first | (with_reducible exact Below.refl _ _) | (with_reducible refine Bal ?_ _) | (with_reducible refine Below.drew ?_) | (with_reducible refine below_drewN ?_ _) | (with_reducible refine Bset ?_ ?_ _; focus (first | (with_reducible exact Nat.le_refl _) | (simp; done) | (simp; omega) | omega)) | (with_reducible refine Bt ?_ (by assumption)) | (with_reducible refine Bp (g := g) ?_ (by assumption) (by assumption))))).mono ?_
      rintro e w5 ⟨rfl, hb5⟩
      go_wp2_with fail
      go_ret
      go_light
      refine ⟨rfl, ?_⟩
      repeat (first | (with_reducible exact Below.refl _ _) | (with_reducible refine Bal ?_ _) | (with_reducible refine Below.drew ?_) | (with_reducible refine below_drewN ?_ _) | (with_reducible refine Bset ?_ ?_ _; focus (first | (with_reducible exact Nat.le_refl _) | (simp; done) | (simp; omega) | omega)) | (with_reducible refine Bt ?_ (by assumption)) | (with_reducible refine Bp (g := g) ?_ (by assumption) (by assumption)))

end Go.Proofs.Ytegdogamenoaiaa
namespace Go.Proofs.Ytegdogamenoaiaa.fnHoldPutFull
open Go.ChangeShapes Go.WideShapes Go.ChangeAt Go.RowKit
set_option linter.unusedVariables false

theorem own : ownKnob Try.prog.godebug = none := by kernel_rfl
theorem laidOut : laidOutB Try.prog = true := by kernel_rfl

set_option maxRecDepth 100000 in
theorem lifted (os : Os) (started : os.Started) (H : Type) (enc : TypeId × Value → H) :
    ReturnsInHanded {} Try.checked os 10 .any (Rows.fnHoldPutFullSpec.pre6 enc Try.prog Try.f10 Rows.fnHoldPutFullRow.domain false) (Rows.fnHoldPutFullSpec.post enc Try.prog Try.f10 false true false false) := by
  refine returnsInHanded_of_change (C := Try.checked) own started (by kernel_rfl) Try.func10
    (ChangeSpec.witness6 (enc := enc) (C := Try.checked) false ⟨#[], #[.slice none 0 0], []⟩ 8 (by kernel_rfl) (by kernel_rfl) (by kernel_rfl) (by kernel_rfl)) ?_
  intro W base args ds gs before hval0 hW hcnd _
  have hval : ∀ (j : Nat) t v, Try.f10.params[j]? = some t → args[j]? = some v → Value.okWide Try.prog W .any base t v := hval0
  have hW' := hW
  obtain ⟨p, q, hA0, hV, rfl, hfz, hnd⟩ := hW
  have hA : DataW.TrodAll enc Try.prog W 0 (fun _ => true) true Try.f10.params.toList args.toList ds p := hA0
  rw [Try.params10] at hA hval
  obtain ⟨v0, vs0, d0, ds0, p0, q0, hargs, rfl, rfl, h0, r0⟩ := trodAll_cons hA
  obtain ⟨rfl, rfl, rfl⟩ := trodAll_nil r0
  obtain rfl : args = #[v0] := by cases args; simp_all
  obtain ⟨rfl, rfl⟩ := trodVars_none hV
  have k0 := h0
  have lt0 : ∀ x ∈ p0, x.block < W.heap.size := by obtain ⟨m, hm⟩ := k0; exact DataW.trod_lt m _ _ _ hm
  obtain ⟨a0, n0, c0, rfl, w0⟩ := open_code (hval 0 48 v0 rfl rfl) h0
  clear hA0 hval0
  refine (walk_FnHoldPutFull a0 n0 c0 W w0).mono fun e W' ⟨he, bel⟩ => ?_
  subst he
  exact ⟨_, rfl, _, _, _, [], _, [], hW', trodAll_mk1 (shut_bool Try.underlying4 _), (trodAll_cons_mk (Below.trod laidOut (by kernel_rfl) (of_decide_eq_true (by kernel_rfl)) k0 bel lt0) trodAll_mk0), rfl, bel.frame _, fun h => by cases h⟩

theorem over : Rows.fnHoldPutFullRow.holds Try.pinned (OpenSpec.ofChange Rows.fnHoldPutFullSpec) :=
  OpenClaim.holds_of_wide 10 Try.f10 rfl rfl rfl rfl rfl rfl rfl ⟨rfl, rfl, rfl, rfl, rfl⟩ rfl rfl rfl rfl rfl (by kernel_rfl) Try.func10 (by kernel_rfl)
    (of_decide_eq_true (by kernel_rfl)) (by unfold Func.isWrapper; first | (rw [if_pos (by decide +kernel)]; kernel_rfl) | (rw [if_neg (by decide +kernel)]; exact ⟨rfl, rfl⟩))
    (fun os started H enc _ => lifted os started H enc)

/-- The statement. -/
theorem proved : Rows.FnHoldPutFullSaid := over
#print axioms proved
end Go.Proofs.Ytegdogamenoaiaa.fnHoldPutFull
