/- The law FnHoldPut of the program is true at every input: the call returns true, and each argument reads behind the call as before. Conditions: none. -/
import Derived.Test.YtegdogamenoaiaaBsl
import Derived.WalkKit
import Derived.ProofKit
import Derived.OpenShut
import Derived.ShutString
import Derived.ChangeOld
import Derived.Below
import Derived.Test.YtegdogamenoaiaaBsl
namespace Go.Proofs.Ytegdogamenoaiaa
open Go.RowKit
set_option linter.unusedVariables false
set_option linter.unusedSimpArgs false

set_option maxRecDepth 100000 in
set_option maxHeartbeats 8000000 in
theorem walk_FnHoldPut (A : Option Addr) (n c : Nat) (w : World) (h : IsInts .u8 w A n c) :
    Calls Try.prog 9 #[.slice A n c] w fun e w' => e = .returned (.bool true) ∧ Below w.heap.size w w' := by
  have H := Lib.hid h
  clear h
  by_cases hn0 : 1048576 < n
  · go_enter Try.func9, Try.ntmps9
    go_wp2_with fail
    go_ret
    exact ⟨rfl, Below.refl _ _⟩
  · have hn : n ≤ 1048576 := by omega
    clear hn0
    go_enter Try.func9, Try.ntmps9
    go_wp2_with fail
    refine (draw_bputQ _ A n c (H.out.below (by repeat (first | (with_reducible exact Below.refl _ _) | (with_reducible refine Bal ?_ _) | (with_reducible refine Below.drew ?_) | (with_reducible refine below_drewN ?_ _) | (with_reducible refine Bset ?_ ?_ _; focus (first | (with_reducible exact Nat.le_refl _) | (simp; done) | (simp; omega) | omega)) | (with_reducible refine Bt ?_ (by assumption)) | (with_reducible refine Bp (g := g) ?_ (by assumption) (by assumption))))) hn).mono ?_
    rintro e w1 ⟨y, d, A1, m, c1, q, a1, a2, a3, a4, a5, a6, now, hr1, hmc, hm, rfl, hb1⟩
    obtain ⟨hc1, hf1⟩ := bcell hb1
    have hy1 := hb1.size
    try simp at hy1
    have HR := Lib.hid hr1
    have hmn : m ≤ 1048576 := by omega
    clear hr1
    obtain ⟨k, hk, hP⟩ : ∃ k, ptCode y d m q ⟨a1, a2, a3, a4, a5, a6⟩ now = k ∧ PtIs y d m q ⟨a1, a2, a3, a4, a5, a6⟩ now k := ⟨_, rfl, pt_is _ _ _ _ _ _⟩
    have hi := fun W h1 h2 => iput_w W 0 w1.heap.size A1 m c1 y d now k q a1 a2 a3 a4 a5 a6 hk h1 h2 hmn
    have hs := fun W h1 h2 => sput_w W 0 w1.heap.size A1 m c1 y d now k q a1 a2 a3 a4 a5 a6 hk h1 h2 hmn hmc
    have hnn : ptN k m ≤ 1048576 := by have := ptN_le k m; omega
    clear hk
    by_cases hk0 : k = 0
    · subst hk0
      obtain ⟨f1, f2, f3, f4⟩ : ptOk y d m q ⟨a1, a2, a3, a4, a5, a6⟩ now ∧ ¬ a1 < y ∧ (∀ i, i < m → (q i).p.w ≠ a1) ∧ m < 10 := by cases hP; exact ⟨by assumption, by assumption, by assumption, by assumption⟩
      have hbf := bf_ins f1 f2 f3 f4
      have hat := ptAt_le q a1 m
      have e1 : ptY 0 y = y := rfl
      have e2 : ptY 0 d = d := rfl
      have e3 : ptN 0 m = m + 1 := rfl
      have e4 : ptQ 0 m q ⟨a1, a2, a3, a4, a5, a6⟩ now = insH q (ptAt q a1 m) ⟨⟨a1, a2, a3, a4, a5, a6⟩, now⟩ := rfl
      have e5 := insH_at q (ptAt q a1 m) ⟨⟨a1, a2, a3, a4, a5, a6⟩, now⟩
      rw [e3] at hnn
      simp only [e1, e2, e3, e4] at hi hs
      clear e1 e2 e3 e4 hP f1 f2 f3
      generalize ptAt q a1 m = at_ at hi hs hbf hat e5
      generalize insH q at_ ⟨⟨a1, a2, a3, a4, a5, a6⟩, now⟩ = q2 at hi hs hbf e5
      have E5 := Lib.hid e5
      have HA := Lib.hid hbf.2.2.2.asc
      have HBF := Lib.hid (decide_eq_true hbf)
      clear e5 hbf
      have HI := Lib.hid hi
      have HS := Lib.hid hs
      clear hi hs
      go_wp2_with fail
      refine (HI.out _ (HR.out.below (Nat.le_refl _) (by repeat (first | (with_reducible exact Below.refl _ _) | (with_reducible refine Bal ?_ _) | (with_reducible refine Below.drew ?_) | (with_reducible refine below_drewN ?_ _) | (with_reducible refine Bset ?_ ?_ _; focus (first | (with_reducible exact Nat.le_refl _) | (simp; done) | (simp; omega) | omega)) | (with_reducible refine Bt ?_ (by assumption)) | (with_reducible refine Bp (g := g) ?_ (by assumption) (by assumption))))) (by first | exact Nat.le_refl _ | (simp; done) | (simp; omega) | omega)).mono ?_
      rintro e w2 ⟨A2, c2, hr2, rfl, hb2⟩
      obtain ⟨hc2, hf2⟩ := bcell hb2
      have hy2 := hb2.size
      try simp at hy2
      have ho2_0 : w1.heap.size < w2.heap.size := by (have := hb2.size; (try simp at this); omega)
      have hg2_0 := fun o => hc2 (w1.heap.size) o (by first | (simp; done) | (simp; omega) | omega)
      have hk2_0 := fun o => hf2 (w1.heap.size) o (by first | (simp; done) | (simp; omega) | omega)
      try simp [go_sem] at hg2_0
      try simp [go_sem] at hk2_0
      have ho2_1 : w1.heap.size + 1 < w2.heap.size := by (have := hb2.size; (try simp at this); omega)
      have hg2_1 := fun o => hc2 (w1.heap.size + 1) o (by first | (simp; done) | (simp; omega) | omega)
      have hk2_1 := fun o => hf2 (w1.heap.size + 1) o (by first | (simp; done) | (simp; omega) | omega)
      try simp [go_sem] at hg2_1
      try simp [go_sem] at hk2_1
      have HR2 := Lib.hid hr2
      clear hr2
      go_wp2_with fail
      refine (HS.out _ (HR.out.below (Nat.le_refl _) (by repeat (first | (with_reducible exact Below.refl _ _) | (with_reducible refine Bal ?_ _) | (with_reducible refine Below.drew ?_) | (with_reducible refine below_drewN ?_ _) | (with_reducible refine Bset ?_ ?_ _; focus (first | (with_reducible exact Nat.le_refl _) | (simp; done) | (simp; omega) | omega)) | (with_reducible refine Bt ?_ (by assumption)) | (with_reducible refine Bp (g := g) ?_ (by assumption) (by assumption))))) (by first | exact Nat.le_refl _ | (simp; done) | (simp; omega) | omega)).mono ?_
      rintro e w3 ⟨A3, c3, hr3, rfl, hb3⟩
      obtain ⟨hc3, hf3⟩ := bcell hb3
      have hy3 := hb3.size
      try simp at hy3
      have ho3_0 : w1.heap.size < w3.heap.size := by (have := hb3.size; (try simp at this); omega)
      have hg3_0 := fun o => hc3 (w1.heap.size) o (by first | (simp; done) | (simp; omega) | omega)
      have hk3_0 := fun o => hf3 (w1.heap.size) o (by first | (simp; done) | (simp; omega) | omega)
      try simp [go_sem] at hg3_0
      try simp [go_sem] at hk3_0
      have ho3_1 : w1.heap.size + 1 < w3.heap.size := by (have := hb3.size; (try simp at this); omega)
      have hg3_1 := fun o => hc3 (w1.heap.size + 1) o (by first | (simp; done) | (simp; omega) | omega)
      have hk3_1 := fun o => hf3 (w1.heap.size + 1) o (by first | (simp; done) | (simp; omega) | omega)
      try simp [go_sem] at hg3_1
      try simp [go_sem] at hk3_1
      have ho3_2 : w2.heap.size < w3.heap.size := by (have := hb3.size; (try simp at this); omega)
      have hg3_2 := fun o => hc3 (w2.heap.size) o (by first | (simp; done) | (simp; omega) | omega)
      have hk3_2 := fun o => hf3 (w2.heap.size) o (by first | (simp; done) | (simp; omega) | omega)
      try simp [go_sem] at hg3_2
      try simp [go_sem] at hk3_2
      have HR3 := Lib.hid hr3
      clear hr3
      have hb23 : Below w2.heap.size w2 w3 := by repeat (first | (with_reducible exact Below.refl _ _) | (with_reducible refine Bal ?_ _) | (with_reducible refine Below.drew ?_) | (with_reducible refine below_drewN ?_ _) | (with_reducible refine Bset ?_ ?_ _; focus (first | (with_reducible exact Nat.le_refl _) | (simp; done) | (simp; omega) | omega)) | (with_reducible refine Bt ?_ (by assumption)) | (with_reducible refine Bp (g := g) ?_ (by assumption) (by assumption)))
      have HB := Lib.hid (fun W (h : Below w3.heap.size w3 W) => sameBuffer_same W (c1 := c2) (c2 := c3) (y := y) (d := d) (q := q2) (HR2.out.below (Nat.le_refl _) (hb23.trans (h.mono (by have := hb23.size; omega)))) (HR3.out.below (Nat.le_refl _) h) (Nat.le_trans hb23.size h.size) h.size hnn)
      clear hb23
      go_wp2_with fail
      refine (HB.out _ (by repeat (first | (with_reducible exact Below.refl _ _) | (with_reducible refine Bal ?_ _) | (with_reducible refine Below.drew ?_) | (with_reducible refine below_drewN ?_ _) | (with_reducible refine Bset ?_ ?_ _; focus (first | (with_reducible exact Nat.le_refl _) | (simp; done) | (simp; omega) | omega)) | (with_reducible refine Bt ?_ (by assumption)) | (with_reducible refine Bp (g := g) ?_ (by assumption) (by assumption))))).mono ?_
      rintro e w4 ⟨rfl, hb4⟩
      obtain ⟨hc4, hf4⟩ := bcell hb4
      have hy4 := hb4.size
      try simp at hy4
      first | (have hz4 : w.heap.size < w4.heap.size := by (have := hb4.size; (try simp at this); omega)) | skip
      have ho4_0 : w1.heap.size < w4.heap.size := by (have := hb4.size; (try simp at this); omega)
      have hg4_0 := fun o => hc4 (w1.heap.size) o (by first | (simp; done) | (simp; omega) | omega)
      have hk4_0 := fun o => hf4 (w1.heap.size) o (by first | (simp; done) | (simp; omega) | omega)
      try simp [go_sem] at hg4_0
      try simp [go_sem] at hk4_0
      have ho4_1 : w1.heap.size + 1 < w4.heap.size := by (have := hb4.size; (try simp at this); omega)
      have hg4_1 := fun o => hc4 (w1.heap.size + 1) o (by first | (simp; done) | (simp; omega) | omega)
      have hk4_1 := fun o => hf4 (w1.heap.size + 1) o (by first | (simp; done) | (simp; omega) | omega)
      try simp [go_sem] at hg4_1
      try simp [go_sem] at hk4_1
      have ho4_2 : w2.heap.size < w4.heap.size := by (have := hb4.size; (try simp at this); omega)
      have hg4_2 := fun o => hc4 (w2.heap.size) o (by first | (simp; done) | (simp; omega) | omega)
      have hk4_2 := fun o => hf4 (w2.heap.size) o (by first | (simp; done) | (simp; omega) | omega)
      try simp [go_sem] at hg4_2
      try simp [go_sem] at hk4_2
      have ho4_3 : w3.heap.size < w4.heap.size := by (have := hb4.size; (try simp at this); omega)
      have hg4_3 := fun o => hc4 (w3.heap.size) o (by first | (simp; done) | (simp; omega) | omega)
      have hk4_3 := fun o => hf4 (w3.heap.size) o (by first | (simp; done) | (simp; omega) | omega)
      try simp [go_sem] at hg4_3
      try simp [go_sem] at hk4_3
      have hb2x : Below w2.heap.size w2 w4 := by repeat (first | (with_reducible exact Below.refl _ _) | (with_reducible refine Bal ?_ _) | (with_reducible refine Below.drew ?_) | (with_reducible refine below_drewN ?_ _) | (with_reducible refine Bset ?_ ?_ _; focus (first | (with_reducible exact Nat.le_refl _) | (simp; done) | (simp; omega) | omega)) | (with_reducible refine Bt ?_ (by assumption)) | (with_reducible refine Bp (g := g) ?_ (by assumption) (by assumption)))
      have HB4 := Lib.hid (show Below w.heap.size w w4 by repeat (first | (with_reducible exact Below.refl _ _) | (with_reducible refine Bal ?_ _) | (with_reducible refine Below.drew ?_) | (with_reducible refine below_drewN ?_ _) | (with_reducible refine Bset ?_ ?_ _; focus (first | (with_reducible exact Nat.le_refl _) | (simp; done) | (simp; omega) | omega)) | (with_reducible refine Bt ?_ (by assumption)) | (with_reducible refine Bp (g := g) ?_ (by assumption) (by assumption))))
      have HR4 := Lib.hid (HR2.out.below (Nat.le_refl _) hb2x)
      have hg4 : ∀ o : Nat, w4.cell? ⟨w1.heap.size, o, none⟩ = ([.int .i64 y, .int .i64 d, .slice A1 m c1] : List Value)[o]? := fun o => (hg4_0 o).trans (by go_simp; try rfl)
      have hG4 : ∀ o : Nat, w4.cell? ⟨w1.heap.size + 1, o, none⟩ = ([.int .i64 a1, .int .i64 a2, .int .i64 a3, .int .i64 a4, .bool a5, .bool a6] : List Value)[o]? := fun o => (hg4_1 o).trans (by go_simp; try rfl)
      have hO4 : ∀ o : Nat, w4.cell? ⟨w2.heap.size, o, none⟩ = ([.int .i64 y, .int .i64 d, .slice A2 (m + 1) c2] : List Value)[o]? := fun o => (hg4_2 o).trans (by go_simp; try rfl)
      have hw1 : w1.heap.size < w4.heap.size := ho4_0
      have hw1a : w1.heap.size + 1 < w4.heap.size := ho4_1
      have hw2 : w2.heap.size < w4.heap.size := ho4_2
      have hw2b : w2.heap.size ≤ w4.heap.size := by omega
      clear hb2x hb2 hb3 hb4 hc2 hc3 hc4 hf2 hf3 hf4
      go_wp2_with fail
      go_loopw [10, 11] (fun s i wr => ∃ (k : Nat) (bl : Bool), k ≤ m + 1 ∧ i = .int .i64 (k : Nat) ∧ s = .bool bl ∧ (at_ < k → bl = true) ∧ Hid (Below w4.heap.size w4 wr)) (fun _ i _ => m + 1 - (intOf i).toNat)
      case atStart => exact ⟨0, false, Nat.zero_le _, rfl, rfl, fun h => absurd h (by omega), Lib.hid (Below.refl _ _)⟩
      case round =>
        obtain ⟨k, bl, hk, rfl, rfl, hbl, hB⟩ := hrel
        have hsz := hB.out.size
        have hw1r : w1.heap.size < wr.heap.size := by omega
        have hw1ar : w1.heap.size + 1 < wr.heap.size := by omega
        have hw2r : w2.heap.size < wr.heap.size := by omega
        have hgr : ∀ o : Nat, wr.cell? ⟨w1.heap.size, o, none⟩ = ([.int .i64 y, .int .i64 d, .slice A1 m c1] : List Value)[o]? := fun o => (hB.out.cell (p := ⟨w1.heap.size, o, none⟩) hw1).trans (hg4 o)
        have hGr : ∀ o : Nat, wr.cell? ⟨w1.heap.size + 1, o, none⟩ = ([.int .i64 a1, .int .i64 a2, .int .i64 a3, .int .i64 a4, .bool a5, .bool a6] : List Value)[o]? := fun o => (hB.out.cell (p := ⟨w1.heap.size + 1, o, none⟩) hw1a).trans (hG4 o)
        have hOr : ∀ o : Nat, wr.cell? ⟨w2.heap.size, o, none⟩ = ([.int .i64 y, .int .i64 d, .slice A2 (m + 1) c2] : List Value)[o]? := fun o => (hB.out.cell (p := ⟨w2.heap.size, o, none⟩) hw2).trans (hO4 o)
        have HRr := Lib.hid (HR4.out.below hw2b hB.out)
        clear HR4
        by_cases hkn : k < m + 1
        · cases bl with
          | true =>
            go_wp2_with fail
            refine wp_region_mixB (by kernel_rfl) (by kernel_rfl) ?_
            repeat (first
              | (refine mix_skip rfl ?_; have e0 : True := trivial; clear e0; refine mix_putK ?_; intro K hK; go_simp; refine hK _ ?_; clear hK K)
              | (refine mix_readE rfl rfl rfl ?_; apply Exists.intro; refine ⟨fun w' hb' => ?_, ?_⟩; (focus (obtain ⟨hc', hf'⟩ := Old.cells hb'; clear hb'; go_simp; try exact rfl)); have e0 : True := trivial; clear e0; refine mix_putK ?_; intro K hK; go_simp; refine hK _ ?_; clear hK K)
              | (refine mix_pureE rfl rfl ?_; apply Exists.intro; refine ⟨fun w' => ?_, ?_⟩; (focus (go_simp; try exact rfl)); have e0 : True := trivial; clear e0; refine mix_putK ?_; intro K hK; go_simp; refine hK _ ?_; clear hK K)
              | (refine mix_eff rfl rfl ?_; go_wp2_with (fail); refine then_mix rfl ?_ ?_; (first | (intro h; have h2 : false = true := h; cases h2) | (intro _; assumption) | (intro _; refine Old.mk ?_; repeat (first | (with_reducible exact Below.refl _ _) | (with_reducible refine Bal ?_ _) | (with_reducible refine Below.drew ?_) | (with_reducible refine below_drewN ?_ _) | (with_reducible refine Bset ?_ ?_ _; focus (first | (with_reducible exact Nat.le_refl _) | (simp; done) | (simp; omega) | omega)) | (with_reducible refine Bt ?_ (by assumption)) | (with_reducible refine Bp (g := g) ?_ (by assumption) (by assumption)))))))
            refine mix_nil ?_
            go_wp2_with fail
            go_roundw
            case rel => exact ⟨k + 1, true, by omega, by go_num, rfl, fun _ => rfl, Lib.hid hB.out.drew⟩
            case measure => simp [intOf]; omega
          | false =>
            have hka : k ≤ at_ := by rcases Nat.lt_or_ge at_ k with h | h; exact absurd (hbl h) (by decide); exact h
            obtain ⟨b, off, rfl, _, hb1, z0, z1, z2, z3, z4, z5, z6⟩ := Hd_at HRr.out hkn
            have hb1' : b < wr.heap.size := by omega
            by_cases hke : k = at_
            · subst hke
              rw [E5.out] at z0 z1 z2 z3 z4 z5 z6
              clear hbl hka
              go_wp2_with fail
              refine wp_region_mixB (by kernel_rfl) (by kernel_rfl) ?_
              repeat (first
                | (refine mix_skip rfl ?_; have e0 : True := trivial; clear e0; refine mix_putK ?_; intro K hK; go_simp; refine hK _ ?_; clear hK K)
                | (refine mix_readE rfl rfl rfl ?_; apply Exists.intro; refine ⟨fun w' hb' => ?_, ?_⟩; (focus (obtain ⟨hc', hf'⟩ := Old.cells hb'; clear hb'; go_simp; try exact rfl)); have e0 : True := trivial; clear e0; refine mix_putK ?_; intro K hK; go_simp; refine hK _ ?_; clear hK K)
                | (refine mix_pureE rfl rfl ?_; apply Exists.intro; refine ⟨fun w' => ?_, ?_⟩; (focus (go_simp; try exact rfl)); have e0 : True := trivial; clear e0; refine mix_putK ?_; intro K hK; go_simp; refine hK _ ?_; clear hK K)
                | (refine mix_eff rfl rfl ?_; go_wp2_with (fail); refine then_mix rfl ?_ ?_; (first | (intro h; have h2 : false = true := h; cases h2) | (intro _; assumption) | (intro _; refine Old.mk ?_; repeat (first | (with_reducible exact Below.refl _ _) | (with_reducible refine Bal ?_ _) | (with_reducible refine Below.drew ?_) | (with_reducible refine below_drewN ?_ _) | (with_reducible refine Bset ?_ ?_ _; focus (first | (with_reducible exact Nat.le_refl _) | (simp; done) | (simp; omega) | omega)) | (with_reducible refine Bt ?_ (by assumption)) | (with_reducible refine Bp (g := g) ?_ (by assumption) (by assumption)))))))
              refine mix_nil ?_
              go_wp2_with fail
              go_roundw
              case rel => exact ⟨k + 1, true, by omega, by go_num, rfl, fun _ => rfl, Lib.hid hB.out.drew⟩
              case measure => simp [intOf]; omega
            · clear hbl
              have hlt : k < at_ := by omega
              have hwn : ¬ (q2 k).p.w = a1 := by have h1 := HA.out k at_ hlt (by omega); rw [E5.out] at h1; exact Int.ne_of_lt h1
              clear hke hka
              generalize q2 k = qk at z0 z1 z2 z3 z4 z5 z6 hwn
              obtain ⟨⟨b1, b2, b3, b4, b5, b6⟩, b7⟩ := qk
              simp only [] at z0 z1 z2 z3 z4 z5 z6 hwn
              go_wp2_with fail
              refine wp_region_mixB (by kernel_rfl) (by kernel_rfl) ?_
              repeat (first
                | (refine mix_skip rfl ?_; have e0 : True := trivial; clear e0; refine mix_putK ?_; intro K hK; go_simp; refine hK _ ?_; clear hK K)
                | (refine mix_readE rfl rfl rfl ?_; apply Exists.intro; refine ⟨fun w' hb' => ?_, ?_⟩; (focus (obtain ⟨hc', hf'⟩ := Old.cells hb'; clear hb'; go_simp; try exact rfl)); have e0 : True := trivial; clear e0; refine mix_putK ?_; intro K hK; go_simp; refine hK _ ?_; clear hK K)
                | (refine mix_pureE rfl rfl ?_; apply Exists.intro; refine ⟨fun w' => ?_, ?_⟩; (focus (go_simp; try exact rfl)); have e0 : True := trivial; clear e0; refine mix_putK ?_; intro K hK; go_simp; refine hK _ ?_; clear hK K)
                | (refine mix_eff rfl rfl ?_; go_wp2_with (fail); refine then_mix rfl ?_ ?_; (first | (intro h; have h2 : false = true := h; cases h2) | (intro _; assumption) | (intro _; refine Old.mk ?_; repeat (first | (with_reducible exact Below.refl _ _) | (with_reducible refine Bal ?_ _) | (with_reducible refine Below.drew ?_) | (with_reducible refine below_drewN ?_ _) | (with_reducible refine Bset ?_ ?_ _; focus (first | (with_reducible exact Nat.le_refl _) | (simp; done) | (simp; omega) | omega)) | (with_reducible refine Bt ?_ (by assumption)) | (with_reducible refine Bp (g := g) ?_ (by assumption) (by assumption)))))))
              refine mix_nil ?_
              go_wp2_with fail
              go_roundw
              case rel => exact ⟨k + 1, _, by omega, by go_num, rfl, fun h => absurd h (by omega), Lib.hid hB.out.drew⟩
              case measure => simp [intOf]; omega
        · obtain rfl : bl = true := hbl (by omega)
          have HV := Lib.hid (fun W (h : Below wr.heap.size wr W) => ibv_any W 0 w2.heap.size A2 (m + 1) c2 y d q2 (HRr.out.below (by omega) h) (by have := h.size; omega) (by omega))
          have hm1 : IntKind.i64.wrap ((m : Int) + 1) = (m : Int) + 1 := IntWalk.i64_in _ (by omega)
          clear hbl
          go_wp2_with fail
          refine (HV.out _ (by repeat (first | (with_reducible exact Below.refl _ _) | (with_reducible refine Bal ?_ _) | (with_reducible refine Below.drew ?_) | (with_reducible refine below_drewN ?_ _) | (with_reducible refine Bset ?_ ?_ _; focus (first | (with_reducible exact Nat.le_refl _) | (simp; done) | (simp; omega) | omega)) | (with_reducible refine Bt ?_ (by assumption)) | (with_reducible refine Bp (g := g) ?_ (by assumption) (by assumption))))).mono ?_
          rintro e w6 ⟨rfl, hb6⟩
          rw [show bfB y d (m + 1) q2 = true from HBF.out]
          obtain ⟨hc6, hf6⟩ := bcell hb6
          have hg6_0 : ∀ o : Nat, w6.cell? ⟨w1.heap.size, o, none⟩ = ([.int .i64 y, .int .i64 d, .slice A1 m c1] : List Value)[o]? := fun o => (hc6 (w1.heap.size) o (by first | (simp; done) | (simp; omega) | omega)).trans (hgr o)
          have hg6_1 : ∀ o : Nat, w6.cell? ⟨w2.heap.size, o, none⟩ = ([.int .i64 y, .int .i64 d, .slice A2 (m + 1) c2] : List Value)[o]? := fun o => (hc6 (w2.heap.size) o (by first | (simp; done) | (simp; omega) | omega)).trans (hOr o)
          go_wp2_with fail
          go_ret
          exact ⟨by simp, HB4.out.trans ((hB.out.trans (hb6.mono (by omega))).mono (by have := HB4.out.size; omega))⟩
    · have hk0b : (k == 0) = false := by simpa using hk0
      generalize ptY k y = yy at hi hs
      generalize ptY k d = dd at hi hs
      generalize ptQ k m q ⟨a1, a2, a3, a4, a5, a6⟩ now = qq at hi hs
      generalize ptN k m = nn at hi hs hnn
      clear hP
      have HI := Lib.hid hi
      have HS := Lib.hid hs
      clear hi hs
      go_wp2_with fail
      refine (HI.out _ (HR.out.below (Nat.le_refl _) (by repeat (first | (with_reducible exact Below.refl _ _) | (with_reducible refine Bal ?_ _) | (with_reducible refine Below.drew ?_) | (with_reducible refine below_drewN ?_ _) | (with_reducible refine Bset ?_ ?_ _; focus (first | (with_reducible exact Nat.le_refl _) | (simp; done) | (simp; omega) | omega)) | (with_reducible refine Bt ?_ (by assumption)) | (with_reducible refine Bp (g := g) ?_ (by assumption) (by assumption))))) (by first | exact Nat.le_refl _ | (simp; done) | (simp; omega) | omega)).mono ?_
      rintro e w2 ⟨A2, c2, hr2, rfl, hb2⟩
      obtain ⟨hc2, hf2⟩ := bcell hb2
      have hy2 := hb2.size
      try simp at hy2
      have ho2_0 : w1.heap.size < w2.heap.size := by (have := hb2.size; (try simp at this); omega)
      have hg2_0 := fun o => hc2 (w1.heap.size) o (by first | (simp; done) | (simp; omega) | omega)
      have hk2_0 := fun o => hf2 (w1.heap.size) o (by first | (simp; done) | (simp; omega) | omega)
      try simp [go_sem] at hg2_0
      try simp [go_sem] at hk2_0
      have ho2_1 : w1.heap.size + 1 < w2.heap.size := by (have := hb2.size; (try simp at this); omega)
      have hg2_1 := fun o => hc2 (w1.heap.size + 1) o (by first | (simp; done) | (simp; omega) | omega)
      have hk2_1 := fun o => hf2 (w1.heap.size + 1) o (by first | (simp; done) | (simp; omega) | omega)
      try simp [go_sem] at hg2_1
      try simp [go_sem] at hk2_1
      have HR2 := Lib.hid hr2
      clear hr2
      go_wp2_with fail
      refine (HS.out _ (HR.out.below (Nat.le_refl _) (by repeat (first | (with_reducible exact Below.refl _ _) | (with_reducible refine Bal ?_ _) | (with_reducible refine Below.drew ?_) | (with_reducible refine below_drewN ?_ _) | (with_reducible refine Bset ?_ ?_ _; focus (first | (with_reducible exact Nat.le_refl _) | (simp; done) | (simp; omega) | omega)) | (with_reducible refine Bt ?_ (by assumption)) | (with_reducible refine Bp (g := g) ?_ (by assumption) (by assumption))))) (by first | exact Nat.le_refl _ | (simp; done) | (simp; omega) | omega)).mono ?_
      rintro e w3 ⟨A3, c3, hr3, rfl, hb3⟩
      obtain ⟨hc3, hf3⟩ := bcell hb3
      have hy3 := hb3.size
      try simp at hy3
      have ho3_0 : w1.heap.size < w3.heap.size := by (have := hb3.size; (try simp at this); omega)
      have hg3_0 := fun o => hc3 (w1.heap.size) o (by first | (simp; done) | (simp; omega) | omega)
      have hk3_0 := fun o => hf3 (w1.heap.size) o (by first | (simp; done) | (simp; omega) | omega)
      try simp [go_sem] at hg3_0
      try simp [go_sem] at hk3_0
      have ho3_1 : w1.heap.size + 1 < w3.heap.size := by (have := hb3.size; (try simp at this); omega)
      have hg3_1 := fun o => hc3 (w1.heap.size + 1) o (by first | (simp; done) | (simp; omega) | omega)
      have hk3_1 := fun o => hf3 (w1.heap.size + 1) o (by first | (simp; done) | (simp; omega) | omega)
      try simp [go_sem] at hg3_1
      try simp [go_sem] at hk3_1
      have ho3_2 : w2.heap.size < w3.heap.size := by (have := hb3.size; (try simp at this); omega)
      have hg3_2 := fun o => hc3 (w2.heap.size) o (by first | (simp; done) | (simp; omega) | omega)
      have hk3_2 := fun o => hf3 (w2.heap.size) o (by first | (simp; done) | (simp; omega) | omega)
      try simp [go_sem] at hg3_2
      try simp [go_sem] at hk3_2
      have HR3 := Lib.hid hr3
      clear hr3
      have hb23 : Below w2.heap.size w2 w3 := by repeat (first | (with_reducible exact Below.refl _ _) | (with_reducible refine Bal ?_ _) | (with_reducible refine Below.drew ?_) | (with_reducible refine below_drewN ?_ _) | (with_reducible refine Bset ?_ ?_ _; focus (first | (with_reducible exact Nat.le_refl _) | (simp; done) | (simp; omega) | omega)) | (with_reducible refine Bt ?_ (by assumption)) | (with_reducible refine Bp (g := g) ?_ (by assumption) (by assumption)))
      have HB := Lib.hid (fun W (h : Below w3.heap.size w3 W) => sameBuffer_same W (c1 := c2) (c2 := c3) (y := yy) (d := dd) (q := qq) (HR2.out.below (Nat.le_refl _) (hb23.trans (h.mono (by have := hb23.size; omega)))) (HR3.out.below (Nat.le_refl _) h) (Nat.le_trans hb23.size h.size) h.size hnn)
      clear hb23
      go_wp2_with fail
      refine (HB.out _ (by repeat (first | (with_reducible exact Below.refl _ _) | (with_reducible refine Bal ?_ _) | (with_reducible refine Below.drew ?_) | (with_reducible refine below_drewN ?_ _) | (with_reducible refine Bset ?_ ?_ _; focus (first | (with_reducible exact Nat.le_refl _) | (simp; done) | (simp; omega) | omega)) | (with_reducible refine Bt ?_ (by assumption)) | (with_reducible refine Bp (g := g) ?_ (by assumption) (by assumption))))).mono ?_
      rintro e w4 ⟨rfl, hb4⟩
      obtain ⟨hc4, hf4⟩ := bcell hb4
      have hy4 := hb4.size
      try simp at hy4
      first | (have hz4 : w.heap.size < w4.heap.size := by (have := hb4.size; (try simp at this); omega)) | skip
      have ho4_0 : w2.heap.size < w4.heap.size := by (have := hb4.size; (try simp at this); omega)
      have hg4_0 := fun o => hc4 (w2.heap.size) o (by first | (simp; done) | (simp; omega) | omega)
      have hk4_0 := fun o => hf4 (w2.heap.size) o (by first | (simp; done) | (simp; omega) | omega)
      try simp [go_sem] at hg4_0
      try simp [go_sem] at hk4_0
      have ho4_1 : w3.heap.size < w4.heap.size := by (have := hb4.size; (try simp at this); omega)
      have hg4_1 := fun o => hc4 (w3.heap.size) o (by first | (simp; done) | (simp; omega) | omega)
      have hk4_1 := fun o => hf4 (w3.heap.size) o (by first | (simp; done) | (simp; omega) | omega)
      try simp [go_sem] at hg4_1
      try simp [go_sem] at hk4_1
      go_wp2_with fail
      refine (HB.out _ (by repeat (first | (with_reducible exact Below.refl _ _) | (with_reducible refine Bal ?_ _) | (with_reducible refine Below.drew ?_) | (with_reducible refine below_drewN ?_ _) | (with_reducible refine Bset ?_ ?_ _; focus (first | (with_reducible exact Nat.le_refl _) | (simp; done) | (simp; omega) | omega)) | (with_reducible refine Bt ?_ (by assumption)) | (with_reducible refine Bp (g := g) ?_ (by assumption) (by assumption))))).mono ?_
      rintro e w5 ⟨rfl, hb5⟩
      go_wp2_with fail
      go_ret
      go_light
      refine ⟨rfl, ?_⟩
      repeat (first | (with_reducible exact Below.refl _ _) | (with_reducible refine Bal ?_ _) | (with_reducible refine Below.drew ?_) | (with_reducible refine below_drewN ?_ _) | (with_reducible refine Bset ?_ ?_ _; focus (first | (with_reducible exact Nat.le_refl _) | (simp; done) | (simp; omega) | omega)) | (with_reducible refine Bt ?_ (by assumption)) | (with_reducible refine Bp (g := g) ?_ (by assumption) (by assumption)))

end Go.Proofs.Ytegdogamenoaiaa
namespace Go.Proofs.Ytegdogamenoaiaa.fnHoldPut
open Go.ChangeShapes Go.WideShapes Go.ChangeAt Go.RowKit
set_option linter.unusedVariables false

theorem own : ownKnob Try.prog.godebug = none := by kernel_rfl
theorem laidOut : laidOutB Try.prog = true := by kernel_rfl

set_option maxRecDepth 100000 in
theorem lifted (os : Os) (started : os.Started) (H : Type) (enc : TypeId × Value → H) :
    ReturnsInHanded {} Try.checked os 9 .any (Rows.fnHoldPutSpec.pre6 enc Try.prog Try.f9 Rows.fnHoldPutRow.domain false) (Rows.fnHoldPutSpec.post enc Try.prog Try.f9 false true false false) := by
  refine returnsInHanded_of_change (C := Try.checked) own started (by kernel_rfl) Try.func9
    (ChangeSpec.witness6 (enc := enc) (C := Try.checked) false ⟨#[], #[.slice none 0 0], []⟩ 8 (by kernel_rfl) (by kernel_rfl) (by kernel_rfl) (by kernel_rfl)) ?_
  intro W base args ds gs before hval0 hW hcnd _
  have hval : ∀ (j : Nat) t v, Try.f9.params[j]? = some t → args[j]? = some v → Value.okWide Try.prog W .any base t v := hval0
  have hW' := hW
  obtain ⟨p, q, hA0, hV, rfl, hfz, hnd⟩ := hW
  have hA : DataW.TrodAll enc Try.prog W 0 (fun _ => true) true Try.f9.params.toList args.toList ds p := hA0
  rw [Try.params9] at hA hval
  obtain ⟨v0, vs0, d0, ds0, p0, q0, hargs, rfl, rfl, h0, r0⟩ := trodAll_cons hA
  obtain ⟨rfl, rfl, rfl⟩ := trodAll_nil r0
  obtain rfl : args = #[v0] := by cases args; simp_all
  obtain ⟨rfl, rfl⟩ := trodVars_none hV
  have k0 := h0
  have lt0 : ∀ x ∈ p0, x.block < W.heap.size := by obtain ⟨m, hm⟩ := k0; exact DataW.trod_lt m _ _ _ hm
  obtain ⟨a0, n0, c0, rfl, w0⟩ := open_code (hval 0 48 v0 rfl rfl) h0
  clear hA0 hval0
  refine (walk_FnHoldPut a0 n0 c0 W w0).mono fun e W' ⟨he, bel⟩ => ?_
  subst he
  exact ⟨_, rfl, _, _, _, [], _, [], hW', trodAll_mk1 (shut_bool Try.underlying4 _), (trodAll_cons_mk (Below.trod laidOut (by kernel_rfl) (of_decide_eq_true (by kernel_rfl)) k0 bel lt0) trodAll_mk0), rfl, bel.frame _, fun h => by cases h⟩

theorem over : Rows.fnHoldPutRow.holds Try.pinned (OpenSpec.ofChange Rows.fnHoldPutSpec) :=
  OpenClaim.holds_of_wide 9 Try.f9 rfl rfl rfl rfl rfl rfl rfl ⟨rfl, rfl, rfl, rfl, rfl⟩ rfl rfl rfl rfl rfl (by kernel_rfl) Try.func9 (by kernel_rfl)
    (of_decide_eq_true (by kernel_rfl)) (by unfold Func.isWrapper; first | (rw [if_pos (by decide +kernel)]; kernel_rfl) | (rw [if_neg (by decide +kernel)]; exact ⟨rfl, rfl⟩))
    (fun os started H enc _ => lifted os started H enc)

/-- The statement. -/
theorem proved : Rows.FnHoldPutSaid := over
#print axioms proved
end Go.Proofs.Ytegdogamenoaiaa.fnHoldPut
