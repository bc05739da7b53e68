/- A buffer: what is valid (printed by gen_buf.py). -/
import Derived.Test.YtegdogamenoaiaaHpr
namespace Go.Proofs.Ytegdogamenoaiaa
open Go Go.RowKit
set_option linter.unusedVariables false
set_option linter.unusedSimpArgs false
def BfUp (y : Int) (k : Nat) (q : Nat → Hd) : Prop := ∀ i, i < k → PkOk (q i).p ∧ (0 ≤ (q i).c ∧ (q i).c ≤ 99999) ∧ y ≤ (q i).p.w ∧ (0 < i → (q (i - 1)).p.w < (q i).p.w)
instance (y : Int) (k : Nat) (q : Nat → Hd) : Decidable (BfUp y k q) := inferInstanceAs (Decidable (∀ i, i < k → _))
def BfOk (y d : Int) (n : Nat) (q : Nat → Hd) : Prop := (0 ≤ y ∧ y ≤ 1000000) ∧ (0 ≤ d ∧ d ≤ 999) ∧ n ≤ 10 ∧ BfUp y n q
instance (y d : Int) (n : Nat) (q : Nat → Hd) : Decidable (BfOk y d n q) := inferInstanceAs (Decidable (_ ∧ _ ∧ _ ∧ _))
def bfB (y d : Int) (n : Nat) (q : Nat → Hd) : Bool := decide (BfOk y d n q)
theorem BfUp.zero (y : Int) (q : Nat → Hd) : BfUp y 0 q := fun i h => absurd h (by omega)
theorem BfUp.succ {y : Int} {k : Nat} {q : Nat → Hd} (h : BfUp y k q) (h1 : PkOk (q k).p) (h2 : 0 ≤ (q k).c ∧ (q k).c ≤ 99999) (h3 : y ≤ (q k).p.w) (h4 : 0 < k → (q (k - 1)).p.w < (q k).p.w) : BfUp y (k + 1) q := fun i hi => by
  by_cases e : i = k
  · subst e; exact ⟨h1, h2, h3, h4⟩
  · exact h i (by omega)
theorem bf_no {y d : Int} {n : Nat} {q : Nat → Hd} (h : ¬ BfOk y d n q) : false = bfB y d n q := (decide_eq_false h).symm
theorem BfUp.asc {y : Int} {n : Nat} {q : Nat → Hd} (h : BfUp y n q) : EAsc n q := by
  intro a b hab hb
  induction b with
  | zero => omega
  | succ b ih =>
    have h1 := (h (b + 1) hb).2.2.2 (by omega)
    simp at h1
    rcases (by omega : a = b ∨ a < b) with rfl | h2
    · exact h1
    · exact Int.lt_trans (ih h2 (by omega)) h1
set_option maxRecDepth 100000 in
set_option maxHeartbeats 8000000 in
theorem ibv_any (w : World) (lo hi : Nat) (A : Option Addr) (n c : Nat) (y d : Int) (q : Nat → Hd) (h : RowAt w lo hi A n 7 (HdF q)) (hi' : hi ≤ w.heap.size) (hn : n ≤ 1048576) :
    Calls Try.prog 38 #[.agg #[.int .i64 y, .int .i64 d, .slice A n c]] w fun e w' => e = .returned (.bool (bfB y d n q)) ∧ Below w.heap.size w w' := by
  have H := Lib.hid h
  clear h
  by_cases g1 : 0 ≤ y
  rotate_left
  · have HN := Lib.hid (show ¬ BfOk y d n q from fun h => g1 h.1.1)
    have g1x : y < 0 := by omega
    go_enter Try.func38, Try.ntmps38
    go_wp2_with fail
    go_ret
    go_light
    refine ⟨ret_bool (bf_no HN.out), ?_⟩
    repeat (first | (with_reducible exact Below.refl _ _) | (with_reducible refine Bal ?_ _) | (with_reducible refine Below.drew ?_) | (with_reducible refine below_drewN ?_ _) | (with_reducible refine Bset ?_ ?_ _; focus (first | (with_reducible exact Nat.le_refl _) | (simp; done) | (simp; omega) | omega)) | (with_reducible refine Bt ?_ (by assumption)) | (with_reducible refine Bp (g := g) ?_ (by assumption) (by assumption)))
  by_cases g2 : y ≤ 1000000
  rotate_left
  · have HN := Lib.hid (show ¬ BfOk y d n q from fun h => g2 h.1.2)
    have g2x : 1000000 < y := by omega
    go_enter Try.func38, Try.ntmps38
    go_wp2_with fail
    go_ret
    go_light
    refine ⟨ret_bool (bf_no HN.out), ?_⟩
    repeat (first | (with_reducible exact Below.refl _ _) | (with_reducible refine Bal ?_ _) | (with_reducible refine Below.drew ?_) | (with_reducible refine below_drewN ?_ _) | (with_reducible refine Bset ?_ ?_ _; focus (first | (with_reducible exact Nat.le_refl _) | (simp; done) | (simp; omega) | omega)) | (with_reducible refine Bt ?_ (by assumption)) | (with_reducible refine Bp (g := g) ?_ (by assumption) (by assumption)))
  by_cases g3 : 0 ≤ d
  rotate_left
  · have HN := Lib.hid (show ¬ BfOk y d n q from fun h => g3 h.2.1.1)
    have g3x : d < 0 := by omega
    go_enter Try.func38, Try.ntmps38
    go_wp2_with fail
    go_ret
    go_light
    refine ⟨ret_bool (bf_no HN.out), ?_⟩
    repeat (first | (with_reducible exact Below.refl _ _) | (with_reducible refine Bal ?_ _) | (with_reducible refine Below.drew ?_) | (with_reducible refine below_drewN ?_ _) | (with_reducible refine Bset ?_ ?_ _; focus (first | (with_reducible exact Nat.le_refl _) | (simp; done) | (simp; omega) | omega)) | (with_reducible refine Bt ?_ (by assumption)) | (with_reducible refine Bp (g := g) ?_ (by assumption) (by assumption)))
  by_cases g4 : d ≤ 999
  rotate_left
  · have HN := Lib.hid (show ¬ BfOk y d n q from fun h => g4 h.2.1.2)
    have g4x : 999 < d := by omega
    go_enter Try.func38, Try.ntmps38
    go_wp2_with fail
    go_ret
    go_light
    refine ⟨ret_bool (bf_no HN.out), ?_⟩
    repeat (first | (with_reducible exact Below.refl _ _) | (with_reducible refine Bal ?_ _) | (with_reducible refine Below.drew ?_) | (with_reducible refine below_drewN ?_ _) | (with_reducible refine Bset ?_ ?_ _; focus (first | (with_reducible exact Nat.le_refl _) | (simp; done) | (simp; omega) | omega)) | (with_reducible refine Bt ?_ (by assumption)) | (with_reducible refine Bp (g := g) ?_ (by assumption) (by assumption)))
  by_cases g5 : n ≤ 10
  rotate_left
  · have HN := Lib.hid (show ¬ BfOk y d n q from fun h => g5 h.2.2.1)
    go_enter Try.func38, Try.ntmps38
    go_wp2_with fail
    go_ret
    go_light
    refine ⟨ret_bool (bf_no HN.out), ?_⟩
    repeat (first | (with_reducible exact Below.refl _ _) | (with_reducible refine Bal ?_ _) | (with_reducible refine Below.drew ?_) | (with_reducible refine below_drewN ?_ _) | (with_reducible refine Bset ?_ ?_ _; focus (first | (with_reducible exact Nat.le_refl _) | (simp; done) | (simp; omega) | omega)) | (with_reducible refine Bt ?_ (by assumption)) | (with_reducible refine Bp (g := g) ?_ (by assumption) (by assumption)))
  go_enter Try.func38, Try.ntmps38
  go_wp2_with fail
  have HW := Lib.hid (RowAt.alloc hi' H.out (.cells #[.int .i64 y, .int .i64 d, .slice A n c] 28))
  go_loopw [30] (fun i wr => ∃ k, k ≤ n ∧ i = .int .i64 k ∧ Hid (BfUp y k q) ∧ Hid (Below (w.heap.size + 1) (w.alloc (.cells #[.int .i64 y, .int .i64 d, .slice A n c] 28)) wr)) (fun i _ => n - (intOf i).toNat)
  case atStart => exact ⟨0, Nat.zero_le _, rfl, Lib.hid (BfUp.zero y q), Lib.hid (Below.refl _ _)⟩
  case round =>
    obtain ⟨k, hk, rfl, hA, hB⟩ := hrel
    have hBs : w.heap.size + 1 ≤ wr.heap.size := by have := hB.out.size; simpa using this
    have hws : w.heap.size < wr.heap.size := by omega
    have e0 : wr.cell? ⟨w.heap.size, 0, none⟩ = some (.int .i64 y) := (hB.out.cell (p := ⟨w.heap.size, 0, none⟩) (Nat.lt_succ_self _)).trans (by go_simp)
    have e1 : wr.cell? ⟨w.heap.size, 1, none⟩ = some (.int .i64 d) := (hB.out.cell (p := ⟨w.heap.size, 1, none⟩) (Nat.lt_succ_self _)).trans (by go_simp)
    have e2 : wr.cell? ⟨w.heap.size, 2, none⟩ = some (.slice A n c) := (hB.out.cell (p := ⟨w.heap.size, 2, none⟩) (Nat.lt_succ_self _)).trans (by go_simp)
    have HR := Lib.hid (HW.out.below (show hi ≤ w.heap.size + 1 by omega) hB.out)
    by_cases hkn : k < n
    rotate_left
    · obtain rfl : k = n := by omega
      go_wp2_with fail
      go_ret
      exact ⟨ret_bool (decide_eq_true (show BfOk y d k q from ⟨⟨g1, g2⟩, ⟨g3, g4⟩, g5, hA.out⟩)).symm, (Below.alloc (Below.refl w.heap.size w) (Nat.le_refl _) _).trans (Below.mono hB.out (Nat.le_succ _))⟩
    have hv := fun W : World => ipv_any (q k).p.w (q k).p.t (q k).p.l (q k).p.s (q k).p.k (q k).p.z W
    have ht := fun W : World => timeV_any (q k).c W
    by_cases hd : PkOk (q k).p
    rotate_left
    · rw [show pkB ⟨(q k).p.w, (q k).p.t, (q k).p.l, (q k).p.s, (q k).p.k, (q k).p.z⟩ = false from decide_eq_false hd] at hv
      have HN := Lib.hid (show ¬ BfOk y d n q from fun h => hd (h.2.2.2 k hkn).1)
      have HV := Lib.hid hv
      clear hv ht
      obtain ⟨b, off, rfl, _, hb2, c0, c1, c2, c3, c4, c5, c6⟩ := Hd_at HR.out hkn
      have hbw : b < wr.heap.size := by omega
      go_wp2_with fail
      refine (HV.out _).mono ?_
      rintro e w2 ⟨rfl, hbv⟩
      obtain ⟨hcv, hfv⟩ := bcell hbv
      have hyv := hbv.size
      (try simp at hyv)
      have gv := fun o => hcv wr.heap.size o (by simp)
      (try simp [go_sem] at gv)
      have hwv : wr.heap.size < w2.heap.size := by omega
      have hbw2 : b < w2.heap.size := by omega
      have hww2 : w.heap.size < w2.heap.size := by omega
      go_wp2_with fail
      go_ret
      go_light
      refine ⟨ret_bool (bf_no HN.out), ?_⟩
      refine ((Below.alloc (Below.refl w.heap.size w) (Nat.le_refl _) _).trans (Below.mono hB.out (Nat.le_succ _))).trans (Below.mono (B := wr.heap.size) ?_ (Nat.le_of_lt hws))
      repeat (first | (with_reducible exact Below.refl _ _) | (with_reducible refine Bal ?_ _) | (with_reducible refine Below.drew ?_) | (with_reducible refine below_drewN ?_ _) | (with_reducible refine Bset ?_ ?_ _; focus (first | (with_reducible exact Nat.le_refl _) | (simp; done) | (simp; omega) | omega)) | (with_reducible refine Bt ?_ (by assumption)) | (with_reducible refine Bp (g := g) ?_ (by assumption) (by assumption)))
    rw [show pkB ⟨(q k).p.w, (q k).p.t, (q k).p.l, (q k).p.s, (q k).p.k, (q k).p.z⟩ = true from decide_eq_true hd] at hv
    have HV := Lib.hid hv
    clear hv
    by_cases t1 : 0 ≤ (q k).c
    rotate_left
    · have HN := Lib.hid (show ¬ BfOk y d n q from fun h => t1 (h.2.2.2 k hkn |>.2.1.1))
      rw [inB_f1 (by omega)] at ht
      have HT := Lib.hid ht
      clear ht
      obtain ⟨b, off, rfl, _, hb2, c0, c1, c2, c3, c4, c5, c6⟩ := Hd_at HR.out hkn
      have hbw : b < wr.heap.size := by omega
      go_wp2_with fail
      refine (HV.out _).mono ?_
      rintro e w2 ⟨rfl, hbv⟩
      obtain ⟨hcv, hfv⟩ := bcell hbv
      have hyv := hbv.size
      (try simp at hyv)
      have gv := fun o => hcv wr.heap.size o (by simp)
      (try simp [go_sem] at gv)
      have hwv : wr.heap.size < w2.heap.size := by omega
      have hbw2 : b < w2.heap.size := by omega
      have hww2 : w.heap.size < w2.heap.size := by omega
      go_wp2_with fail
      refine (HT.out _).mono ?_
      rintro e w' ⟨rfl, rfl⟩
      go_wp2_with fail
      go_ret
      go_light
      refine ⟨ret_bool (bf_no HN.out), ?_⟩
      refine ((Below.alloc (Below.refl w.heap.size w) (Nat.le_refl _) _).trans (Below.mono hB.out (Nat.le_succ _))).trans (Below.mono (B := wr.heap.size) ?_ (Nat.le_of_lt hws))
      repeat (first | (with_reducible exact Below.refl _ _) | (with_reducible refine Bal ?_ _) | (with_reducible refine Below.drew ?_) | (with_reducible refine below_drewN ?_ _) | (with_reducible refine Bset ?_ ?_ _; focus (first | (with_reducible exact Nat.le_refl _) | (simp; done) | (simp; omega) | omega)) | (with_reducible refine Bt ?_ (by assumption)) | (with_reducible refine Bp (g := g) ?_ (by assumption) (by assumption)))
    by_cases t2 : (q k).c ≤ 99999
    rotate_left
    · have HN := Lib.hid (show ¬ BfOk y d n q from fun h => t2 (h.2.2.2 k hkn |>.2.1.2))
      rw [inB_f2 (by omega)] at ht
      have HT := Lib.hid ht
      clear ht
      obtain ⟨b, off, rfl, _, hb2, c0, c1, c2, c3, c4, c5, c6⟩ := Hd_at HR.out hkn
      have hbw : b < wr.heap.size := by omega
      go_wp2_with fail
      refine (HV.out _).mono ?_
      rintro e w2 ⟨rfl, hbv⟩
      obtain ⟨hcv, hfv⟩ := bcell hbv
      have hyv := hbv.size
      (try simp at hyv)
      have gv := fun o => hcv wr.heap.size o (by simp)
      (try simp [go_sem] at gv)
      have hwv : wr.heap.size < w2.heap.size := by omega
      have hbw2 : b < w2.heap.size := by omega
      have hww2 : w.heap.size < w2.heap.size := by omega
      go_wp2_with fail
      refine (HT.out _).mono ?_
      rintro e w' ⟨rfl, rfl⟩
      go_wp2_with fail
      go_ret
      go_light
      refine ⟨ret_bool (bf_no HN.out), ?_⟩
      refine ((Below.alloc (Below.refl w.heap.size w) (Nat.le_refl _) _).trans (Below.mono hB.out (Nat.le_succ _))).trans (Below.mono (B := wr.heap.size) ?_ (Nat.le_of_lt hws))
      repeat (first | (with_reducible exact Below.refl _ _) | (with_reducible refine Bal ?_ _) | (with_reducible refine Below.drew ?_) | (with_reducible refine below_drewN ?_ _) | (with_reducible refine Bset ?_ ?_ _; focus (first | (with_reducible exact Nat.le_refl _) | (simp; done) | (simp; omega) | omega)) | (with_reducible refine Bt ?_ (by assumption)) | (with_reducible refine Bp (g := g) ?_ (by assumption) (by assumption)))
    rw [inB_t t1 t2] at ht
    have HT := Lib.hid ht
    clear ht
    by_cases t3 : y ≤ (q k).p.w
    rotate_left
    · have HN := Lib.hid (show ¬ BfOk y d n q from fun h => t3 (h.2.2.2 k hkn).2.2.1)
      have t3x : (q k).p.w < y := by omega
      obtain ⟨b, off, rfl, _, hb2, c0, c1, c2, c3, c4, c5, c6⟩ := Hd_at HR.out hkn
      have hbw : b < wr.heap.size := by omega
      go_wp2_with fail
      refine (HV.out _).mono ?_
      rintro e w2 ⟨rfl, hbv⟩
      obtain ⟨hcv, hfv⟩ := bcell hbv
      have hyv := hbv.size
      (try simp at hyv)
      have gv := fun o => hcv wr.heap.size o (by simp)
      (try simp [go_sem] at gv)
      have hwv : wr.heap.size < w2.heap.size := by omega
      have hbw2 : b < w2.heap.size := by omega
      have hww2 : w.heap.size < w2.heap.size := by omega
      go_wp2_with fail
      refine (HT.out _).mono ?_
      rintro e w' ⟨rfl, rfl⟩
      go_wp2_with fail
      go_ret
      go_light
      refine ⟨ret_bool (bf_no HN.out), ?_⟩
      refine ((Below.alloc (Below.refl w.heap.size w) (Nat.le_refl _) _).trans (Below.mono hB.out (Nat.le_succ _))).trans (Below.mono (B := wr.heap.size) ?_ (Nat.le_of_lt hws))
      repeat (first | (with_reducible exact Below.refl _ _) | (with_reducible refine Bal ?_ _) | (with_reducible refine Below.drew ?_) | (with_reducible refine below_drewN ?_ _) | (with_reducible refine Bset ?_ ?_ _; focus (first | (with_reducible exact Nat.le_refl _) | (simp; done) | (simp; omega) | omega)) | (with_reducible refine Bt ?_ (by assumption)) | (with_reducible refine Bp (g := g) ?_ (by assumption) (by assumption)))
    have t3x : ¬ (q k).p.w < y := by omega
    rcases k with _ | j
    · skip
      obtain ⟨b, off, rfl, _, hb2, c0, c1, c2, c3, c4, c5, c6⟩ := Hd_at HR.out hkn
      have hbw : b < wr.heap.size := by omega
      simp only [Nat.zero_mul, Nat.add_zero] at c0 c1 c2 c3 c4 c5 c6
      go_wp2_with fail
      refine (HV.out _).mono ?_
      rintro e w2 ⟨rfl, hbv⟩
      obtain ⟨hcv, hfv⟩ := bcell hbv
      have hyv := hbv.size
      (try simp at hyv)
      have gv := fun o => hcv wr.heap.size o (by simp)
      (try simp [go_sem] at gv)
      have hwv : wr.heap.size < w2.heap.size := by omega
      have hbw2 : b < w2.heap.size := by omega
      have hww2 : w.heap.size < w2.heap.size := by omega
      go_wp2_with fail
      refine (HT.out _).mono ?_
      rintro e w' ⟨rfl, rfl⟩
      go_wp2_with fail
      refine wp_region_mixB (by kernel_rfl) (by kernel_rfl) ?_
      repeat (first
        | (refine mix_skip rfl ?_; have e0 : True := trivial; clear e0; refine mix_putK ?_; intro K hK; go_simp; refine hK _ ?_; clear hK K)
        | (refine mix_readE rfl rfl rfl ?_; apply Exists.intro; refine ⟨fun w' hb' => ?_, ?_⟩; (focus (obtain ⟨hc', hf'⟩ := Old.cells hb'; clear hb'; go_simp; try exact rfl)); have e0 : True := trivial; clear e0; refine mix_putK ?_; intro K hK; go_simp; refine hK _ ?_; clear hK K)
        | (refine mix_pureE rfl rfl ?_; apply Exists.intro; refine ⟨fun w' => ?_, ?_⟩; (focus (go_simp; try exact rfl)); have e0 : True := trivial; clear e0; refine mix_putK ?_; intro K hK; go_simp; refine hK _ ?_; clear hK K)
        | (refine mix_eff rfl rfl ?_; go_wp2_with (fail); refine then_mix rfl ?_ ?_; (first | (intro h; have h2 : false = true := h; cases h2) | (intro _; assumption) | (intro _; refine Old.mk ?_; repeat (first | (with_reducible exact Below.refl _ _) | (with_reducible refine Bal ?_ _) | (with_reducible refine Below.drew ?_) | (with_reducible refine below_drewN ?_ _) | (with_reducible refine Bset ?_ ?_ _; focus (first | (with_reducible exact Nat.le_refl _) | (simp; done) | (simp; omega) | omega)) | (with_reducible refine Bt ?_ (by assumption)) | (with_reducible refine Bp (g := g) ?_ (by assumption) (by assumption)))))))
      refine mix_nil ?_
      (try clear wj)
      go_wp2_with fail
      go_roundw
      case rel =>
        refine ⟨0 + 1, by omega, by go_num, Lib.hid (hA.out.succ hd ⟨t1, t2⟩ t3 (fun h => absurd h (by omega))), Lib.hid (hB.out.trans (Below.mono (B := wr.heap.size) ?_ hBs))⟩
        repeat (first | (with_reducible exact Below.refl _ _) | (with_reducible refine Bal ?_ _) | (with_reducible refine Below.drew ?_) | (with_reducible refine below_drewN ?_ _) | (with_reducible refine Bset ?_ ?_ _; focus (first | (with_reducible exact Nat.le_refl _) | (simp; done) | (simp; omega) | omega)) | (with_reducible refine Bt ?_ (by assumption)) | (with_reducible refine Bp (g := g) ?_ (by assumption) (by assumption)))
      case measure => simp [intOf]; omega
    by_cases h4 : (q j).p.w < (q (j + 1)).p.w
    rotate_left
    · have HN := Lib.hid (show ¬ BfOk y d n q from fun h => h4 (by have := (h.2.2.2 (j + 1) hkn).2.2.2 (by omega); simpa using this))
      have h4x : (q (j + 1)).p.w ≤ (q j).p.w := by omega
      obtain ⟨b, off, rfl, _, hb2, c0, c1, c2, c3, c4, c5, c6⟩ := Hd_at HR.out hkn
      obtain ⟨b', off', hAe, _, _, d0, _⟩ := Hd_at HR.out (show j < n by omega)
      cases hAe
      have wj : IntKind.i64.wrap (j : Int) = (j : Int) := IntWalk.i64_in _ (by omega)
      have hjn : j < n := by omega
      have hbw : b < wr.heap.size := by omega
      go_wp2_with fail
      refine (HV.out _).mono ?_
      rintro e w2 ⟨rfl, hbv⟩
      obtain ⟨hcv, hfv⟩ := bcell hbv
      have hyv := hbv.size
      (try simp at hyv)
      have gv := fun o => hcv wr.heap.size o (by simp)
      (try simp [go_sem] at gv)
      have hwv : wr.heap.size < w2.heap.size := by omega
      have hbw2 : b < w2.heap.size := by omega
      have hww2 : w.heap.size < w2.heap.size := by omega
      go_wp2_with fail
      refine (HT.out _).mono ?_
      rintro e w' ⟨rfl, rfl⟩
      go_wp2_with fail
      refine wp_region_mixB (by kernel_rfl) (by kernel_rfl) ?_
      repeat (first
        | (refine mix_skip rfl ?_; have e0 : True := trivial; clear e0; refine mix_putK ?_; intro K hK; go_simp; refine hK _ ?_; clear hK K)
        | (refine mix_readE rfl rfl rfl ?_; apply Exists.intro; refine ⟨fun w' hb' => ?_, ?_⟩; (focus (obtain ⟨hc', hf'⟩ := Old.cells hb'; clear hb'; go_simp; try exact rfl)); have e0 : True := trivial; clear e0; refine mix_putK ?_; intro K hK; go_simp; refine hK _ ?_; clear hK K)
        | (refine mix_pureE rfl rfl ?_; apply Exists.intro; refine ⟨fun w' => ?_, ?_⟩; (focus (go_simp; try exact rfl)); have e0 : True := trivial; clear e0; refine mix_putK ?_; intro K hK; go_simp; refine hK _ ?_; clear hK K)
        | (refine mix_eff rfl rfl ?_; go_wp2_with (fail); refine then_mix rfl ?_ ?_; (first | (intro h; have h2 : false = true := h; cases h2) | (intro _; assumption) | (intro _; refine Old.mk ?_; repeat (first | (with_reducible exact Below.refl _ _) | (with_reducible refine Bal ?_ _) | (with_reducible refine Below.drew ?_) | (with_reducible refine below_drewN ?_ _) | (with_reducible refine Bset ?_ ?_ _; focus (first | (with_reducible exact Nat.le_refl _) | (simp; done) | (simp; omega) | omega)) | (with_reducible refine Bt ?_ (by assumption)) | (with_reducible refine Bp (g := g) ?_ (by assumption) (by assumption)))))))
      refine mix_nil ?_
      (try clear wj)
      go_wp2_with fail
      go_ret
      go_light
      refine ⟨ret_bool (bf_no HN.out), ?_⟩
      refine ((Below.alloc (Below.refl w.heap.size w) (Nat.le_refl _) _).trans (Below.mono hB.out (Nat.le_succ _))).trans (Below.mono (B := wr.heap.size) ?_ (Nat.le_of_lt hws))
      repeat (first | (with_reducible exact Below.refl _ _) | (with_reducible refine Bal ?_ _) | (with_reducible refine Below.drew ?_) | (with_reducible refine below_drewN ?_ _) | (with_reducible refine Bset ?_ ?_ _; focus (first | (with_reducible exact Nat.le_refl _) | (simp; done) | (simp; omega) | omega)) | (with_reducible refine Bt ?_ (by assumption)) | (with_reducible refine Bp (g := g) ?_ (by assumption) (by assumption)))
    have h4x : ¬ (q (j + 1)).p.w ≤ (q j).p.w := by omega
    obtain ⟨b, off, rfl, _, hb2, c0, c1, c2, c3, c4, c5, c6⟩ := Hd_at HR.out hkn
    obtain ⟨b', off', hAe, _, _, d0, _⟩ := Hd_at HR.out (show j < n by omega)
    cases hAe
    have wj : IntKind.i64.wrap (j : Int) = (j : Int) := IntWalk.i64_in _ (by omega)
    have hjn : j < n := by omega
    have hbw : b < wr.heap.size := by omega
    go_wp2_with fail
    refine (HV.out _).mono ?_
    rintro e w2 ⟨rfl, hbv⟩
    obtain ⟨hcv, hfv⟩ := bcell hbv
    have hyv := hbv.size
    (try simp at hyv)
    have gv := fun o => hcv wr.heap.size o (by simp)
    (try simp [go_sem] at gv)
    have hwv : wr.heap.size < w2.heap.size := by omega
    have hbw2 : b < w2.heap.size := by omega
    have hww2 : w.heap.size < w2.heap.size := by omega
    go_wp2_with fail
    refine (HT.out _).mono ?_
    rintro e w' ⟨rfl, rfl⟩
    go_wp2_with fail
    refine wp_region_mixB (by kernel_rfl) (by kernel_rfl) ?_
    repeat (first
      | (refine mix_skip rfl ?_; have e0 : True := trivial; clear e0; refine mix_putK ?_; intro K hK; go_simp; refine hK _ ?_; clear hK K)
      | (refine mix_readE rfl rfl rfl ?_; apply Exists.intro; refine ⟨fun w' hb' => ?_, ?_⟩; (focus (obtain ⟨hc', hf'⟩ := Old.cells hb'; clear hb'; go_simp; try exact rfl)); have e0 : True := trivial; clear e0; refine mix_putK ?_; intro K hK; go_simp; refine hK _ ?_; clear hK K)
      | (refine mix_pureE rfl rfl ?_; apply Exists.intro; refine ⟨fun w' => ?_, ?_⟩; (focus (go_simp; try exact rfl)); have e0 : True := trivial; clear e0; refine mix_putK ?_; intro K hK; go_simp; refine hK _ ?_; clear hK K)
      | (refine mix_eff rfl rfl ?_; go_wp2_with (fail); refine then_mix rfl ?_ ?_; (first | (intro h; have h2 : false = true := h; cases h2) | (intro _; assumption) | (intro _; refine Old.mk ?_; repeat (first | (with_reducible exact Below.refl _ _) | (with_reducible refine Bal ?_ _) | (with_reducible refine Below.drew ?_) | (with_reducible refine below_drewN ?_ _) | (with_reducible refine Bset ?_ ?_ _; focus (first | (with_reducible exact Nat.le_refl _) | (simp; done) | (simp; omega) | omega)) | (with_reducible refine Bt ?_ (by assumption)) | (with_reducible refine Bp (g := g) ?_ (by assumption) (by assumption)))))))
    refine mix_nil ?_
    (try clear wj)
    go_wp2_with fail
    go_roundw
    case rel =>
      refine ⟨j + 1 + 1, by omega, by go_num, Lib.hid (hA.out.succ hd ⟨t1, t2⟩ t3 (fun _ => h4)), Lib.hid (hB.out.trans (Below.mono (B := wr.heap.size) ?_ hBs))⟩
      repeat (first | (with_reducible exact Below.refl _ _) | (with_reducible refine Bal ?_ _) | (with_reducible refine Below.drew ?_) | (with_reducible refine below_drewN ?_ _) | (with_reducible refine Bset ?_ ?_ _; focus (first | (with_reducible exact Nat.le_refl _) | (simp; done) | (simp; omega) | omega)) | (with_reducible refine Bt ?_ (by assumption)) | (with_reducible refine Bp (g := g) ?_ (by assumption) (by assumption)))
    case measure => simp [intOf]; omega
end Go.Proofs.Ytegdogamenoaiaa
