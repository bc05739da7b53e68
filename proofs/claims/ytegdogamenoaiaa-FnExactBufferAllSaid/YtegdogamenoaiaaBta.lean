/- A buffer: what is taken (printed by gen_bta.py). -/
import Derived.Test.YtegdogamenoaiaaBup
namespace Go.Proofs.Ytegdogamenoaiaa
open Go Go.RowKit
set_option linter.unusedVariables false
set_option linter.unusedSimpArgs false
theorem exc_cells {X : Nat → Prop} {W w1 : World} (hb : Exc X W w1) : (∀ b o, b < W.heap.size → ¬ X b → w1.cell? ⟨b, o, none⟩ = W.cell? ⟨b, o, none⟩) ∧ (∀ b o, b < W.heap.size → ¬ X b → w1.frozen? ⟨b, o, none⟩ = W.frozen? ⟨b, o, none⟩) :=
  ⟨fun b o h h1 => hb.cell h h1, fun b o h h1 => hb.frozen h h1⟩
theorem Exc.wider {X Y : Nat → Prop} {w w' : World} (h : Exc X w w') (hX : ∀ k, X k → Y k) : Exc Y w w' := ⟨h.os, h.tape, h.output, h.size, fun k hk hy => h.block k hk (fun hx => hy (hX k hx))⟩
theorem HP.pred {m : Nat} {r : Nat → Nat} (h : HP m r) : HP m (fun k => r k - 1) := fun k h1 h2 => by
  have := h k h1 h2
  show r ((k - 1) / 2) - 1 ≤ r k - 1
  omega
theorem Cov.pred {m : Nat} {r : Nat → Nat} (h : Cov 1 (m + 1) m r) : Cov 0 m m (fun k => r k - 1) := by
  refine ⟨fun k hk => ⟨Nat.zero_le _, ?_⟩, fun v _ hv => ?_, fun k l hk hl e => ?_⟩
  · have := h.lo k hk
    show r k - 1 < m
    omega
  · obtain ⟨k, hk, e⟩ := h.all (v + 1) (by omega) (by omega)
    exact ⟨k, hk, by show r k - 1 = v; omega⟩
  · have h1 := (h.lo k hk).1
    have h2 := (h.lo l hl).1
    have e2 : r k - 1 = r l - 1 := e
    exact h.inj k l hk hl (by omega)
def sucQ (q : Nat → Hd) : Nat → Hd := fun i => q (i + 1)
theorem EAsc.suc {m : Nat} {q : Nat → Hd} (h : EAsc (m + 1) q) : EAsc m (sucQ q) := fun a b hab hb => h (a + 1) (b + 1) (by omega) (by omega)
theorem suc_pred {m k : Nat} {q : Nat → Hd} {r : Nat → Nat} (h : Cov 1 (m + 1) m r) (hk : k < m) : q (r k) = sucQ q (r k - 1) := by
  have := (h.lo k hk).1
  unfold sucQ
  rw [show r k - 1 + 1 = r k by omega]
def tkOk (y d : Int) (n : Nat) (q : Nat → Hd) (now : Int) : Prop := BfOk y d n q ∧ (0 ≤ now ∧ now ≤ 100998) ∧ 0 < n ∧ ((q 0).p.w = y ∨ d ≤ now - (q 0).c)
instance (y d : Int) (n : Nat) (q : Nat → Hd) (now : Int) : Decidable (tkOk y d n q now) := inferInstanceAs (Decidable (_ ∧ _ ∧ _ ∧ _))
def TakeRet (y d : Int) (n : Nat) (q : Nat → Hd) (now : Int) (w : World) (e : Ending) (w' : World) : Prop :=
  (¬ tkOk y d n q now ∧ e = .returned (.tuple #[.agg #[.int .i64 0, .int .i64 0, .slice none 0 0], PkV Pk0, .bool false]) ∧ Below w.heap.size w w') ∨
  (tkOk y d n q now ∧ ∃ A c, e = .returned (.tuple #[.agg #[.int .i64 ((q 0).p.w + 1), .int .i64 d, .slice A (n - 1) c], PkV (q 0).p, .bool true]) ∧
    RowOwn 54 w' w.heap.size w'.heap.size A (n - 1) c 7 (HdF (sucQ q)) ∧ Below w.heap.size w w')
set_option maxRecDepth 100000 in
set_option maxHeartbeats 16000000 in
theorem ibk_any (w : World) (lo hi : Nat) (A : Option Addr) (n c : Nat) (y d now : Int) (q : Nat → Hd) (h : RowAt w lo hi A n 7 (HdF q)) (hi' : hi ≤ w.heap.size) (hn : n ≤ 1048576) :
    Calls Try.prog 19 #[.agg #[.int .i64 y, .int .i64 d, .slice A n c], .int .i64 now] w (TakeRet y d n q now w) := by
  have hv := fun W (hb : Below w.heap.size w W) => ibv_any W lo hi A n c y d q (h.below hi' hb) (Nat.le_trans hi' hb.size) hn
  have ht := fun W : World => takeV_any now W
  have H := Lib.hid h
  clear h
  by_cases hO : BfOk y d n q
  rotate_left
  · rw [show bfB y d n q = false from decide_eq_false hO] at hv
    have HV := Lib.hid hv
    have HK := Lib.hid (show ¬ tkOk y d n q now from fun h => hO h.1)
    clear hv ht hO
    go_enter Try.func19, Try.ntmps19
    go_wp2_with fail
    refine (HV.out _ ?_).mono ?_
    focus (repeat (first | (with_reducible exact Below.refl _ _) | (with_reducible refine Bal ?_ _) | (with_reducible refine Below.drew ?_) | (with_reducible refine below_drewN ?_ _) | (with_reducible refine Bset ?_ ?_ _; focus (first | (with_reducible exact Nat.le_refl _) | (simp; done) | (simp; omega) | omega)) | (with_reducible refine Bt ?_ (by assumption)) | (with_reducible refine Bp (g := g) ?_ (by assumption) (by assumption))))
    rintro e w1 ⟨rfl, hb1⟩
    obtain ⟨hc1, hf1⟩ := bcell hb1
    have hy1 := hb1.size
    try simp at hy1
    have hg1_0 := fun o => hc1 (w.heap.size) o (by first | (simp; done) | (simp; omega) | omega)
    try simp [go_sem] at hg1_0
    have hg1_1 := fun o => hc1 (w.heap.size + 1) o (by first | (simp; done) | (simp; omega) | omega)
    try simp [go_sem] at hg1_1
    have hg1_2 := fun o => hc1 (w.heap.size + 1 + 1) o (by first | (simp; done) | (simp; omega) | omega)
    try simp [go_sem] at hg1_2
    have hk1_1 := fun o => hf1 (w.heap.size + 1) o (by first | (simp; done) | (simp; omega) | omega)
    try simp [go_sem] at hk1_1
    have hk1_2 := fun o => hf1 (w.heap.size + 1 + 1) o (by first | (simp; done) | (simp; omega) | omega)
    try simp [go_sem] at hk1_2
    have hp1_0 : w.heap.size < w1.heap.size := by omega
    have hp1_1 : w.heap.size + 1 < w1.heap.size := by omega
    have hp1_2 : w.heap.size + 1 + 1 < w1.heap.size := by omega
    go_wp2_with fail
    refine bodyPost_ret (v := .tuple #[.agg #[.int .i64 0, .int .i64 0, .slice none 0 0], .agg #[.int .i64 0, .int .i64 0, .int .i64 0, .int .i64 0, .bool false, .bool false], .bool false]) ?_ rfl ?_
    · simp only [results, Try.results19]
      go_simp
    refine Or.inl ⟨HK.out, rfl, ?_⟩
    repeat (first | (with_reducible exact Below.refl _ _) | (with_reducible refine Bal ?_ _) | (with_reducible refine Below.drew ?_) | (with_reducible refine below_drewN ?_ _) | (with_reducible refine Bset ?_ ?_ _; focus (first | (with_reducible exact Nat.le_refl _) | (simp; done) | (simp; omega) | omega)) | (with_reducible refine Bt ?_ (by assumption)) | (with_reducible refine Bp (g := g) ?_ (by assumption) (by assumption)))
  rw [show bfB y d n q = true from decide_eq_true hO] at hv
  have HV := Lib.hid hv
  clear hv
  by_cases hT : 0 ≤ now ∧ now ≤ 100998
  rotate_left
  · rw [show inB now 0 100998 = false by (unfold inB; simp; omega)] at ht
    have HT := Lib.hid ht
    have HK := Lib.hid (show ¬ tkOk y d n q now from fun h => hT h.2.1)
    clear ht hO hT
    go_enter Try.func19, Try.ntmps19
    go_wp2_with fail
    refine (HV.out _ ?_).mono ?_
    focus (repeat (first | (with_reducible exact Below.refl _ _) | (with_reducible refine Bal ?_ _) | (with_reducible refine Below.drew ?_) | (with_reducible refine below_drewN ?_ _) | (with_reducible refine Bset ?_ ?_ _; focus (first | (with_reducible exact Nat.le_refl _) | (simp; done) | (simp; omega) | omega)) | (with_reducible refine Bt ?_ (by assumption)) | (with_reducible refine Bp (g := g) ?_ (by assumption) (by assumption))))
    rintro e w1 ⟨rfl, hb1⟩
    obtain ⟨hc1, hf1⟩ := bcell hb1
    have hy1 := hb1.size
    try simp at hy1
    have hg1_0 := fun o => hc1 (w.heap.size) o (by first | (simp; done) | (simp; omega) | omega)
    try simp [go_sem] at hg1_0
    have hg1_1 := fun o => hc1 (w.heap.size + 1) o (by first | (simp; done) | (simp; omega) | omega)
    try simp [go_sem] at hg1_1
    have hg1_2 := fun o => hc1 (w.heap.size + 1 + 1) o (by first | (simp; done) | (simp; omega) | omega)
    try simp [go_sem] at hg1_2
    have hk1_1 := fun o => hf1 (w.heap.size + 1) o (by first | (simp; done) | (simp; omega) | omega)
    try simp [go_sem] at hk1_1
    have hk1_2 := fun o => hf1 (w.heap.size + 1 + 1) o (by first | (simp; done) | (simp; omega) | omega)
    try simp [go_sem] at hk1_2
    have hp1_0 : w.heap.size < w1.heap.size := by omega
    have hp1_1 : w.heap.size + 1 < w1.heap.size := by omega
    have hp1_2 : w.heap.size + 1 + 1 < w1.heap.size := by omega
    go_wp2_with fail
    refine (HT.out _).mono ?_
    rintro e w' ⟨rfl, rfl⟩
    go_wp2_with fail
    refine bodyPost_ret (v := .tuple #[.agg #[.int .i64 0, .int .i64 0, .slice none 0 0], .agg #[.int .i64 0, .int .i64 0, .int .i64 0, .int .i64 0, .bool false, .bool false], .bool false]) ?_ rfl ?_
    · simp only [results, Try.results19]
      go_simp
    refine Or.inl ⟨HK.out, rfl, ?_⟩
    repeat (first | (with_reducible exact Below.refl _ _) | (with_reducible refine Bal ?_ _) | (with_reducible refine Below.drew ?_) | (with_reducible refine below_drewN ?_ _) | (with_reducible refine Bset ?_ ?_ _; focus (first | (with_reducible exact Nat.le_refl _) | (simp; done) | (simp; omega) | omega)) | (with_reducible refine Bt ?_ (by assumption)) | (with_reducible refine Bp (g := g) ?_ (by assumption) (by assumption)))
  rw [inB_t hT.1 hT.2] at ht
  have HT := Lib.hid ht
  clear ht
  by_cases hn0 : n = 0
  · subst hn0
    have HK := Lib.hid (show ¬ tkOk y d 0 q now from fun h => absurd h.2.2.1 (by omega))
    clear hO hT
    go_enter Try.func19, Try.ntmps19
    go_wp2_with fail
    refine (HV.out _ ?_).mono ?_
    focus (repeat (first | (with_reducible exact Below.refl _ _) | (with_reducible refine Bal ?_ _) | (with_reducible refine Below.drew ?_) | (with_reducible refine below_drewN ?_ _) | (with_reducible refine Bset ?_ ?_ _; focus (first | (with_reducible exact Nat.le_refl _) | (simp; done) | (simp; omega) | omega)) | (with_reducible refine Bt ?_ (by assumption)) | (with_reducible refine Bp (g := g) ?_ (by assumption) (by assumption))))
    rintro e w1 ⟨rfl, hb1⟩
    obtain ⟨hc1, hf1⟩ := bcell hb1
    have hy1 := hb1.size
    try simp at hy1
    have hg1_0 := fun o => hc1 (w.heap.size) o (by first | (simp; done) | (simp; omega) | omega)
    try simp [go_sem] at hg1_0
    have hg1_1 := fun o => hc1 (w.heap.size + 1) o (by first | (simp; done) | (simp; omega) | omega)
    try simp [go_sem] at hg1_1
    have hg1_2 := fun o => hc1 (w.heap.size + 1 + 1) o (by first | (simp; done) | (simp; omega) | omega)
    try simp [go_sem] at hg1_2
    have hk1_1 := fun o => hf1 (w.heap.size + 1) o (by first | (simp; done) | (simp; omega) | omega)
    try simp [go_sem] at hk1_1
    have hk1_2 := fun o => hf1 (w.heap.size + 1 + 1) o (by first | (simp; done) | (simp; omega) | omega)
    try simp [go_sem] at hk1_2
    have hp1_0 : w.heap.size < w1.heap.size := by omega
    have hp1_1 : w.heap.size + 1 < w1.heap.size := by omega
    have hp1_2 : w.heap.size + 1 + 1 < w1.heap.size := by omega
    go_wp2_with fail
    refine (HT.out _).mono ?_
    rintro e w' ⟨rfl, rfl⟩
    go_wp2_with fail
    refine wp_region_mixB (by kernel_rfl) (by kernel_rfl) ?_
    repeat (first
      | (refine mix_skip rfl ?_; have e0 : True := trivial; clear e0; refine mix_putK ?_; intro K hK; go_simp; refine hK _ ?_; clear hK K)
      | (refine mix_readE rfl rfl rfl ?_; apply Exists.intro; refine ⟨fun w' hb' => ?_, ?_⟩; (focus (obtain ⟨hc', hf'⟩ := Old.cells hb'; clear hb'; go_simp; try exact rfl)); have e0 : True := trivial; clear e0; refine mix_putK ?_; intro K hK; go_simp; refine hK _ ?_; clear hK K)
      | (refine mix_pureE rfl rfl ?_; apply Exists.intro; refine ⟨fun w' => ?_, ?_⟩; (focus (go_simp; try exact rfl)); have e0 : True := trivial; clear e0; refine mix_putK ?_; intro K hK; go_simp; refine hK _ ?_; clear hK K)
      | (refine mix_eff rfl rfl ?_; go_wp2_with (fail); refine then_mix rfl ?_ ?_; (first | (intro h; have h2 : false = true := h; cases h2) | (intro _; assumption) | (intro _; refine Old.mk ?_; repeat (first | (with_reducible exact Below.refl _ _) | (with_reducible refine Bal ?_ _) | (with_reducible refine Below.drew ?_) | (with_reducible refine below_drewN ?_ _) | (with_reducible refine Bset ?_ ?_ _; focus (first | (with_reducible exact Nat.le_refl _) | (simp; done) | (simp; omega) | omega)) | (with_reducible refine Bt ?_ (by assumption)) | (with_reducible refine Bp (g := g) ?_ (by assumption) (by assumption)))))))
    refine mix_nil ?_
    go_wp2_with fail
    refine bodyPost_ret (v := .tuple #[.agg #[.int .i64 0, .int .i64 0, .slice none 0 0], .agg #[.int .i64 0, .int .i64 0, .int .i64 0, .int .i64 0, .bool false, .bool false], .bool false]) ?_ rfl ?_
    · simp only [results, Try.results19]
      go_simp
    refine Or.inl ⟨HK.out, rfl, ?_⟩
    repeat (first | (with_reducible exact Below.refl _ _) | (with_reducible refine Bal ?_ _) | (with_reducible refine Below.drew ?_) | (with_reducible refine below_drewN ?_ _) | (with_reducible refine Bset ?_ ?_ _; focus (first | (with_reducible exact Nat.le_refl _) | (simp; done) | (simp; omega) | omega)) | (with_reducible refine Bt ?_ (by assumption)) | (with_reducible refine Bp (g := g) ?_ (by assumption) (by assumption)))
  obtain ⟨m, rfl⟩ : ∃ m, n = m + 1 := ⟨n - 1, by omega⟩
  have hd := fun W : World => due_any W y d now A (m + 1) c (q 0) (hO.2.2.2 0 (by omega)).2.1 hT
  have hnz : ((m : Int) + 1 == 0) = false := by simp; omega
  by_cases hD : (q 0).p.w = y ∨ d ≤ now - (q 0).c
  rotate_left
  · rw [show dueB y d (q 0) now = false from decide_eq_false hD] at hd
    have HD := Lib.hid hd
    have HK := Lib.hid (show ¬ tkOk y d (m + 1) q now from fun h => hD h.2.2.2)
    obtain ⟨b, off, rfl, _, hb2, c0, c1, c2, c3, c4, c5, c6⟩ := Hd_at H.out (show 0 < m + 1 by omega)
    simp only [Nat.zero_mul, Nat.add_zero] at c0 c1 c2 c3 c4 c5 c6
    have hbw : b < w.heap.size := by omega
    have hm10 : m + 1 ≤ 10 := hO.2.2.1
    clear hd hO hT hD
    go_enter Try.func19, Try.ntmps19
    go_wp2_with fail
    refine (HV.out _ ?_).mono ?_
    focus (repeat (first | (with_reducible exact Below.refl _ _) | (with_reducible refine Bal ?_ _) | (with_reducible refine Below.drew ?_) | (with_reducible refine below_drewN ?_ _) | (with_reducible refine Bset ?_ ?_ _; focus (first | (with_reducible exact Nat.le_refl _) | (simp; done) | (simp; omega) | omega)) | (with_reducible refine Bt ?_ (by assumption)) | (with_reducible refine Bp (g := g) ?_ (by assumption) (by assumption))))
    rintro e w1 ⟨rfl, hb1⟩
    obtain ⟨hc1, hf1⟩ := bcell hb1
    have hy1 := hb1.size
    try simp at hy1
    have hg1_0 := fun o => hc1 (w.heap.size) o (by first | (simp; done) | (simp; omega) | omega)
    try simp [go_sem] at hg1_0
    have hg1_1 := fun o => hc1 (w.heap.size + 1) o (by first | (simp; done) | (simp; omega) | omega)
    try simp [go_sem] at hg1_1
    have hg1_2 := fun o => hc1 (w.heap.size + 1 + 1) o (by first | (simp; done) | (simp; omega) | omega)
    try simp [go_sem] at hg1_2
    have hk1_1 := fun o => hf1 (w.heap.size + 1) o (by first | (simp; done) | (simp; omega) | omega)
    try simp [go_sem] at hk1_1
    have hk1_2 := fun o => hf1 (w.heap.size + 1 + 1) o (by first | (simp; done) | (simp; omega) | omega)
    try simp [go_sem] at hk1_2
    have hp1_0 : w.heap.size < w1.heap.size := by omega
    have hp1_1 : w.heap.size + 1 < w1.heap.size := by omega
    have hp1_2 : w.heap.size + 1 + 1 < w1.heap.size := by omega
    have hpb : b < w1.heap.size := by omega
    have hgb := fun o => hc1 b o (by first | (simp; done) | (simp; omega) | omega)
    have hba : ¬ b = w.heap.size := by omega
    have hbb : ¬ b = w.heap.size + 1 := by omega
    have hbc : ¬ b = w.heap.size + 1 + 1 := by omega
    have hbd : b < w.heap.size + 1 := by omega
    have hbe : b < w.heap.size + 1 + 1 := by omega
    try simp [go_sem, hbw, hba, hbb, hbc, hbd, hbe] at hgb
    go_wp2_with fail
    refine (HT.out _).mono ?_
    rintro e w' ⟨rfl, rfl⟩
    go_wp2_with fail
    refine wp_region_mixB (by kernel_rfl) (by kernel_rfl) ?_
    repeat (first
      | (refine mix_skip rfl ?_; have e0 : True := trivial; clear e0; refine mix_putK ?_; intro K hK; go_simp; refine hK _ ?_; clear hK K)
      | (refine mix_readE rfl rfl rfl ?_; apply Exists.intro; refine ⟨fun w' hb' => ?_, ?_⟩; (focus (obtain ⟨hc', hf'⟩ := Old.cells hb'; clear hb'; go_simp; try exact rfl)); have e0 : True := trivial; clear e0; refine mix_putK ?_; intro K hK; go_simp; refine hK _ ?_; clear hK K)
      | (refine mix_pureE rfl rfl ?_; apply Exists.intro; refine ⟨fun w' => ?_, ?_⟩; (focus (go_simp; try exact rfl)); have e0 : True := trivial; clear e0; refine mix_putK ?_; intro K hK; go_simp; refine hK _ ?_; clear hK K)
      | (refine mix_eff rfl rfl ?_; go_wp2_with ((go_at_call 46; refine (HD.out _).mono ?_; rintro e w2 ⟨rfl, hbv⟩)); refine then_mix rfl ?_ ?_; (first | (intro h; have h2 : false = true := h; cases h2) | (intro _; assumption) | (intro _; refine Old.mk ?_; repeat (first | (with_reducible exact Below.refl _ _) | (with_reducible refine Bal ?_ _) | (with_reducible refine Below.drew ?_) | (with_reducible refine below_drewN ?_ _) | (with_reducible refine Bset ?_ ?_ _; focus (first | (with_reducible exact Nat.le_refl _) | (simp; done) | (simp; omega) | omega)) | (with_reducible refine Bt ?_ (by assumption)) | (with_reducible refine Bp (g := g) ?_ (by assumption) (by assumption)))))))
    refine mix_nil ?_
    have hbw2 : Below w1.heap.size w1 w2 := Below.trans (Below.drew (Below.refl _ _)) hbv
    obtain ⟨hc2, hf2⟩ := below_cells hbw2
    have hg2_0 := fun o => hc2 (w.heap.size) o (by omega)
    try simp [go_sem] at hg2_0
    have hg2_1 := fun o => hc2 (w.heap.size + 1) o (by omega)
    try simp [go_sem] at hg2_1
    have hg2_2 := fun o => hc2 (w.heap.size + 1 + 1) o (by omega)
    try simp [go_sem] at hg2_2
    have hk2_1 := fun o => hf2 (w.heap.size + 1) o (by omega)
    try simp [go_sem] at hk2_1
    have hk2_2 := fun o => hf2 (w.heap.size + 1 + 1) o (by omega)
    try simp [go_sem] at hk2_2
    go_wp2_with fail
    refine bodyPost_ret (v := .tuple #[.agg #[.int .i64 0, .int .i64 0, .slice none 0 0], .agg #[.int .i64 0, .int .i64 0, .int .i64 0, .int .i64 0, .bool false, .bool false], .bool false]) ?_ rfl ?_
    · simp only [results, Try.results19]
      go_simp
    refine Or.inl ⟨HK.out, rfl, ?_⟩
    repeat (first | (with_reducible exact Below.refl _ _) | (with_reducible refine Bal ?_ _) | (with_reducible refine Below.drew ?_) | (with_reducible refine below_drewN ?_ _) | (with_reducible refine Bset ?_ ?_ _; focus (first | (with_reducible exact Nat.le_refl _) | (simp; done) | (simp; omega) | omega)) | (with_reducible refine Bt ?_ (by assumption)) | (with_reducible refine Bp (g := g) ?_ (by assumption) (by assumption)))
  rw [show dueB y d (q 0) now = true from decide_eq_true hD] at hd
  have HD := Lib.hid hd
  have HK := Lib.hid (show tkOk y d (m + 1) q now from ⟨hO, hT, by omega, hD⟩)
  have HA := Lib.hid hO.2.2.2.asc
  have hwd := (hO.2.2.2 0 (by omega)).1.1
  have wr1 : IntKind.i64.wrap ((q 0).p.w + 1) = (q 0).p.w + 1 := IntWalk.i64_in _ (by omega)
  have hm10 : m + 1 ≤ 10 := hO.2.2.1
  obtain ⟨b, off, rfl, _, hb2, c0, c1, c2, c3, c4, c5, c6⟩ := Hd_at H.out (show 0 < m + 1 by omega)
  simp only [Nat.zero_mul, Nat.add_zero] at c0 c1 c2 c3 c4 c5 c6
  have hbw : b < w.heap.size := by omega
  clear hd hO hT hD
  go_enter Try.func19, Try.ntmps19
  go_wp2_with fail
  refine (HV.out _ ?_).mono ?_
  focus (repeat (first | (with_reducible exact Below.refl _ _) | (with_reducible refine Bal ?_ _) | (with_reducible refine Below.drew ?_) | (with_reducible refine below_drewN ?_ _) | (with_reducible refine Bset ?_ ?_ _; focus (first | (with_reducible exact Nat.le_refl _) | (simp; done) | (simp; omega) | omega)) | (with_reducible refine Bt ?_ (by assumption)) | (with_reducible refine Bp (g := g) ?_ (by assumption) (by assumption))))
  rintro e w1 ⟨rfl, hb1⟩
  obtain ⟨hc1, hf1⟩ := bcell hb1
  have hy1 := hb1.size
  try simp at hy1
  have hg1_0 := fun o => hc1 (w.heap.size) o (by first | (simp; done) | (simp; omega) | omega)
  try simp [go_sem] at hg1_0
  have hg1_1 := fun o => hc1 (w.heap.size + 1) o (by first | (simp; done) | (simp; omega) | omega)
  try simp [go_sem] at hg1_1
  have hg1_2 := fun o => hc1 (w.heap.size + 1 + 1) o (by first | (simp; done) | (simp; omega) | omega)
  try simp [go_sem] at hg1_2
  have hk1_1 := fun o => hf1 (w.heap.size + 1) o (by first | (simp; done) | (simp; omega) | omega)
  try simp [go_sem] at hk1_1
  have hk1_2 := fun o => hf1 (w.heap.size + 1 + 1) o (by first | (simp; done) | (simp; omega) | omega)
  try simp [go_sem] at hk1_2
  have hp1_0 : w.heap.size < w1.heap.size := by omega
  have hp1_1 : w.heap.size + 1 < w1.heap.size := by omega
  have hp1_2 : w.heap.size + 1 + 1 < w1.heap.size := by omega
  have hpb : b < w1.heap.size := by omega
  have hgb := fun o => hc1 b o (by first | (simp; done) | (simp; omega) | omega)
  have hba : ¬ b = w.heap.size := by omega
  have hbb : ¬ b = w.heap.size + 1 := by omega
  have hbc : ¬ b = w.heap.size + 1 + 1 := by omega
  have hbd : b < w.heap.size + 1 := by omega
  have hbe : b < w.heap.size + 1 + 1 := by omega
  try simp [go_sem, hbw, hba, hbb, hbc, hbd, hbe] at hgb
  go_wp2_with fail
  refine (HT.out _).mono ?_
  rintro e w' ⟨rfl, rfl⟩
  go_wp2_with fail
  refine wp_region_mixB (by kernel_rfl) (by kernel_rfl) ?_
  repeat (first
    | (refine mix_skip rfl ?_; have e0 : True := trivial; clear e0; refine mix_putK ?_; intro K hK; go_simp; refine hK _ ?_; clear hK K)
    | (refine mix_readE rfl rfl rfl ?_; apply Exists.intro; refine ⟨fun w' hb' => ?_, ?_⟩; (focus (obtain ⟨hc', hf'⟩ := Old.cells hb'; clear hb'; go_simp; try exact rfl)); have e0 : True := trivial; clear e0; refine mix_putK ?_; intro K hK; go_simp; refine hK _ ?_; clear hK K)
    | (refine mix_pureE rfl rfl ?_; apply Exists.intro; refine ⟨fun w' => ?_, ?_⟩; (focus (go_simp; try exact rfl)); have e0 : True := trivial; clear e0; refine mix_putK ?_; intro K hK; go_simp; refine hK _ ?_; clear hK K)
    | (refine mix_eff rfl rfl ?_; go_wp2_with ((go_at_call 46; refine (HD.out _).mono ?_; rintro e w2 ⟨rfl, hbv⟩)); refine then_mix rfl ?_ ?_; (first | (intro h; have h2 : false = true := h; cases h2) | (intro _; assumption) | (intro _; refine Old.mk ?_; repeat (first | (with_reducible exact Below.refl _ _) | (with_reducible refine Bal ?_ _) | (with_reducible refine Below.drew ?_) | (with_reducible refine below_drewN ?_ _) | (with_reducible refine Bset ?_ ?_ _; focus (first | (with_reducible exact Nat.le_refl _) | (simp; done) | (simp; omega) | omega)) | (with_reducible refine Bt ?_ (by assumption)) | (with_reducible refine Bp (g := g) ?_ (by assumption) (by assumption)))))))
  refine mix_nil ?_
  have hbw2 : Below w1.heap.size w1 w2 := Below.trans (Below.drew (Below.refl _ _)) hbv
  clear hbv c0 c1 c2 c3 c4 c5 c6
  have hb2x := hb2
  clear hb2
  obtain ⟨hc2, hf2⟩ := below_cells hbw2
  have hy2 := hbw2.size
  have hg2_0 := fun o => hc2 (w.heap.size) o (by omega)
  try simp [go_sem] at hg2_0
  have hg2_1 := fun o => hc2 (w.heap.size + 1) o (by omega)
  try simp [go_sem] at hg2_1
  have hg2_2 := fun o => hc2 (w.heap.size + 1 + 1) o (by omega)
  try simp [go_sem] at hg2_2
  have hk2_1 := fun o => hf2 (w.heap.size + 1) o (by omega)
  try simp [go_sem] at hk2_1
  have hk2_2 := fun o => hf2 (w.heap.size + 1 + 1) o (by omega)
  try simp [go_sem] at hk2_2
  have hW1 : Below w.heap.size w w1 := by repeat (first | (with_reducible exact Below.refl _ _) | (with_reducible refine Bal ?_ _) | (with_reducible refine Below.drew ?_) | (with_reducible refine below_drewN ?_ _) | (with_reducible refine Bset ?_ ?_ _; focus (first | (with_reducible exact Nat.le_refl _) | (simp; done) | (simp; omega) | omega)) | (with_reducible refine Bt ?_ (by assumption)) | (with_reducible refine Bp (g := g) ?_ (by assumption) (by assumption)))
  have HW2 := Lib.hid (Bt hW1 hbw2)
  have hz2 := HW2.out.size
  clear hW1
  go_wp2_with fail
  refine (nhh_any _ (lo := lo) (hi := hi) (n := m + 1) (ca := c) (e := q) ?_ ?_ (by omega) HA.out).mono ?_
  focus (exact H.out.below hi' HW2.out)
  focus (omega)
  rintro e w3 ⟨HB, g, c3, r, rfl, hPr, hCr, hSt, hb3⟩
  obtain ⟨hc3, hf3⟩ := bcell hb3
  have hy3 := hb3.size
  try simp at hy3
  have hg3_0 := fun o => hc3 (w.heap.size) o (by first | (simp; done) | (simp; omega) | omega)
  try simp [go_sem] at hg3_0
  have hg3_1 := fun o => hc3 (w.heap.size + 1) o (by first | (simp; done) | (simp; omega) | omega)
  try simp [go_sem] at hg3_1
  have hg3_2 := fun o => hc3 (w.heap.size + 1 + 1) o (by first | (simp; done) | (simp; omega) | omega)
  try simp [go_sem] at hg3_2
  have hk3_1 := fun o => hf3 (w.heap.size + 1) o (by first | (simp; done) | (simp; omega) | omega)
  try simp [go_sem] at hk3_1
  have hk3_2 := fun o => hf3 (w.heap.size + 1 + 1) o (by first | (simp; done) | (simp; omega) | omega)
  try simp [go_sem] at hk3_2
  have hHB := hSt.lo
  have hHg := hSt.g_lo
  have hHz := hSt.lt
  have hHy := hSt.g_lt
  have hcell := hSt.cell
  have HSt := Lib.hid hSt
  have HPr := Lib.hid hPr
  have HCr := Lib.hid hCr
  have HW3 := Lib.hid (HW2.out.trans (Below.mono hb3 (by omega)))
  have hr0 := hCr.root hPr (by omega)
  obtain ⟨a0, a1, a2, a3, a4, a5, a6⟩ := Hd_own hSt.row (show 0 < m + 1 by omega)
  simp only [hr0, Nat.zero_mul, Nat.zero_add] at a0 a1 a2 a3 a4 a5 a6
  clear hSt hPr hCr hr0
  have hq3_0 : w.heap.size < w3.heap.size := by omega
  have hq3_1 : w.heap.size + 1 < w3.heap.size := by omega
  have hq3_2 : w.heap.size + 1 + 1 < w3.heap.size := by omega
  go_wp2_with fail
  refine (drop_any _ (HSt.out.keep (by simp) (Below.heap_alloc _ _ _ hHz) (Below.heap_alloc _ _ _ hHy)) (by omega) HA.out HPr.out HCr.out).mono ?_
  rintro e w5 ⟨⟨v5, rfl⟩, r5, hP5, hC5, hS5, hE5⟩
  have hz5 := hE5.size
  simp at hz5
  have HSt5 := Lib.hid (hS5.congr fun k hk => suc_pred hC5 hk)
  have HP5 := Lib.hid hP5.pred
  have HC5 := Lib.hid (Cov.pred hC5)
  have HA5 := Lib.hid HA.out.suc
  have hn0_0 : ¬ w.heap.size = HB := by omega
  have hn0_1 : ¬ w.heap.size = g := by omega
  have hn1_0 : ¬ w.heap.size + 1 = HB := by omega
  have hn1_1 : ¬ w.heap.size + 1 = g := by omega
  have hn2_0 : ¬ w.heap.size + 1 + 1 = HB := by omega
  have hn2_1 : ¬ w.heap.size + 1 + 1 = g := by omega
  have hn3_0 : ¬ w3.heap.size = HB := by omega
  have hn3_1 : ¬ w3.heap.size = g := by omega
  have hn3_2 : ¬ w3.heap.size = w.heap.size + 1 := by omega
  obtain ⟨hc5, hf5⟩ := exc_cells hE5
  have hg5_0 := fun o => hc5 (w.heap.size) o (by first | (simp; done) | (simp; omega)) (fun h => by rcases h with h | h <;> omega)
  try simp [go_sem] at hg5_0
  have hg5_1 := fun o => hc5 (w.heap.size + 1) o (by first | (simp; done) | (simp; omega)) (fun h => by rcases h with h | h <;> omega)
  try simp [go_sem] at hg5_1
  have hg5_2 := fun o => hc5 (w.heap.size + 1 + 1) o (by first | (simp; done) | (simp; omega)) (fun h => by rcases h with h | h <;> omega)
  try simp [go_sem] at hg5_2
  have hg5_3 := fun o => hc5 (w3.heap.size) o (by first | (simp; done) | (simp; omega)) (fun h => by rcases h with h | h <;> omega)
  try simp [go_sem] at hg5_3
  have hk5_1 := fun o => hf5 (w.heap.size + 1) o (by first | (simp; done) | (simp; omega)) (fun h => by rcases h with h | h <;> omega)
  try simp [go_sem] at hk5_1
  have hk5_2 := fun o => hf5 (w.heap.size + 1 + 1) o (by first | (simp; done) | (simp; omega)) (fun h => by rcases h with h | h <;> omega)
  try simp [go_sem] at hk5_2
  have hq5_0 : w.heap.size < w5.heap.size := by omega
  have hq5_1 : w.heap.size + 1 < w5.heap.size := by omega
  have hq5_2 : w.heap.size + 1 + 1 < w5.heap.size := by omega
  have hq5_3 : w3.heap.size < w5.heap.size := by omega
  have HW5 := Lib.hid (show Below w.heap.size w w5 from (HW3.out.alloc (by omega) (.cells #[.int .i64 (q 0).p.w, .int .i64 (q 0).p.t, .int .i64 (q 0).p.l, .int .i64 (q 0).p.s, .bool (q 0).p.k, .bool (q 0).p.z] 30)).trans (Exc.below hE5 (fun k hk => by rcases hk with rfl | rfl <;> omega) (by simp; omega)))
  clear hP5 hC5 hS5 hE5
  go_upto_region 8 with fail
  refine wp_region_mix (Exc (fun k => k = HB ∨ k = g ∨ k = w.heap.size + 1) w5) (by kernel_rfl) (by kernel_rfl) (Exc.drew (Exc.refl _ _)) ?_
  repeat (first
    | (refine mix_skip rfl ?_; have e0 : True := trivial; clear e0; refine mix_putK ?_; intro K hK; go_simp; refine hK _ ?_; clear hK K)
    | (refine mix_readE rfl rfl rfl ?_; apply Exists.intro; refine ⟨fun w' hb' => ?_, ?_⟩; (focus (obtain ⟨hc', hf'⟩ := exc_cells hb'; clear hb'; go_simp; try exact rfl)); have e0 : True := trivial; clear e0; refine mix_putK ?_; intro K hK; go_simp; refine hK _ ?_; clear hK K)
    | (refine mix_pureE rfl rfl ?_; apply Exists.intro; refine ⟨fun w' => ?_, ?_⟩; (focus (first | (fail) | (go_simp; try exact rfl))); have e0 : True := trivial; clear e0; refine mix_putK ?_; intro K hK; go_simp; refine hK _ ?_; clear hK K)
    | (refine mix_eff rfl rfl ?_; go_wp2_with ((go_at_call 49; refine (ino_any _ (n := m) HSt5.out.drew (by omega) HA5.out HP5.out HC5.out).mono ?_; rintro e w7 ⟨A7, c7, rfl, hO7, hE7⟩; have hE7y : Exc (fun k => k = HB ∨ k = g) w5 w7 := Exc.trans (Exc.drew (Exc.refl _ _)) hE7; have hE7x : Exc (fun k => k = HB ∨ k = g ∨ k = w.heap.size + 1) w5 w7 := hE7y.wider (fun k h => h.elim Or.inl (fun h => Or.inr (Or.inl h))); obtain ⟨hc7, hf7⟩ := exc_cells hE7y; have hg7_0 := fun o => hc7 (w.heap.size) o hq5_0 (fun h => by rcases h with h | h <;> omega); (try simp [go_sem] at hg7_0); have hg7_1 := fun o => hc7 (w.heap.size + 1) o hq5_1 (fun h => by rcases h with h | h <;> omega); (try simp [go_sem] at hg7_1); have hg7_2 := fun o => hc7 (w.heap.size + 1 + 1) o hq5_2 (fun h => by rcases h with h | h <;> omega); (try simp [go_sem] at hg7_2); have hg7_3 := fun o => hc7 (w3.heap.size) o hq5_3 (fun h => by rcases h with h | h <;> omega); (try simp [go_sem] at hg7_3); have hk7_1 := fun o => hf7 (w.heap.size + 1) o hq5_1 (fun h => by rcases h with h | h <;> omega); (try simp [go_sem] at hk7_1); have hk7_2 := fun o => hf7 (w.heap.size + 1 + 1) o hq5_2 (fun h => by rcases h with h | h <;> omega); (try simp [go_sem] at hk7_2))); refine then_mix rfl ?_ ?_; (focus (first | (intro h; have h2 : false = true := h; cases h2) | (intro _; assumption) | (intro _; repeat (first | assumption | (with_reducible exact Exc.refl _ _) | (with_reducible refine Exc.drew ?_) | (with_reducible refine Exc.alloc ?_ _) | (with_reducible refine Exc.setC ?_ ?_ _; focus (simp))))))))
  refine mix_nil ?_
  go_wp2_with fail
  refine bodyPost_ret (v := .tuple #[.agg #[.int .i64 ((q 0).p.w + 1), .int .i64 d, .slice A7 m c7], .agg #[.int .i64 (q 0).p.w, .int .i64 (q 0).p.t, .int .i64 (q 0).p.l, .int .i64 (q 0).p.s, .bool (q 0).p.k, .bool (q 0).p.z], .bool true]) ?_ rfl ?_
  · simp only [results, Try.results19]
    go_simp
  have hO8 : RowOwn 54 w7 w5.heap.size w7.heap.size A7 m c7 7 (HdF (sucQ q)) := hO7
  have hz7 := hE7x.size
  have hW7 : Below w.heap.size w w7 := HW5.out.trans (hE7y.below (fun k hk => by rcases hk with rfl | rfl <;> omega) (by omega))
  refine Or.inr ⟨HK.out, A7, c7, rfl, ?_, ?_⟩
  · show RowOwn _ _ _ _ A7 m c7 7 _
    refine RowOwn.wide (lo := w5.heap.size) (hi := w7.heap.size) ?_ (by omega) (by first | omega | (simp; omega) | (simp; done))
    repeat (first | (with_reducible exact hO8) | (with_reducible refine RowOwn.drew ?_) | (refine RowOwn.setC (Or.inl ?_) ?_ _; focus (first | (simp; done) | (simp; omega) | omega)))
  · repeat (first | (with_reducible exact hW7) | (with_reducible refine Below.drew ?_) | (refine Bset ?_ ?_ _; focus (first | (simp; done) | (simp; omega) | omega)))
end Go.Proofs.Ytegdogamenoaiaa
