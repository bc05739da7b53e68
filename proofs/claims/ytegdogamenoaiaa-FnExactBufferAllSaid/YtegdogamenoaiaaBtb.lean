/- A buffer: what is taken, of the rule (printed by gen_btb.py). -/
import Derived.Test.YtegdogamenoaiaaBta
import Derived.Test.YtegdogamenoaiaaBuq
namespace Go.Proofs.Ytegdogamenoaiaa
open Go Go.RowKit
set_option linter.unusedVariables false
set_option linter.unusedSimpArgs false
theorem bt_neg {y d now : Int} {n : Nat} {q : Nat → Hd} (h : btI y d n q < 0) : ¬ tkOk y d n q now := by
  intro hk
  have h1 := hk.1.2.1
  have h2 := (hk.1.2.2.2 0 hk.2.2.1).2.1
  unfold btI at h
  rw [if_pos ⟨hk.1, hk.2.2.1⟩] at h
  split at h <;> omega
theorem bt_late {y d now : Int} {n : Nat} {q : Nat → Hd} (h : now < btI y d n q) : ¬ tkOk y d n q now := by
  intro hk
  have h1 := hk.1.2.1
  have h3 := hk.2.1
  have h4 := hk.2.2.2
  unfold btI at h
  rw [if_pos ⟨hk.1, hk.2.2.1⟩] at h
  split at h <;> omega
theorem bt_ok {y d now : Int} {n : Nat} {q : Nat → Hd} (h0 : 0 ≤ btI y d n q) (h : btI y d n q ≤ now) (hn : 0 ≤ now ∧ now ≤ 100998) : tkOk y d n q now := by
  unfold btI at h h0
  by_cases h1 : BfOk y d n q ∧ 0 < n
  · rw [if_pos h1] at h h0
    refine ⟨h1.1, hn, h1.2, ?_⟩
    split at h
    · left; assumption
    · right; omega
  · rw [if_neg h1] at h0; omega
theorem Exc.of_below {X : Nat → Prop} {B : Nat} {w w' : World} (h : Below B w w') (hB : ∀ k, k < w.heap.size → k < B ∨ X k) : Exc X w w' := ⟨h.os, h.tape, h.output, h.size, fun k hk hx => h.block k ((hB k hk).elim id (fun h => absurd h hx))⟩
theorem suc_hd {w : World} {e : TypeId} {lo hi n c : Nat} {A : Option Addr} {q : Nat → Hd} {f0 : Nat → Value} (h : RowOwn e w lo hi A n c 7 (catF (0 * 7) f0 fun j => HdF q (1 * 7 + j))) : RowOwn e w lo hi A n c 7 (HdF (sucQ q)) := by
  refine RowOwn.congr h fun j hj => ?_
  unfold catF
  rw [if_neg (by omega)]
  show HdC (q ((1 * 7 + (j - 0 * 7)) / 7)) ((1 * 7 + (j - 0 * 7)) % 7) = HdC (q (j / 7 + 1)) (j % 7)
  rw [show (1 * 7 + (j - 0 * 7)) / 7 = j / 7 + 1 by omega, show (1 * 7 + (j - 0 * 7)) % 7 = j % 7 by omega]
set_option maxRecDepth 100000 in
set_option maxHeartbeats 16000000 in
theorem sbk_any (w : World) (lo hi : Nat) (A : Option Addr) (n c : Nat) (y d now : Int) (q : Nat → Hd) (h : RowAt w lo hi A n 7 (HdF q)) (hi' : hi ≤ w.heap.size) (hn : n ≤ 1048576) (hnc : n ≤ c) :
    Calls Try.prog 17 #[.agg #[.int .i64 y, .int .i64 d, .slice A n c], .int .i64 now] w (TakeRet y d n q now w) := by
  obtain ⟨i0, q1, q2, q3, q4⟩ := info_parts info_hd
  have hv := fun W (hb : Below w.heap.size w W) => sbt_any W lo hi A n c y d q (h.below hi' hb) (Nat.le_trans hi' hb.size) hn
  have ht := fun W : World => l6In_any now 0 100998 W
  have H := Lib.hid h
  clear h
  obtain ⟨D, hD⟩ : ∃ D, btI y d n q = D := ⟨_, rfl⟩
  have HD := Lib.hid hD
  rw [hD] at hv
  have HV := Lib.hid hv
  clear hv hD
  by_cases h1 : D < 0
  · have HK := Lib.hid (show ¬ tkOk y d n q now from bt_neg (HD.out ▸ h1))
    clear ht
    go_enter Try.func17, Try.ntmps17
    go_wp2_with fail
    refine (HV.out _ ?_).mono ?_
    focus (repeat (first | (with_reducible exact Below.refl _ _) | (with_reducible refine Bal ?_ _) | (with_reducible refine Below.drew ?_) | (with_reducible refine below_drewN ?_ _) | (with_reducible refine Bset ?_ ?_ _; focus (first | (with_reducible exact Nat.le_refl _) | (simp; done) | (simp; omega) | omega)) | (with_reducible refine Bt ?_ (by assumption)) | (with_reducible refine Bp (g := g) ?_ (by assumption) (by assumption))))
    rintro e w1 ⟨rfl, hb1⟩
    obtain ⟨hc1, hf1⟩ := bcell hb1
    have hy1 := hb1.size
    try simp at hy1
    have hg1_0 := fun o => hc1 (w.heap.size) o (by first | (simp; done) | (simp; omega) | omega)
    try simp [go_sem] at hg1_0
    have hg1_1 := fun o => hc1 (w.heap.size + 1) o (by first | (simp; done) | (simp; omega) | omega)
    try simp [go_sem] at hg1_1
    have hg1_2 := fun o => hc1 (w.heap.size + 1 + 1) o (by first | (simp; done) | (simp; omega) | omega)
    try simp [go_sem] at hg1_2
    have hk1_1 := fun o => hf1 (w.heap.size + 1) o (by first | (simp; done) | (simp; omega) | omega)
    try simp [go_sem] at hk1_1
    have hk1_2 := fun o => hf1 (w.heap.size + 1 + 1) o (by first | (simp; done) | (simp; omega) | omega)
    try simp [go_sem] at hk1_2
    have hp1_0 : w.heap.size < w1.heap.size := by omega
    have hp1_1 : w.heap.size + 1 < w1.heap.size := by omega
    have hp1_2 : w.heap.size + 1 + 1 < w1.heap.size := by omega
    go_wp2_with fail
    refine bodyPost_ret (v := .tuple #[.agg #[.int .i64 0, .int .i64 0, .slice none 0 0], .agg #[.int .i64 0, .int .i64 0, .int .i64 0, .int .i64 0, .bool false, .bool false], .bool false]) ?_ rfl ?_
    · simp only [results, Try.results17]
      go_simp
    refine Or.inl ⟨HK.out, rfl, ?_⟩
    repeat (first | (with_reducible exact Below.refl _ _) | (with_reducible refine Bal ?_ _) | (with_reducible refine Below.drew ?_) | (with_reducible refine below_drewN ?_ _) | (with_reducible refine Bset ?_ ?_ _; focus (first | (with_reducible exact Nat.le_refl _) | (simp; done) | (simp; omega) | omega)) | (with_reducible refine Bt ?_ (by assumption)) | (with_reducible refine Bp (g := g) ?_ (by assumption) (by assumption)))
  have h1x : 0 ≤ D := by omega
  by_cases h2 : now < D
  · have HK := Lib.hid (show ¬ tkOk y d n q now from bt_late (HD.out ▸ h2))
    clear ht
    go_enter Try.func17, Try.ntmps17
    go_wp2_with fail
    refine (HV.out _ ?_).mono ?_
    focus (repeat (first | (with_reducible exact Below.refl _ _) | (with_reducible refine Bal ?_ _) | (with_reducible refine Below.drew ?_) | (with_reducible refine below_drewN ?_ _) | (with_reducible refine Bset ?_ ?_ _; focus (first | (with_reducible exact Nat.le_refl _) | (simp; done) | (simp; omega) | omega)) | (with_reducible refine Bt ?_ (by assumption)) | (with_reducible refine Bp (g := g) ?_ (by assumption) (by assumption))))
    rintro e w1 ⟨rfl, hb1⟩
    obtain ⟨hc1, hf1⟩ := bcell hb1
    have hy1 := hb1.size
    try simp at hy1
    have hg1_0 := fun o => hc1 (w.heap.size) o (by first | (simp; done) | (simp; omega) | omega)
    try simp [go_sem] at hg1_0
    have hg1_1 := fun o => hc1 (w.heap.size + 1) o (by first | (simp; done) | (simp; omega) | omega)
    try simp [go_sem] at hg1_1
    have hg1_2 := fun o => hc1 (w.heap.size + 1 + 1) o (by first | (simp; done) | (simp; omega) | omega)
    try simp [go_sem] at hg1_2
    have hk1_1 := fun o => hf1 (w.heap.size + 1) o (by first | (simp; done) | (simp; omega) | omega)
    try simp [go_sem] at hk1_1
    have hk1_2 := fun o => hf1 (w.heap.size + 1 + 1) o (by first | (simp; done) | (simp; omega) | omega)
    try simp [go_sem] at hk1_2
    have hp1_0 : w.heap.size < w1.heap.size := by omega
    have hp1_1 : w.heap.size + 1 < w1.heap.size := by omega
    have hp1_2 : w.heap.size + 1 + 1 < w1.heap.size := by omega
    go_wp2_with fail
    refine bodyPost_ret (v := .tuple #[.agg #[.int .i64 0, .int .i64 0, .slice none 0 0], .agg #[.int .i64 0, .int .i64 0, .int .i64 0, .int .i64 0, .bool false, .bool false], .bool false]) ?_ rfl ?_
    · simp only [results, Try.results17]
      go_simp
    refine Or.inl ⟨HK.out, rfl, ?_⟩
    repeat (first | (with_reducible exact Below.refl _ _) | (with_reducible refine Bal ?_ _) | (with_reducible refine Below.drew ?_) | (with_reducible refine below_drewN ?_ _) | (with_reducible refine Bset ?_ ?_ _; focus (first | (with_reducible exact Nat.le_refl _) | (simp; done) | (simp; omega) | omega)) | (with_reducible refine Bt ?_ (by assumption)) | (with_reducible refine Bp (g := g) ?_ (by assumption) (by assumption)))
  have h2x : D ≤ now := by omega
  by_cases hT : now ≤ 100998
  rotate_left
  · rw [show inB now 0 100998 = false by (unfold inB; simp; omega)] at ht
    have HT := Lib.hid ht
    have HK := Lib.hid (show ¬ tkOk y d n q now from fun h => hT h.2.1.2)
    clear ht hT
    go_enter Try.func17, Try.ntmps17
    go_wp2_with fail
    refine (HV.out _ ?_).mono ?_
    focus (repeat (first | (with_reducible exact Below.refl _ _) | (with_reducible refine Bal ?_ _) | (with_reducible refine Below.drew ?_) | (with_reducible refine below_drewN ?_ _) | (with_reducible refine Bset ?_ ?_ _; focus (first | (with_reducible exact Nat.le_refl _) | (simp; done) | (simp; omega) | omega)) | (with_reducible refine Bt ?_ (by assumption)) | (with_reducible refine Bp (g := g) ?_ (by assumption) (by assumption))))
    rintro e w1 ⟨rfl, hb1⟩
    obtain ⟨hc1, hf1⟩ := bcell hb1
    have hy1 := hb1.size
    try simp at hy1
    have hg1_0 := fun o => hc1 (w.heap.size) o (by first | (simp; done) | (simp; omega) | omega)
    try simp [go_sem] at hg1_0
    have hg1_1 := fun o => hc1 (w.heap.size + 1) o (by first | (simp; done) | (simp; omega) | omega)
    try simp [go_sem] at hg1_1
    have hg1_2 := fun o => hc1 (w.heap.size + 1 + 1) o (by first | (simp; done) | (simp; omega) | omega)
    try simp [go_sem] at hg1_2
    have hk1_1 := fun o => hf1 (w.heap.size + 1) o (by first | (simp; done) | (simp; omega) | omega)
    try simp [go_sem] at hk1_1
    have hk1_2 := fun o => hf1 (w.heap.size + 1 + 1) o (by first | (simp; done) | (simp; omega) | omega)
    try simp [go_sem] at hk1_2
    have hp1_0 : w.heap.size < w1.heap.size := by omega
    have hp1_1 : w.heap.size + 1 < w1.heap.size := by omega
    have hp1_2 : w.heap.size + 1 + 1 < w1.heap.size := by omega
    go_wp2_with fail
    refine (HT.out _).mono ?_
    rintro e w' ⟨rfl, rfl⟩
    go_wp2_with fail
    refine bodyPost_ret (v := .tuple #[.agg #[.int .i64 0, .int .i64 0, .slice none 0 0], .agg #[.int .i64 0, .int .i64 0, .int .i64 0, .int .i64 0, .bool false, .bool false], .bool false]) ?_ rfl ?_
    · simp only [results, Try.results17]
      go_simp
    refine Or.inl ⟨HK.out, rfl, ?_⟩
    repeat (first | (with_reducible exact Below.refl _ _) | (with_reducible refine Bal ?_ _) | (with_reducible refine Below.drew ?_) | (with_reducible refine below_drewN ?_ _) | (with_reducible refine Bset ?_ ?_ _; focus (first | (with_reducible exact Nat.le_refl _) | (simp; done) | (simp; omega) | omega)) | (with_reducible refine Bt ?_ (by assumption)) | (with_reducible refine Bp (g := g) ?_ (by assumption) (by assumption)))
  rw [inB_t (by omega) hT] at ht
  have HT := Lib.hid ht
  clear ht
  have HK := Lib.hid (show tkOk y d n q now from bt_ok (HD.out ▸ h1x) (HD.out ▸ h2x) ⟨by omega, hT⟩)
  obtain ⟨m, rfl⟩ : ∃ m, n = m + 1 := ⟨n - 1, by have := HK.out.2.2.1; omega⟩
  have hwd := (HK.out.1.2.2.2 0 (by omega)).1.1
  have wr1 : IntKind.i64.wrap ((q 0).p.w + 1) = (q 0).p.w + 1 := IntWalk.i64_in _ (by omega)
  have hm10 : m + 1 ≤ 10 := HK.out.1.2.2.1
  obtain ⟨b, off, rfl, _, hb2, c0, c1, c2, c3, c4, c5, c6⟩ := Hd_at H.out (show 0 < m + 1 by omega)
  simp only [Nat.zero_mul, Nat.add_zero] at c0 c1 c2 c3 c4 c5 c6
  have hbw : b < w.heap.size := by omega
  go_enter Try.func17, Try.ntmps17
  go_wp2_with fail
  refine (HV.out _ ?_).mono ?_
  focus (repeat (first | (with_reducible exact Below.refl _ _) | (with_reducible refine Bal ?_ _) | (with_reducible refine Below.drew ?_) | (with_reducible refine below_drewN ?_ _) | (with_reducible refine Bset ?_ ?_ _; focus (first | (with_reducible exact Nat.le_refl _) | (simp; done) | (simp; omega) | omega)) | (with_reducible refine Bt ?_ (by assumption)) | (with_reducible refine Bp (g := g) ?_ (by assumption) (by assumption))))
  rintro e w1 ⟨rfl, hb1⟩
  obtain ⟨hc1, hf1⟩ := bcell hb1
  have hy1 := hb1.size
  try simp at hy1
  have hg1_0 := fun o => hc1 (w.heap.size) o (by first | (simp; done) | (simp; omega) | omega)
  try simp [go_sem] at hg1_0
  have hg1_1 := fun o => hc1 (w.heap.size + 1) o (by first | (simp; done) | (simp; omega) | omega)
  try simp [go_sem] at hg1_1
  have hg1_2 := fun o => hc1 (w.heap.size + 1 + 1) o (by first | (simp; done) | (simp; omega) | omega)
  try simp [go_sem] at hg1_2
  have hk1_1 := fun o => hf1 (w.heap.size + 1) o (by first | (simp; done) | (simp; omega) | omega)
  try simp [go_sem] at hk1_1
  have hk1_2 := fun o => hf1 (w.heap.size + 1 + 1) o (by first | (simp; done) | (simp; omega) | omega)
  try simp [go_sem] at hk1_2
  have hp1_0 : w.heap.size < w1.heap.size := by omega
  have hp1_1 : w.heap.size + 1 < w1.heap.size := by omega
  have hp1_2 : w.heap.size + 1 + 1 < w1.heap.size := by omega
  have hpb : b < w1.heap.size := by omega
  have hgb := fun o => hc1 b o (by first | (simp; done) | (simp; omega) | omega)
  have hba : ¬ b = w.heap.size := by omega
  have hbb : ¬ b = w.heap.size + 1 := by omega
  have hbc : ¬ b = w.heap.size + 1 + 1 := by omega
  have hbd : b < w.heap.size + 1 := by omega
  have hbe : b < w.heap.size + 1 + 1 := by omega
  try simp [go_sem, hbw, hba, hbb, hbc, hbd, hbe] at hgb
  go_wp2_with fail
  refine (HT.out _).mono ?_
  rintro e w' ⟨rfl, rfl⟩
  have hW1 : Below w.heap.size w w1 := by repeat (first | (with_reducible exact Below.refl _ _) | (with_reducible refine Bal ?_ _) | (with_reducible refine Below.drew ?_) | (with_reducible refine below_drewN ?_ _) | (with_reducible refine Bset ?_ ?_ _; focus (first | (with_reducible exact Nat.le_refl _) | (simp; done) | (simp; omega) | omega)) | (with_reducible refine Bt ?_ (by assumption)) | (with_reducible refine Bp (g := g) ?_ (by assumption) (by assumption)))
  have HW1 := Lib.hid hW1
  clear hW1
  go_upto_region 5 with fail
  generalize hwb : w1.alloc (.cells #[.int .i64 (q 0).p.w, .int .i64 (q 0).p.t, .int .i64 (q 0).p.l, .int .i64 (q 0).p.s, .bool (q 0).p.k, .bool (q 0).p.z] 30) = wb
  have hbb1 : Below w1.heap.size w1 wb := by rw [← hwb]; exact Ba _ _
  have hzb : wb.heap.size = w1.heap.size + 1 := by rw [← hwb]; simp
  have hgb_0 : ∀ o : Nat, wb.cell? ⟨w.heap.size, o, none⟩ = ([.int .i64 y, .int .i64 d, .slice (some ⟨b, off, none⟩) (m + 1) c] : List Value)[o]? := fun o => ((below_cells hbb1).1 _ o (by omega)).trans (by go_simp; try rfl)
  have hgb_1 : ∀ o : Nat, wb.cell? ⟨w.heap.size + 1, o, none⟩ = ([.int .i64 0, .int .i64 0, .slice none 0 0] : List Value)[o]? := fun o => ((below_cells hbb1).1 _ o (by omega)).trans (by go_simp; try rfl)
  have hgb_2 : ∀ o : Nat, wb.cell? ⟨w.heap.size + 1 + 1, o, none⟩ = ([.int .i64 0, .int .i64 0, .int .i64 0, .int .i64 0, .bool false, .bool false] : List Value)[o]? := fun o => ((below_cells hbb1).1 _ o (by omega)).trans (by go_simp; try rfl)
  have hgb_3 : ∀ o : Nat, wb.cell? ⟨w1.heap.size, o, none⟩ = ([.int .i64 (q 0).p.w, .int .i64 (q 0).p.t, .int .i64 (q 0).p.l, .int .i64 (q 0).p.s, .bool (q 0).p.k, .bool (q 0).p.z] : List Value)[o]? := fun o => by rw [← hwb]; simp [go_sem]
  have hkb_1 : ∀ o : Nat, wb.frozen? ⟨w.heap.size + 1, o, none⟩ = false := fun o => ((below_cells hbb1).2 _ o (by omega)).trans (by go_simp; try rfl)
  have hkb_2 : ∀ o : Nat, wb.frozen? ⟨w.heap.size + 1 + 1, o, none⟩ = false := fun o => ((below_cells hbb1).2 _ o (by omega)).trans (by go_simp; try rfl)
  have hqb_0 : w.heap.size < wb.heap.size := by omega
  have hqb_1 : w.heap.size + 1 < wb.heap.size := by omega
  have hqb_2 : w.heap.size + 1 + 1 < wb.heap.size := by omega
  have hqb_3 : w1.heap.size < wb.heap.size := by omega
  have hn0 : ¬ w1.heap.size = w.heap.size + 1 := by omega
  have HRb := Lib.hid (H.out.below hi' (HW1.out.trans (Below.mono hbb1 (by omega))))
  have HWb := Lib.hid (HW1.out.trans (Below.mono hbb1 (by omega)))
  clear hwb hzb hg1_0 hg1_1 hg1_2 hk1_1 hk1_2 hc1 hf1 hgb c0 c1 c2 c3 c4 c5 c6
  refine wp_region_mix (Exc (fun k => k = w.heap.size + 1) wb) (by kernel_rfl) (by kernel_rfl) (Exc.drew (Exc.refl _ _)) ?_
  repeat (first
    | (refine mix_skip rfl ?_; have e0 : True := trivial; clear e0; refine mix_putK ?_; intro K hK; go_simp; refine hK _ ?_; clear hK K)
    | (refine mix_readE rfl rfl rfl ?_; apply Exists.intro; refine ⟨fun w' hb' => ?_, ?_⟩; (focus (obtain ⟨hc', hf'⟩ := exc_cells hb'; clear hb'; go_simp; try exact rfl)); have e0 : True := trivial; clear e0; refine mix_putK ?_; intro K hK; go_simp; refine hK _ ?_; clear hK K)
    | (refine mix_pureE rfl rfl ?_; apply Exists.intro; refine ⟨fun w' => ?_, ?_⟩; (focus (first | (exact exec_from (k := 1) (.tmp 37) (.const (.int .i64 1)) rfl rfl rfl Try.underlying26 q1 q3 (by omega) hnc) | (go_simp; try exact rfl))); have e0 : True := trivial; clear e0; refine mix_putK ?_; intro K hK; go_simp; refine hK _ ?_; clear hK K)
    | (refine mix_eff rfl rfl ?_; go_wp2_with ((at_builtin; go_loud ((refine wpList_rowAppendN _ rfl (.tmp 35) (.tmp 38) _ rfl 54 i0 _ 7 48 Try.underlying26 q1 q2 q3 q4 rfl (by decide) wb.heap.size (wb.heap.size + 1) _ 0 0 (HdF q) rfl ?_ lo hi _ m (c - 1) (fun j => HdF q (1 * 7 + j)) rfl ?_ m (Nat.zero_add _) ?_ ?_ ?_ ?_ ?_); (focus (first | exact RowOwn.drew (empty_at wb _ wb.heap.size 7 _ rfl) | exact empty_at wb.drew _ wb.heap.size 7 _ rfl)); (focus (exact (HRb.out.below (B := wb.heap.size) (by omega) (by repeat (first | assumption | (with_reducible exact Below.refl _ _) | (exact below_undrew _ _) | (with_reducible refine Below.drew ?_) | (with_reducible refine Below.alloc ?_ (by first | exact Nat.le_refl _ | (simp; done) | (simp; omega) | omega) _) | (with_reducible refine Below.setCell ?_ (by first | exact Nat.le_refl _ | (simp; done) | (simp; omega) | omega) _)))).from (k := 1) (by omega) hnc)); (focus (intro j hj; exact hd_one _ _)); (focus (unfold maxLen; omega)); (focus (omega)); (focus (first | omega | (simp; done) | (simp; omega))); intro A4 c4 w4 hO4 hG4 hL4; have hO5 := suc_hd hO4; have hb4x : Below wb.heap.size _ w4 := Below.grown (Below.refl _ _) hG4 (by first | omega | (simp; done) | (simp; omega)) (by intro j hj; simp [Value.ownBlock] at hj; omega); have hb4 : Below wb.heap.size wb w4 := Below.trans (by repeat (first | assumption | (with_reducible exact Below.refl _ _) | (exact below_undrew _ _) | (with_reducible refine Below.drew ?_) | (with_reducible refine Below.alloc ?_ (by first | exact Nat.le_refl _ | (simp; done) | (simp; omega) | omega) _) | (with_reducible refine Below.setCell ?_ (by first | exact Nat.le_refl _ | (simp; done) | (simp; omega) | omega) _))) hb4x; have hE4 : Exc (fun k => k = w.heap.size + 1) wb w4 := Exc.of_below hb4 (fun k hk => Or.inl hk); have hz4 := hb4.size; obtain ⟨hc4, hf4⟩ := below_cells hb4; have hg4_0 := fun o => hc4 (w.heap.size) o (by omega); (try simp [go_sem] at hg4_0); have hg4_1 := fun o => hc4 (w.heap.size + 1) o (by omega); (try simp [go_sem] at hg4_1); have hg4_2 := fun o => hc4 (w.heap.size + 1 + 1) o (by omega); (try simp [go_sem] at hg4_2); have hg4_3 := fun o => hc4 (w1.heap.size) o (by omega); (try simp [go_sem] at hg4_3); have hk4_1 := fun o => hf4 (w.heap.size + 1) o (by omega); (try simp [go_sem] at hk4_1); have hk4_2 := fun o => hf4 (w.heap.size + 1 + 1) o (by omega); (try simp [go_sem] at hk4_2)))); refine then_mix rfl ?_ ?_; (focus (first | (intro h; have h2 : false = true := h; cases h2) | (intro _; assumption) | (intro _; repeat (first | assumption | (with_reducible exact Exc.refl _ _) | (with_reducible refine Exc.drew ?_) | (with_reducible refine Exc.alloc ?_ _) | (with_reducible refine Exc.setC ?_ ?_ _; focus (simp))))))))
  refine mix_nil ?_
  go_wp2_with fail
  refine bodyPost_ret (v := .tuple #[.agg #[.int .i64 ((q 0).p.w + 1), .int .i64 d, .slice A4 m c4], .agg #[.int .i64 (q 0).p.w, .int .i64 (q 0).p.t, .int .i64 (q 0).p.l, .int .i64 (q 0).p.s, .bool (q 0).p.k, .bool (q 0).p.z], .bool true]) ?_ rfl ?_
  · simp only [results, Try.results17]
    go_simp
  have hW4 := HWb.out.trans (Below.mono hb4 (by omega))
  refine Or.inr ⟨HK.out, A4, c4, rfl, ?_, ?_⟩
  · show RowOwn _ _ _ _ A4 m c4 7 _
    refine RowOwn.wide (lo := wb.heap.size) (hi := w4.heap.size) ?_ (by omega) (by first | omega | (simp; omega) | (simp; done))
    repeat (first | (with_reducible exact hO5) | (with_reducible refine RowOwn.drew ?_) | (refine RowOwn.setC (Or.inl ?_) ?_ _; focus (first | (simp; done) | (simp; omega) | omega)))
  · repeat (first | (with_reducible exact hW4) | (with_reducible refine Below.drew ?_) | (refine Bset ?_ ?_ _; focus (first | (simp; done) | (simp; omega) | omega)))
end Go.Proofs.Ytegdogamenoaiaa
