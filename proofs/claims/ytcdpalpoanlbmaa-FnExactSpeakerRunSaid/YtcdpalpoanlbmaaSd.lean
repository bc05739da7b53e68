/- The draw of a run of the speakers. -/
import Derived.Test.YtcdpalpoanlbmaaSj
import Derived.Test.YtcdpalpoanlbmaaSlr
import Derived.Test.YtcdpalpoanlbmaaDsl
namespace Go.Proofs.Ytcdpalpoanlbmaa
open Go Go.RowKit
set_option linter.unusedVariables false
set_option linter.unusedSimpArgs false
theorem cat0 (z : Nat → Int) (j : Nat) : (if j < 0 * 1 then intV (fun _ => 0) j else intV z (j - 0 * 1)) = intV z j := by rw [if_neg (by omega), Nat.zero_mul, Nat.sub_zero]
def ownS (s : Sr) : Option Nat := (srV s).ownBlock
/-- A matrix of the call's own. -/
structure MtO (lo : Nat) (B : Option Addr) (n c : Nat) (S : Nat → Sr) (wx : World) : Prop where
  row : RowOwn 25 wx lo wx.heap.size B n c 1 (srF S)
  hears : ∀ i, i < n → OwnI wx lo wx.heap.size (S i).A (S i).n (S i).c (S i).z
  dis : ∀ i, i < n → ∀ g, ownS (S i) = some g → (Value.slice B n c).ownBlock ≠ some g
theorem MtO.mtx {lo n c : Nat} {B : Option Addr} {S : Nat → Sr} {w : World} (h : MtO lo B n c S w) : Mtx w lo w.heap.size B n S := ⟨h.row.row, fun i hi => (h.hears i hi).ints⟩
theorem MtO.below {lo n c : Nat} {B : Option Addr} {S : Nat → Sr} {w w' : World} (h : MtO lo B n c S w) (hb : Below w.heap.size w w') : MtO lo B n c S w' :=
  ⟨(h.row.below (Nat.le_refl _) hb).wide (Nat.le_refl _) hb.size, fun i hi => ((h.hears i hi).below (Nat.le_refl _) hb).wide (Nat.le_refl _) hb.size, h.dis⟩
theorem MtO.past {g lo n c : Nat} {B : Option Addr} {S : Nat → Sr} {w w' : World} (hg : g < lo) (h : MtO lo B n c S w) (hp : Past g w.heap.size w w') : MtO lo B n c S w' :=
  ⟨(RowOwn.past hg (Nat.le_refl _) h.row hp).wide (Nat.le_refl _) hp.size, fun i hi => (RowOwn.past hg (Nat.le_refl _) (h.hears i hi) hp).wide (Nat.le_refl _) hp.size, h.dis⟩
theorem MtO.alloc {lo n c : Nat} {B : Option Addr} {S : Nat → Sr} {w : World} (h : MtO lo B n c S w) (o : Obj) : MtO lo B n c S (w.alloc o) := h.below (Ba _ _)
def snocS (S : Nat → Sr) (k : Nat) (x : Sr) : Nat → Sr := fun i => if i < k then S i else x
theorem MtO.snoc {lo m k cb cb2 : Nat} {B B2 : Option Addr} {S : Nat → Sr} {x : Sr} {w5 w7 : World} {f : Nat → Value} (h : MtO lo B k cb S w5) (hlo : lo ≤ m) (hm : ∀ g, (Value.slice B k cb).ownBlock = some g → g < m)
    (hA : OwnI w5 m w5.heap.size x.A x.n x.c x.z) (hg : w5.grownBy w7 (Value.slice B k cb).ownBlock) (hr : RowOwn 25 w7 lo w7.heap.size B2 (k + 1) cb2 1 (catF (k * 1) (srF S) f)) (hf : f 0 = srV x)
    (hL : (Value.slice B2 (k + 1) cb2).ownBlock = (Value.slice B k cb).ownBlock ∨ (Value.slice B2 (k + 1) cb2).ownBlock = some w5.heap.size) : MtO lo B2 (k + 1) cb2 (snocS S k x) w7 := by
  have hX : ∀ g, ownS x = some g → m ≤ g ∧ g < w5.heap.size := fun g hg => hA.1.lt g hg
  have hM : ∀ i, i < k → ∀ g, ownS (S i) = some g → g < w5.heap.size := fun i hi g hg => ((h.hears i hi).1.lt g hg).2
  refine ⟨RowOwn.congr hr fun j hj => ?_, fun i hi => ?_, fun i hi g hg e => ?_⟩
  · show (if j < k * 1 then srV (S j) else f (j - k * 1)) = srV (if j < k then S j else x)
    by_cases h1 : j < k
    · rw [if_pos h1, if_pos (by omega)]
    · rw [if_neg h1, if_neg (by omega), show j - k * 1 = 0 by omega, hf]
  · unfold snocS
    by_cases e : i < k
    · simp only [if_pos e]
      exact (RowOwn.apartS (fun g hg e2 => h.dis i e g e2 hg) (h.hears i e) hg).wide (Nat.le_refl _) hg.size
    · simp only [if_neg e]
      exact (RowOwn.apartS (fun g hg e2 => by have h1 := hm g hg; have h2 := (hX g e2).1; omega) hA hg).wide hlo hg.size
  · unfold snocS at hg
    by_cases h1 : i < k
    · rw [if_pos h1] at hg
      rcases hL with hl | hl
      · rw [hl] at e; exact h.dis i h1 g hg e
      · rw [hl] at e; cases e; have h2 := hM i h1 _ hg; omega
    · rw [if_neg h1] at hg
      have h2 := hX g hg
      rcases hL with hl | hl
      · rw [hl] at e; have h3 := hm g e; omega
      · rw [hl] at e; cases e; omega
/-- What the draw of a run leaves. -/
def MadeSr (w : World) (e : Ending) (w' : World) : Prop := ∃ B cb n S, Mtx w' w.heap.size w'.heap.size B n S ∧ n ≤ 21 ∧ (∀ i, i < n → (S i).n ≤ 4) ∧ e = .returned (.slice B n cb) ∧ Below w.heap.size w w'
theorem grown_belowS {w wr w5 w7 : World} {r : Option Nat} (h : Below w.heap.size w wr) (h5 : Below wr.heap.size wr w5) (hg : w5.grownBy w7 r) (hr : ∀ g, r = some g → w.heap.size ≤ g) : Below w.heap.size w w7 := by
  have h1 : Below w.heap.size w w5 := h.trans (h5.mono h.size)
  exact h1.trans ⟨hg.os, hg.tape, hg.output, hg.size, fun i hi => hg.block i (by have := h1.size; omega) (fun e => by have := hr i e.symm; omega)⟩
set_option maxRecDepth 100000 in
set_option maxHeartbeats 8000000 in
theorem draw_srun (w : World) (A : Option Addr) (n c : Nat) (h : IsInts .u8 w A n c) (hn : n ≤ 1048576) :
    Calls Try.prog 5 #[.slice A n c] w (MadeSr w) := by
  obtain ⟨i0, q1, q2, q3, q4⟩ := info_parts info_sr
  obtain ⟨i1, r1, r2, r3, r4⟩ := info_parts info_int
  have H := Lib.hid h
  clear h
  go_enter Try.func5, Try.ntmps5
  go_wp2_with fail
  refine (open_any _ A n c (H.out.below (by repeat (first | (with_reducible exact Below.refl _ _) | (with_reducible refine Bal ?_ _) | (with_reducible refine Below.drew ?_) | (with_reducible refine below_drewN ?_ _) | (with_reducible refine Bset ?_ ?_ _; focus (first | (with_reducible exact Nat.le_refl _) | (simp; done) | (simp; omega) | omega)) | (with_reducible refine Bt ?_ (by assumption)) | (with_reducible refine Bp (g := g) ?_ (by assumption) (by assumption))))) hn).mono ?_
  rintro e w0 ⟨g, rfl, hgo, hR0, hb0⟩
  obtain ⟨hc0, hf0⟩ := bcell hb0
  have hy0 := hb0.size
  try simp at hy0
  try simp at hgo
  have hgo2 : w.heap.size ≤ g := by omega
  have hgl := hR0.lt
  have HB0 := Lib.hid (show Below w.heap.size w w0 by repeat (first | (with_reducible exact Below.refl _ _) | (with_reducible refine Bal ?_ _) | (with_reducible refine Below.drew ?_) | (with_reducible refine below_drewN ?_ _) | (with_reducible refine Bset ?_ ?_ _; focus (first | (with_reducible exact Nat.le_refl _) | (simp; done) | (simp; omega) | omega)) | (with_reducible refine Bt ?_ (by assumption)) | (with_reducible refine Bp (g := g) ?_ (by assumption) (by assumption))))
  have hw0 := HB0.out.size
  have HR0 := Lib.hid (hR0.alloc (.cells #[] 25))
  clear hc0 hf0 hb0 hy0 hgo hR0
  go_wp2_with fail
  have hr := HR0.out
  refine (pk _ g (0) _ (by repeat (first | assumption | (with_reducible refine RdLe.drew ?_) | (with_reducible refine RdLe.drewN ?_ _) | (with_reducible refine RdLe.alloc ?_ _) | (with_reducible refine RdLe.setC ?_ ?_ _; focus (first | (simp; done) | (simp; omega) | omega)))) (by omega) (by omega) (by omega)).mono ?_
  rintro e w1 ⟨⟨v1, ⟨vl1, vh1⟩, rfl, hR1, hb1⟩, hs1⟩
  clear hr hs1
  obtain ⟨m1, rfl⟩ := Int.eq_ofNat_of_zero_le vl1
  have HR1 := Lib.hid hR1
  have HO1 := Lib.hid (show MtO w0.heap.size (some ⟨w0.heap.size, 0, none⟩) 0 0 (fun _ => Sr0) w1 from MtO.past hgl (show MtO w0.heap.size (some ⟨w0.heap.size, 0, none⟩) 0 0 (fun _ => Sr0) (w0.alloc (.cells #[] 25)) from ⟨(empty_row w0 25 1 _).wide (Nat.le_refl _) (by simp), fun i hi => absurd hi (by omega), fun i hi => absurd hi (by omega)⟩) hb1)
  have HP1 := Lib.hid (show Past g w0.heap.size w0 w1 from (Past.of (Ba w0 (.cells #[] 25))).trans (hb1.mono (by simp)))
  have hz1 := HP1.out.size
  clear hb1
  go_wp2_with fail
  have hr := HR1.out
  refine (pk _ g (0 + 1) _ (by repeat (first | assumption | (with_reducible refine RdLe.drew ?_) | (with_reducible refine RdLe.drewN ?_ _) | (with_reducible refine RdLe.alloc ?_ _) | (with_reducible refine RdLe.setC ?_ ?_ _; focus (first | (simp; done) | (simp; omega) | omega)))) (by omega) (by omega) (by omega)).mono ?_
  rintro e w2 ⟨⟨v2, ⟨vl2, vh2⟩, rfl, hR2, hb2⟩, hs2⟩
  clear hr hs2
  obtain ⟨m2, rfl⟩ := Int.eq_ofNat_of_zero_le vl2
  have HR2 := Lib.hid hR2
  have HO2 := Lib.hid (HO1.out.past hgl hb2)
  have HP2 := Lib.hid (HP1.out.trans (hb2.mono hz1))
  have hz2 := HP2.out.size
  clear hb2
  by_cases hm2 : m2 = 0
  · subst hm2
    have HO3 := Lib.hid (HO2.out.alloc (.cells #[.int .i64 0, .int .i64 20, .int .i64 21] 3))
    have HP3 := Lib.hid (HP2.out.alloc (Nat.le_refl _) (.cells #[.int .i64 0, .int .i64 20, .int .i64 21] 3))
    have HR3 := Lib.hid (HR2.out.alloc (.cells #[.int .i64 0, .int .i64 20, .int .i64 21] 3))
    have hz3 := HP3.out.size
    go_wp2_with fail
    have hr := HR3.out
    refine (pk _ g (0 + 1 + 1) _ (by repeat (first | assumption | (with_reducible refine RdLe.drew ?_) | (with_reducible refine RdLe.drewN ?_ _) | (with_reducible refine RdLe.alloc ?_ _) | (with_reducible refine RdLe.setC ?_ ?_ _; focus (first | (simp; done) | (simp; omega) | omega)))) (by omega) (by omega) (by omega)).mono ?_
    rintro e w4 ⟨⟨v4, ⟨vl4, vh4⟩, rfl, hR4, hb4⟩, hs4⟩
    clear hr hs4
    obtain ⟨m4, rfl⟩ := Int.eq_ofNat_of_zero_le vl4
    have HR4 := Lib.hid hR4
    obtain ⟨hc4, -⟩ := hb4.cells
    have hcl : ∀ R : Nat, (w2.alloc (.cells #[.int .i64 0, .int .i64 20, .int .i64 21] 3)).cell? ⟨w2.heap.size, m4, none⟩ = some (.int .i64 (R : Nat)) → w4.cell? ⟨w2.heap.size, m4, none⟩ = some (.int .i64 (R : Nat)) := fun R h => (hc4 _ _ (by simp) (by omega)).trans h
    obtain ⟨N, hN, hRc⟩ : ∃ N : Nat, N ≤ 21 ∧ w4.cell? ⟨w2.heap.size, m4, none⟩ = some (.int .i64 (N : Nat)) := by
      rcases (by omega : m4 = 0 ∨ m4 = 1 ∨ m4 = 2) with rfl | rfl | rfl
      · exact ⟨0, by omega, hcl 0 (by simp [go_sem])⟩
      · exact ⟨20, by omega, hcl 20 (by simp [go_sem])⟩
      · exact ⟨21, by omega, hcl 21 (by simp [go_sem])⟩
    clear hc4 hcl
    have HO4 := Lib.hid (HO3.out.past hgl hb4)
    have HP4 := Lib.hid (HP3.out.trans (hb4.mono hz3))
    have hz4 := HP4.out.size
    clear hb4
    go_wp2_with fail
    have hr := HR4.out
    refine (pk _ g (0 + 1 + 1 + 1) _ (by repeat (first | assumption | (with_reducible refine RdLe.drew ?_) | (with_reducible refine RdLe.drewN ?_ _) | (with_reducible refine RdLe.alloc ?_ _) | (with_reducible refine RdLe.setC ?_ ?_ _; focus (first | (simp; done) | (simp; omega) | omega)))) (by omega) (by omega) (by omega)).mono ?_
    rintro e w5 ⟨⟨v5, ⟨vl5, vh5⟩, rfl, hR5, hb5⟩, hs5⟩
    clear hr hs5
    obtain ⟨m5, rfl⟩ := Int.eq_ofNat_of_zero_le vl5
    have HR5 := Lib.hid hR5
    have HO5 := Lib.hid (HO4.out.past hgl hb5)
    have HP5 := Lib.hid (HP4.out.trans (hb5.mono hz4))
    have hz5 := HP5.out.size
    clear hb5
    go_wp2_with fail
    clear hRc
    obtain ⟨K, hKe⟩ : ∃ K : Nat, (2 + (m5 : Int)) = K := ⟨2 + m5, by omega⟩
    have hK4 : K ≤ 4 := by omega
    simp only [hKe]
    clear hKe
    have HO := Lib.hid HO5.out
    have HR := Lib.hid (HR5.out.mono (show 0 + 1 + 1 + 1 + 1 ≤ 4 by omega))
    have HB := Lib.hid (HB0.out.trans ((HP5.out.mono hw0).below hgo2))
    have hz := hz5
    clear HO1 HO2 HO3 HO4 HO5 HP1 HP2 HP3 HP4 HP5 HR2 HR3 HR4 HR5 hz1 hz2 hz3 hz4 hz5 HB0
    go_loopw [4, 7] (fun s i wr => ∃ (j : Nat) (B : Option Addr) (cb : Nat) (S : Nat → Sr), j ≤ N ∧ i = .int .i64 (j : Nat) ∧ s = .slice B j cb ∧ Hid (MtO w0.heap.size B j cb S wr) ∧ Hid (∀ q, q < j → (S q).n ≤ 4) ∧ Hid (RdLe wr g (4 + 9 * j)) ∧ Hid (Below w.heap.size w wr) ∧ w0.heap.size ≤ wr.heap.size) (fun _ i _ => N - (intOf i).toNat)
    case atStart => exact ⟨0, _, 0, _, Nat.zero_le _, rfl, rfl, HO, Lib.hid (fun q hq => absurd hq (by omega)), HR, HB, hz⟩
    clear HO HR HB hz
    case round =>
      obtain ⟨j, B, cb, S, hj, rfl, rfl, HO, HN, HR, HB, hz⟩ := hrel
      by_cases hjN : j < N
      rotate_left
      · obtain rfl : j = N := by omega
        go_wp2_with fail
        refine bodyPost_retE rfl ?_
        apply Exists.intro
        refine ⟨?_, ?_⟩
        · simp only [results, Try.results5]
          go_simp
          first | done | rfl
        go_light
        exact ⟨B, cb, j, S, HO.out.mtx.wide hw0 (Nat.le_refl _), hN, HN.out, rfl, HB.out⟩
      by_cases hj0 : j = 0
      · subst hj0
        go_wp2_with fail
        refine (loud_draw wr g (4 + 9 * 0) K (by have hr := HR.out; repeat (first | assumption | (with_reducible refine RdLe.drew ?_) | (with_reducible refine RdLe.drewN ?_ _) | (with_reducible refine RdLe.alloc ?_ _) | (with_reducible refine RdLe.setC ?_ ?_ _; focus (first | (simp; done) | (simp; omega) | omega)))) (by omega) (by omega)).mono ?_
        rintro e w3 ⟨A3, c3, z3, hO3, rfl, hR3, hb3⟩
        have HO3 := Lib.hid (HO.out.past hgl hb3)
        have HB3 := Lib.hid (HB.out.trans ((hb3.mono (Nat.le_trans hw0 hz)).below hgo2))
        have hz3 : w0.heap.size ≤ w3.heap.size := Nat.le_trans hz hb3.size
        have hX3 := Lib.hid (show ∀ g, (Value.slice B 0 cb).ownBlock = some g → g < wr.heap.size from fun g hg => (HO.out.row.1.lt g hg).2)
        have hA3 := Lib.hid hO3
        have HR3 := Lib.hid (hR3.mono (show 4 + 9 * 0 + 2 * K ≤ 4 + 9 * (0 + 1) by omega))
        clear hO3 hR3 hb3
        go_wp2_with (at_builtin; go_loud (refine wpList_rowAppendN _ rfl (.tmp 47) (.tmp 51) _ rfl 25 i0 _ 1 24 Try.underlying23 q1 q2 q3 q4 rfl (by decide) w0.heap.size _ B 0 cb (srF S) rfl (HO3.out.row.alloc _) _ _ _ 1 1 _ rfl (one_row _ _ _) (0 + 1) rfl ?_ (by unfold maxLen; omega) (by omega) (by simp; omega) ?_); (focus (intro i hi; (obtain rfl : i = 0 := by omega); rfl)); intro B6 cb6 w7 hO7 hG7 hL7)
        have HO7 := Lib.hid (MtO.snoc (x := ⟨A3, K, c3, z3⟩) (HO3.out.alloc _) hz hX3.out (OwnI.wide (OwnI.alloc hA3.out _) (Nat.le_refl _) (by simp)) hG7 hO7 rfl hL7)
        have HB7 := Lib.hid (grown_belowS HB3.out (Ba w3 _) hG7 (fun g hg => Nat.le_trans hw0 (HO3.out.row.1.lt g hg).1))
        have HR7 := Lib.hid ((RdLe.alloc HR3.out _).only (fun q hq => by have := (HO3.out.row.1.lt q hq).1; omega) hG7)
        have hz7 : w0.heap.size ≤ w7.heap.size := Nat.le_trans hz3 (Nat.le_trans (by simp) hG7.size)
        have HN7 := Lib.hid (show ∀ q, q < 0 + 1 → (snocS S 0 ⟨A3, K, c3, z3⟩ q).n ≤ 4 from fun q hq => by
          unfold snocS
          split
          · exact HN.out q ‹_›
          · exact hK4)
        clear HO3 HB3 HR3 hX3 hA3 hO7 hG7 hL7 hz3
        obtain ⟨J, hJ⟩ : ∃ J : Nat, J = 0 + 1 := ⟨_, rfl⟩
        rw [← hJ] at HO7 HR7 HN7
        go_wp2_with fail
        go_roundw
        case rel => exact ⟨J, B6, cb6, _, by omega, by rw [hJ]; go_num, by rw [hJ], HO7, HN7, HR7, HB7, hz7⟩
        case measure => simp [intOf]; omega
      have hj0' : 0 < j := by omega
      obtain ⟨p, hp⟩ : ∃ p : Nat, (j : Int) - 1 = (p : Int) := ⟨j - 1, by omega⟩
      have hpj : p < j := by omega
      go_wp2_with fail
      have hr := HR.out
      refine (pk _ g (4 + 9 * j) _ (by repeat (first | assumption | (with_reducible refine RdLe.drew ?_) | (with_reducible refine RdLe.drewN ?_ _) | (with_reducible refine RdLe.alloc ?_ _) | (with_reducible refine RdLe.setC ?_ ?_ _; focus (first | (simp; done) | (simp; omega) | omega)))) (by omega) (by omega) (by omega)).mono ?_
      rintro e w2 ⟨⟨v2, ⟨vl2, vh2⟩, rfl, hR2, hb2⟩, hs2⟩
      clear hr hs2
      obtain ⟨m2, rfl⟩ := Int.eq_ofNat_of_zero_le vl2
      have HR2 := Lib.hid hR2
      have HO2 := Lib.hid (HO.out.past hgl hb2)
      have HB2 := Lib.hid (HB.out.trans ((hb2.mono (Nat.le_trans hw0 hz)).below hgo2))
      have hz2 : w0.heap.size ≤ w2.heap.size := Nat.le_trans hz hb2.size
      clear hb2 HO HB HR
      by_cases hm2 : m2 = 0
      rotate_left
      · have hm2b : ((m2 : Int) == 0) = false := by simpa using hm2
        go_wp2_with fail
        refine (loud_draw w2 g (4 + 9 * j + 1) K (by have hr := HR2.out; repeat (first | assumption | (with_reducible refine RdLe.drew ?_) | (with_reducible refine RdLe.drewN ?_ _) | (with_reducible refine RdLe.alloc ?_ _) | (with_reducible refine RdLe.setC ?_ ?_ _; focus (first | (simp; done) | (simp; omega) | omega)))) (by omega) (by omega)).mono ?_
        rintro e w3 ⟨A3, c3, z3, hO3, rfl, hR3, hb3⟩
        have HO3 := Lib.hid (HO2.out.past hgl hb3)
        have HB3 := Lib.hid (HB2.out.trans ((hb3.mono (Nat.le_trans hw0 hz2)).below hgo2))
        have hz3 : w0.heap.size ≤ w3.heap.size := Nat.le_trans hz2 hb3.size
        have hX3 := Lib.hid (show ∀ g, (Value.slice B j cb).ownBlock = some g → g < w2.heap.size from fun g hg => (HO2.out.row.1.lt g hg).2)
        have hA3 := Lib.hid hO3
        have HR3 := Lib.hid (hR3.mono (show 4 + 9 * j + 1 + 2 * K ≤ 4 + 9 * (j + 1) by omega))
        clear hO3 hR3 hb3
        go_wp2_with (at_builtin; go_loud (refine wpList_rowAppendN _ rfl (.tmp 47) (.tmp 51) _ rfl 25 i0 _ 1 24 Try.underlying23 q1 q2 q3 q4 rfl (by decide) w0.heap.size _ B j cb (srF S) rfl (HO3.out.row.alloc _) _ _ _ 1 1 _ rfl (one_row _ _ _) (j + 1) rfl ?_ (by unfold maxLen; omega) (by omega) (by simp; omega) ?_); (focus (intro i hi; (obtain rfl : i = 0 := by omega); rfl)); intro B6 cb6 w7 hO7 hG7 hL7)
        have HO7 := Lib.hid (MtO.snoc (x := ⟨A3, K, c3, z3⟩) (HO3.out.alloc _) hz2 hX3.out (OwnI.wide (OwnI.alloc hA3.out _) (Nat.le_refl _) (by simp)) hG7 hO7 rfl hL7)
        have HB7 := Lib.hid (grown_belowS HB3.out (Ba w3 _) hG7 (fun g hg => Nat.le_trans hw0 (HO3.out.row.1.lt g hg).1))
        have HR7 := Lib.hid ((RdLe.alloc HR3.out _).only (fun q hq => by have := (HO3.out.row.1.lt q hq).1; omega) hG7)
        have hz7 : w0.heap.size ≤ w7.heap.size := Nat.le_trans hz3 (Nat.le_trans (by simp) hG7.size)
        have HN7 := Lib.hid (show ∀ q, q < j + 1 → (snocS S j ⟨A3, K, c3, z3⟩ q).n ≤ 4 from fun q hq => by
          unfold snocS
          split
          · exact HN.out q ‹_›
          · exact hK4)
        clear HO3 HB3 HR3 hX3 hA3 hO7 hG7 hL7 hz3
        obtain ⟨J, hJ⟩ : ∃ J : Nat, J = j + 1 := ⟨_, rfl⟩
        rw [← hJ] at HO7 HR7 HN7
        go_wp2_with fail
        go_roundw
        case rel => exact ⟨J, B6, cb6, _, by omega, by rw [hJ]; go_num, by rw [hJ], HO7, HN7, HR7, HB7, hz7⟩
        case measure => simp [intOf]; omega
      subst hm2
      have HZ := Lib.hid (HO2.out.hears p hpj).ints
      have hzn := HN.out p hpj
      obtain ⟨b, off, rfl, hlo2, hb2, hcl⟩ := Sr_at HO2.out.row.row hpj
      go_wp2_with (first | (at_builtin; go_loud (refine wpList_rowAppendN _ rfl (.tmp 38) (.tmp 43) _ rfl 3 i1 _ 1 8 Try.underlying25 r1 r2 r3 r4 rfl (by decide) w2.heap.size _ (some ⟨w2.heap.size, 0, none⟩) 0 0 (intV fun _ => 0) rfl (empty_at _ 3 w2.heap.size 1 (intV fun _ => 0) (by first | rfl | simp)) _ _ (S p).A (S p).n (S p).c (intV (S p).z) rfl (RowAt.below (Nat.le_refl _) HZ.out (by repeat (first | (with_reducible exact Below.refl _ _) | (with_reducible refine Bal ?_ _) | (with_reducible refine Below.drew ?_) | (with_reducible refine below_drewN ?_ _) | (with_reducible refine Bset ?_ ?_ _; focus (first | (with_reducible exact Nat.le_refl _) | (simp; done) | (simp; omega) | omega)) | (with_reducible refine Bt ?_ (by assumption)) | (with_reducible refine Bp (g := g) ?_ (by assumption) (by assumption))))) (S p).n (Nat.zero_add _) ?_ (by unfold maxLen; omega) (by omega) (by first | (simp; done) | (simp; omega) | omega) ?_); (focus (intro i hi; rfl)); intro A5 c5 w5 hO5 hG5 hL5; have hb5 : Below w2.heap.size w2 w5 := (show Below w2.heap.size w2 _ by repeat (first | (with_reducible exact Below.refl _ _) | (with_reducible refine Bal ?_ _) | (with_reducible refine Below.drew ?_) | (with_reducible refine below_drewN ?_ _) | (with_reducible refine Bset ?_ ?_ _; focus (first | (with_reducible exact Nat.le_refl _) | (simp; done) | (simp; omega) | omega)) | (with_reducible refine Bt ?_ (by assumption)) | (with_reducible refine Bp (g := g) ?_ (by assumption) (by assumption)))).grown hG5 (by simp) (fun g hg => by cases hg; exact Nat.le_refl _); have hz5 : w0.heap.size ≤ w5.heap.size := Nat.le_trans hz2 hb5.size; have hX5 := Lib.hid (show ∀ g, (Value.slice (some ⟨b, off, none⟩) j cb).ownBlock = some g → g < w2.heap.size from fun g hg => (HO2.out.row.1.lt g hg).2); have HO5 := Lib.hid (HO2.out.below hb5); have HB5 := Lib.hid (HB2.out.trans (hb5.mono (by have := HB2.out.size; omega))); have HR5 := Lib.hid (HR2.out.below hb5); have hA5 := Lib.hid (show OwnI w5 w2.heap.size w5.heap.size A5 (S p).n c5 (S p).z from OwnI.congr (z := (S p).z) (RowOwn.congr hO5 fun j hj => cat0 (S p).z j) (fun j hj => rfl))) | (at_builtin; go_loud (refine wpList_rowAppendN _ rfl (.tmp 37) (.tmp 45) _ rfl 25 i0 _ 1 24 Try.underlying23 q1 q2 q3 q4 rfl (by decide) w0.heap.size _ (some ⟨b, off, none⟩) j cb (srF S) rfl (HO5.out.row.alloc _) _ _ _ 1 1 _ rfl (one_row _ _ _) (j + 1) rfl ?_ (by unfold maxLen; omega) (by omega) (by simp; omega) ?_); (focus (intro i hi; (obtain rfl : i = 0 := by omega); rfl)); intro B6 cb6 w7 hO7 hG7 hL7))
      clear hO5 hG5 hL5 hb5 HO2 HB2 HR2 hcl HZ hp
      have HO7 := Lib.hid (MtO.snoc (x := ⟨A5, (S p).n, c5, (S p).z⟩) (HO5.out.alloc _) hz2 hX5.out (OwnI.wide (OwnI.alloc hA5.out _) (Nat.le_refl _) (by simp)) hG7 hO7 rfl hL7)
      have HB7 := Lib.hid (grown_belowS HB5.out (Ba w5 _) hG7 (fun g hg => Nat.le_trans hw0 (HO5.out.row.1.lt g hg).1))
      have HR7 := Lib.hid (RdLe.mono (k' := 4 + 9 * (j + 1)) ((RdLe.alloc HR5.out _).only (fun q hq => by have := (HO5.out.row.1.lt q hq).1; omega) hG7) (by omega))
      have hz7 : w0.heap.size ≤ w7.heap.size := Nat.le_trans hz5 (Nat.le_trans (by simp) hG7.size)
      have HN7 := Lib.hid (show ∀ q, q < j + 1 → (snocS S j ⟨A5, (S p).n, c5, (S p).z⟩ q).n ≤ 4 from fun q hq => by
        unfold snocS
        split
        · exact HN.out q ‹_›
        · exact hzn)
      clear HO5 HB5 HR5 hX5 hA5 hO7 hG7 hL7 hz5
      obtain ⟨J, hJ⟩ : ∃ J : Nat, J = j + 1 := ⟨_, rfl⟩
      rw [← hJ] at HO7 HR7 HN7
      go_wp2_with fail
      go_roundw
      case rel => exact ⟨J, B6, cb6, _, by omega, by rw [hJ]; go_num, by rw [hJ], HO7, HN7, HR7, HB7, hz7⟩
      case measure => simp [intOf]; omega
  · have hm2b : ((m2 : Int) == 0) = false := by simpa using hm2
    go_wp2_with fail
    have hr := HR2.out
    refine (pk _ g (0 + 1 + 1) _ (by repeat (first | assumption | (with_reducible refine RdLe.drew ?_) | (with_reducible refine RdLe.drewN ?_ _) | (with_reducible refine RdLe.alloc ?_ _) | (with_reducible refine RdLe.setC ?_ ?_ _; focus (first | (simp; done) | (simp; omega) | omega)))) (by omega) (by omega) (by omega)).mono ?_
    rintro e w5 ⟨⟨v5, ⟨vl5, vh5⟩, rfl, hR5, hb5⟩, hs5⟩
    clear hr hs5
    obtain ⟨m5, rfl⟩ := Int.eq_ofNat_of_zero_le vl5
    have HR5 := Lib.hid hR5
    have HO5 := Lib.hid (HO2.out.past hgl hb5)
    have HP5 := Lib.hid (HP2.out.trans (hb5.mono hz2))
    have hz5 := HP5.out.size
    clear hb5
    go_wp2_with fail
    obtain ⟨K, hKe⟩ : ∃ K : Nat, (2 + (m5 : Int)) = K := ⟨2 + m5, by omega⟩
    have hK4 : K ≤ 4 := by omega
    simp only [hKe]
    clear hKe
    obtain ⟨N, hNe⟩ : ∃ N : Nat, (1 + (m1 : Int)) = N := ⟨1 + m1, by omega⟩
    have hN : N ≤ 21 := by omega
    simp only [hNe]
    clear hNe
    have HO := Lib.hid HO5.out
    have HR := Lib.hid (HR5.out.mono (show 0 + 1 + 1 + 1 ≤ 4 by omega))
    have HB := Lib.hid (HB0.out.trans ((HP5.out.mono hw0).below hgo2))
    have hz := hz5
    clear HO1 HO2 HO5 HP1 HP2 HP5 HR2 HR5 hz1 hz2 hz5 HB0 hm2b
    go_loopw [4, 7] (fun s i wr => ∃ (j : Nat) (B : Option Addr) (cb : Nat) (S : Nat → Sr), j ≤ N ∧ i = .int .i64 (j : Nat) ∧ s = .slice B j cb ∧ Hid (MtO w0.heap.size B j cb S wr) ∧ Hid (∀ q, q < j → (S q).n ≤ 4) ∧ Hid (RdLe wr g (4 + 9 * j)) ∧ Hid (Below w.heap.size w wr) ∧ w0.heap.size ≤ wr.heap.size) (fun _ i _ => N - (intOf i).toNat)
    case atStart => exact ⟨0, _, 0, _, Nat.zero_le _, rfl, rfl, HO, Lib.hid (fun q hq => absurd hq (by omega)), HR, HB, hz⟩
    clear HO HR HB hz
    case round =>
      obtain ⟨j, B, cb, S, hj, rfl, rfl, HO, HN, HR, HB, hz⟩ := hrel
      by_cases hjN : j < N
      rotate_left
      · obtain rfl : j = N := by omega
        go_wp2_with fail
        refine bodyPost_retE rfl ?_
        apply Exists.intro
        refine ⟨?_, ?_⟩
        · simp only [results, Try.results5]
          go_simp
          first | done | rfl
        go_light
        exact ⟨B, cb, j, S, HO.out.mtx.wide hw0 (Nat.le_refl _), hN, HN.out, rfl, HB.out⟩
      by_cases hj0 : j = 0
      · subst hj0
        go_wp2_with fail
        refine (loud_draw wr g (4 + 9 * 0) K (by have hr := HR.out; repeat (first | assumption | (with_reducible refine RdLe.drew ?_) | (with_reducible refine RdLe.drewN ?_ _) | (with_reducible refine RdLe.alloc ?_ _) | (with_reducible refine RdLe.setC ?_ ?_ _; focus (first | (simp; done) | (simp; omega) | omega)))) (by omega) (by omega)).mono ?_
        rintro e w3 ⟨A3, c3, z3, hO3, rfl, hR3, hb3⟩
        have HO3 := Lib.hid (HO.out.past hgl hb3)
        have HB3 := Lib.hid (HB.out.trans ((hb3.mono (Nat.le_trans hw0 hz)).below hgo2))
        have hz3 : w0.heap.size ≤ w3.heap.size := Nat.le_trans hz hb3.size
        have hX3 := Lib.hid (show ∀ g, (Value.slice B 0 cb).ownBlock = some g → g < wr.heap.size from fun g hg => (HO.out.row.1.lt g hg).2)
        have hA3 := Lib.hid hO3
        have HR3 := Lib.hid (hR3.mono (show 4 + 9 * 0 + 2 * K ≤ 4 + 9 * (0 + 1) by omega))
        clear hO3 hR3 hb3
        go_wp2_with (at_builtin; go_loud (refine wpList_rowAppendN _ rfl (.tmp 47) (.tmp 51) _ rfl 25 i0 _ 1 24 Try.underlying23 q1 q2 q3 q4 rfl (by decide) w0.heap.size _ B 0 cb (srF S) rfl (HO3.out.row.alloc _) _ _ _ 1 1 _ rfl (one_row _ _ _) (0 + 1) rfl ?_ (by unfold maxLen; omega) (by omega) (by simp; omega) ?_); (focus (intro i hi; (obtain rfl : i = 0 := by omega); rfl)); intro B6 cb6 w7 hO7 hG7 hL7)
        have HO7 := Lib.hid (MtO.snoc (x := ⟨A3, K, c3, z3⟩) (HO3.out.alloc _) hz hX3.out (OwnI.wide (OwnI.alloc hA3.out _) (Nat.le_refl _) (by simp)) hG7 hO7 rfl hL7)
        have HB7 := Lib.hid (grown_belowS HB3.out (Ba w3 _) hG7 (fun g hg => Nat.le_trans hw0 (HO3.out.row.1.lt g hg).1))
        have HR7 := Lib.hid ((RdLe.alloc HR3.out _).only (fun q hq => by have := (HO3.out.row.1.lt q hq).1; omega) hG7)
        have hz7 : w0.heap.size ≤ w7.heap.size := Nat.le_trans hz3 (Nat.le_trans (by simp) hG7.size)
        have HN7 := Lib.hid (show ∀ q, q < 0 + 1 → (snocS S 0 ⟨A3, K, c3, z3⟩ q).n ≤ 4 from fun q hq => by
          unfold snocS
          split
          · exact HN.out q ‹_›
          · exact hK4)
        clear HO3 HB3 HR3 hX3 hA3 hO7 hG7 hL7 hz3
        obtain ⟨J, hJ⟩ : ∃ J : Nat, J = 0 + 1 := ⟨_, rfl⟩
        rw [← hJ] at HO7 HR7 HN7
        go_wp2_with fail
        go_roundw
        case rel => exact ⟨J, B6, cb6, _, by omega, by rw [hJ]; go_num, by rw [hJ], HO7, HN7, HR7, HB7, hz7⟩
        case measure => simp [intOf]; omega
      have hj0' : 0 < j := by omega
      obtain ⟨p, hp⟩ : ∃ p : Nat, (j : Int) - 1 = (p : Int) := ⟨j - 1, by omega⟩
      have hpj : p < j := by omega
      go_wp2_with fail
      have hr := HR.out
      refine (pk _ g (4 + 9 * j) _ (by repeat (first | assumption | (with_reducible refine RdLe.drew ?_) | (with_reducible refine RdLe.drewN ?_ _) | (with_reducible refine RdLe.alloc ?_ _) | (with_reducible refine RdLe.setC ?_ ?_ _; focus (first | (simp; done) | (simp; omega) | omega)))) (by omega) (by omega) (by omega)).mono ?_
      rintro e w2 ⟨⟨v2, ⟨vl2, vh2⟩, rfl, hR2, hb2⟩, hs2⟩
      clear hr hs2
      obtain ⟨m2, rfl⟩ := Int.eq_ofNat_of_zero_le vl2
      have HR2 := Lib.hid hR2
      have HO2 := Lib.hid (HO.out.past hgl hb2)
      have HB2 := Lib.hid (HB.out.trans ((hb2.mono (Nat.le_trans hw0 hz)).below hgo2))
      have hz2 : w0.heap.size ≤ w2.heap.size := Nat.le_trans hz hb2.size
      clear hb2 HO HB HR
      by_cases hm2 : m2 = 0
      rotate_left
      · have hm2b : ((m2 : Int) == 0) = false := by simpa using hm2
        go_wp2_with fail
        refine (loud_draw w2 g (4 + 9 * j + 1) K (by have hr := HR2.out; repeat (first | assumption | (with_reducible refine RdLe.drew ?_) | (with_reducible refine RdLe.drewN ?_ _) | (with_reducible refine RdLe.alloc ?_ _) | (with_reducible refine RdLe.setC ?_ ?_ _; focus (first | (simp; done) | (simp; omega) | omega)))) (by omega) (by omega)).mono ?_
        rintro e w3 ⟨A3, c3, z3, hO3, rfl, hR3, hb3⟩
        have HO3 := Lib.hid (HO2.out.past hgl hb3)
        have HB3 := Lib.hid (HB2.out.trans ((hb3.mono (Nat.le_trans hw0 hz2)).below hgo2))
        have hz3 : w0.heap.size ≤ w3.heap.size := Nat.le_trans hz2 hb3.size
        have hX3 := Lib.hid (show ∀ g, (Value.slice B j cb).ownBlock = some g → g < w2.heap.size from fun g hg => (HO2.out.row.1.lt g hg).2)
        have hA3 := Lib.hid hO3
        have HR3 := Lib.hid (hR3.mono (show 4 + 9 * j + 1 + 2 * K ≤ 4 + 9 * (j + 1) by omega))
        clear hO3 hR3 hb3
        go_wp2_with (at_builtin; go_loud (refine wpList_rowAppendN _ rfl (.tmp 47) (.tmp 51) _ rfl 25 i0 _ 1 24 Try.underlying23 q1 q2 q3 q4 rfl (by decide) w0.heap.size _ B j cb (srF S) rfl (HO3.out.row.alloc _) _ _ _ 1 1 _ rfl (one_row _ _ _) (j + 1) rfl ?_ (by unfold maxLen; omega) (by omega) (by simp; omega) ?_); (focus (intro i hi; (obtain rfl : i = 0 := by omega); rfl)); intro B6 cb6 w7 hO7 hG7 hL7)
        have HO7 := Lib.hid (MtO.snoc (x := ⟨A3, K, c3, z3⟩) (HO3.out.alloc _) hz2 hX3.out (OwnI.wide (OwnI.alloc hA3.out _) (Nat.le_refl _) (by simp)) hG7 hO7 rfl hL7)
        have HB7 := Lib.hid (grown_belowS HB3.out (Ba w3 _) hG7 (fun g hg => Nat.le_trans hw0 (HO3.out.row.1.lt g hg).1))
        have HR7 := Lib.hid ((RdLe.alloc HR3.out _).only (fun q hq => by have := (HO3.out.row.1.lt q hq).1; omega) hG7)
        have hz7 : w0.heap.size ≤ w7.heap.size := Nat.le_trans hz3 (Nat.le_trans (by simp) hG7.size)
        have HN7 := Lib.hid (show ∀ q, q < j + 1 → (snocS S j ⟨A3, K, c3, z3⟩ q).n ≤ 4 from fun q hq => by
          unfold snocS
          split
          · exact HN.out q ‹_›
          · exact hK4)
        clear HO3 HB3 HR3 hX3 hA3 hO7 hG7 hL7 hz3
        obtain ⟨J, hJ⟩ : ∃ J : Nat, J = j + 1 := ⟨_, rfl⟩
        rw [← hJ] at HO7 HR7 HN7
        go_wp2_with fail
        go_roundw
        case rel => exact ⟨J, B6, cb6, _, by omega, by rw [hJ]; go_num, by rw [hJ], HO7, HN7, HR7, HB7, hz7⟩
        case measure => simp [intOf]; omega
      subst hm2
      have HZ := Lib.hid (HO2.out.hears p hpj).ints
      have hzn := HN.out p hpj
      obtain ⟨b, off, rfl, hlo2, hb2, hcl⟩ := Sr_at HO2.out.row.row hpj
      go_wp2_with (first | (at_builtin; go_loud (refine wpList_rowAppendN _ rfl (.tmp 38) (.tmp 43) _ rfl 3 i1 _ 1 8 Try.underlying25 r1 r2 r3 r4 rfl (by decide) w2.heap.size _ (some ⟨w2.heap.size, 0, none⟩) 0 0 (intV fun _ => 0) rfl (empty_at _ 3 w2.heap.size 1 (intV fun _ => 0) (by first | rfl | simp)) _ _ (S p).A (S p).n (S p).c (intV (S p).z) rfl (RowAt.below (Nat.le_refl _) HZ.out (by repeat (first | (with_reducible exact Below.refl _ _) | (with_reducible refine Bal ?_ _) | (with_reducible refine Below.drew ?_) | (with_reducible refine below_drewN ?_ _) | (with_reducible refine Bset ?_ ?_ _; focus (first | (with_reducible exact Nat.le_refl _) | (simp; done) | (simp; omega) | omega)) | (with_reducible refine Bt ?_ (by assumption)) | (with_reducible refine Bp (g := g) ?_ (by assumption) (by assumption))))) (S p).n (Nat.zero_add _) ?_ (by unfold maxLen; omega) (by omega) (by first | (simp; done) | (simp; omega) | omega) ?_); (focus (intro i hi; rfl)); intro A5 c5 w5 hO5 hG5 hL5; have hb5 : Below w2.heap.size w2 w5 := (show Below w2.heap.size w2 _ by repeat (first | (with_reducible exact Below.refl _ _) | (with_reducible refine Bal ?_ _) | (with_reducible refine Below.drew ?_) | (with_reducible refine below_drewN ?_ _) | (with_reducible refine Bset ?_ ?_ _; focus (first | (with_reducible exact Nat.le_refl _) | (simp; done) | (simp; omega) | omega)) | (with_reducible refine Bt ?_ (by assumption)) | (with_reducible refine Bp (g := g) ?_ (by assumption) (by assumption)))).grown hG5 (by simp) (fun g hg => by cases hg; exact Nat.le_refl _); have hz5 : w0.heap.size ≤ w5.heap.size := Nat.le_trans hz2 hb5.size; have hX5 := Lib.hid (show ∀ g, (Value.slice (some ⟨b, off, none⟩) j cb).ownBlock = some g → g < w2.heap.size from fun g hg => (HO2.out.row.1.lt g hg).2); have HO5 := Lib.hid (HO2.out.below hb5); have HB5 := Lib.hid (HB2.out.trans (hb5.mono (by have := HB2.out.size; omega))); have HR5 := Lib.hid (HR2.out.below hb5); have hA5 := Lib.hid (show OwnI w5 w2.heap.size w5.heap.size A5 (S p).n c5 (S p).z from OwnI.congr (z := (S p).z) (RowOwn.congr hO5 fun j hj => cat0 (S p).z j) (fun j hj => rfl))) | (at_builtin; go_loud (refine wpList_rowAppendN _ rfl (.tmp 37) (.tmp 45) _ rfl 25 i0 _ 1 24 Try.underlying23 q1 q2 q3 q4 rfl (by decide) w0.heap.size _ (some ⟨b, off, none⟩) j cb (srF S) rfl (HO5.out.row.alloc _) _ _ _ 1 1 _ rfl (one_row _ _ _) (j + 1) rfl ?_ (by unfold maxLen; omega) (by omega) (by simp; omega) ?_); (focus (intro i hi; (obtain rfl : i = 0 := by omega); rfl)); intro B6 cb6 w7 hO7 hG7 hL7))
      clear hO5 hG5 hL5 hb5 HO2 HB2 HR2 hcl HZ hp
      have HO7 := Lib.hid (MtO.snoc (x := ⟨A5, (S p).n, c5, (S p).z⟩) (HO5.out.alloc _) hz2 hX5.out (OwnI.wide (OwnI.alloc hA5.out _) (Nat.le_refl _) (by simp)) hG7 hO7 rfl hL7)
      have HB7 := Lib.hid (grown_belowS HB5.out (Ba w5 _) hG7 (fun g hg => Nat.le_trans hw0 (HO5.out.row.1.lt g hg).1))
      have HR7 := Lib.hid (RdLe.mono (k' := 4 + 9 * (j + 1)) ((RdLe.alloc HR5.out _).only (fun q hq => by have := (HO5.out.row.1.lt q hq).1; omega) hG7) (by omega))
      have hz7 : w0.heap.size ≤ w7.heap.size := Nat.le_trans hz5 (Nat.le_trans (by simp) hG7.size)
      have HN7 := Lib.hid (show ∀ q, q < j + 1 → (snocS S j ⟨A5, (S p).n, c5, (S p).z⟩ q).n ≤ 4 from fun q hq => by
        unfold snocS
        split
        · exact HN.out q ‹_›
        · exact hzn)
      clear HO5 HB5 HR5 hX5 hA5 hO7 hG7 hL7 hz5
      obtain ⟨J, hJ⟩ : ∃ J : Nat, J = j + 1 := ⟨_, rfl⟩
      rw [← hJ] at HO7 HR7 HN7
      go_wp2_with fail
      go_roundw
      case rel => exact ⟨J, B6, cb6, _, by omega, by rw [hJ]; go_num, by rw [hJ], HO7, HN7, HR7, HB7, hz7⟩
      case measure => simp [intOf]; omega
end Go.Proofs.Ytcdpalpoanlbmaa
