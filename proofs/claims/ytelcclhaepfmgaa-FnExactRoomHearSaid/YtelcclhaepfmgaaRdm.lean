/- The draw of a room. -/
import Derived.Test.YtelcclhaepfmgaaRgv
import Derived.Test.YtelcclhaepfmgaaOpi
namespace Go.Proofs.Ytelcclhaepfmgaa
open Go Go.RowKit
set_option linter.unusedVariables false
set_option linter.unusedSimpArgs false
theorem RmO.past {g lo n c : Nat} {B : Option Addr} {M : Nat → Mb} {w w' : World} (hg : g < lo) (h : RmO lo B n c M w) (hp : Past g w.heap.size w w') : RmO lo B n c M w' :=
  ⟨(RowOwn.past hg (Nat.le_refl _) h.row hp).wide (Nat.le_refl _) hp.size, fun i hi => (RowOwn.past hg (Nat.le_refl _) (h.hears i hi) hp).wide (Nat.le_refl _) hp.size, h.dis, h.two⟩
theorem one_own (w : World) (u : Value) (t : TypeId) : RowOwn t (w.alloc (.cells #[u] t)) w.heap.size (w.heap.size + 1) (some ⟨w.heap.size, 0, none⟩) 1 1 1 (fun _ => u) :=
  ⟨⟨by simp, .inr ⟨w.heap.size, 1, #[u], rfl, Nat.le_refl _, heap_alloc_new w _, by decide, by decide, by simp, by simp⟩⟩, fun g hg => by cases hg; exact Nat.lt_succ_self _⟩
theorem Mb_id {w : World} {lo hi gL n : Nat} {M : Nat → Mb} (h : RowAt w lo hi (some ⟨gL, 0, none⟩) n 3 (MbF M)) {k : Nat} (hk : k < n) : w.cell? ⟨gL, k * 3, none⟩ = some (.int .i64 (M k).p.id) := by
  obtain ⟨b, off, h1, h2, h3, h4, _⟩ := Mb_at h hk
  injection h1 with h1
  injection h1 with e1 e2
  subst e1 e2
  rwa [Nat.zero_add] at h4
/-- What a step of the draw leaves: a room of the call's own, not too large. -/
def RmStep (w : World) (e : Ending) (w' : World) : Prop :=
  ∃ B cb n M ok, RmO w.heap.size B n cb M w' ∧ e = .returned (.tuple #[.slice B n cb, .bool ok]) ∧ Below w.heap.size w w' ∧ (ok = true → n ≤ 6 ∧ ∀ i, i < n → (M i).p.n ≤ 100)
theorem RmNo.step {w w' : World} {e : Ending} (h : RmNo w e w') : RmStep w e w' := let ⟨b, h1, h2, h3⟩ := h; ⟨_, _, 0, _, false, h2, h1, h3, fun h => by cases h⟩
theorem sjn_step (w : World) (lo hi : Nat) (A : Option Addr) (n c : Nat) (M : Nat → Mb) (id : Int) (s : Bool) (h : Room w lo hi A n M) (hi' : hi ≤ w.heap.size) (h6 : n ≤ 6) (hb : ∀ i, i < n → (M i).p.n ≤ 100) :
    Calls Try.prog 21 #[.slice A n c, .int .i64 id, .bool s] w (RmStep w) := by
  have hb2 : ∀ i, i < n → (M i).p.n ≤ 1048576 := fun i hi => by have := hb i hi; omega
  by_cases hok : joinOk n (plain M) id
  · obtain ⟨a, ha⟩ := exists_jat (plain M) id n
    refine (sjn_ok w lo hi A n c M id s a h hi' (by omega) hb2 hok ha).mono fun e w' hr => ?_
    obtain ⟨B, cb, M', h1, h2, h3, h4⟩ := hr
    refine ⟨B, cb, n + 1, M', true, h1, h3, h4, fun _ => ⟨by have := hok.2.2.2; omega, fun i hi => ?_⟩⟩
    rw [h2 i hi]
    rcases insR_cases (r := plain M) (x := ⟨id, s, 0, fun _ => 0⟩) ha.1 hi with ⟨k, hk, e, _⟩ | ⟨_, e⟩
    · rw [e]; exact hb k hk
    · rw [e]; exact Nat.zero_le _
  · exact (sjn_no w lo hi A n c M id s h hi' (by omega) hb2 hok).mono fun e w' hr => hr.step
theorem shr_step (w : World) (lo hi : Nat) (A : Option Addr) (n c : Nat) (M : Nat → Mb) (id other : Int) (on : Bool) (h : Room w lo hi A n M) (hi' : hi ≤ w.heap.size) (h6 : n ≤ 6) (hb : ∀ i, i < n → (M i).p.n ≤ 100) :
    Calls Try.prog 31 #[.slice A n c, .int .i64 id, .int .i64 other, .bool on] w (RmStep w) := by
  have hb2 : ∀ i, i < n → (M i).p.n ≤ 1048576 := fun i hi => by have := hb i hi; omega
  by_cases hok : hearOk n (plain M) id other on
  · refine (shr_ok w lo hi A n c M id other on _ h hi' (by omega) hb2 rfl hok).mono fun e w' hr => ?_
    obtain ⟨B, cb, M', h1, h2, h3, h4⟩ := hr
    refine ⟨B, cb, n, M', true, h1, h3, h4, fun _ => ⟨h6, fun i hi => ?_⟩⟩
    rw [h2 i hi]
    by_cases e : i = atR (plain M) id n
    · subst e
      rw [putR_at]
      have := hrL_len (plain M) (M (atR (plain M) id n)).p other on n
      show (hrL _ _ _ _ n).length ≤ 100
      omega
    · rw [putR_ne e]; exact hb i hi
  · exact (shr_no w lo hi A n c M id other on h hi' (by omega) hb2 hok).mono fun e w' hr => hr.step
/-- What the draw of a room leaves. -/
def DrawnR (g k : Nat) (w : World) (e : Ending) (w' : World) : Prop := ∃ B cb n M, RmO w.heap.size B n cb M w' ∧ n ≤ 6 ∧ (∀ i, i < n → (M i).p.n ≤ 100) ∧ e = .returned (.slice B n cb) ∧ RdLe w' g k ∧ Past g w.heap.size w w'
set_option maxRecDepth 100000 in
set_option maxHeartbeats 8000000 in
theorem room_draw (w : World) (g k : Nat) (h : RdLe w g k) (hk : k ≤ 999900) :
    Calls Try.prog 42 #[.pointer (some ⟨g, 0, none⟩)] w (DrawnR g (k + 60) w) := by
  have hg := h.lt
  go_enter Try.func42, Try.ntmps42
  have HR0 := Lib.hid (h.alloc (.cells #[] 28))
  go_wp2_with fail
  have hr := HR0.out
  refine (pk _ g (k) _ (by repeat (first | assumption | (with_reducible refine RdLe.drew ?_) | (with_reducible refine RdLe.drewN ?_ _) | (with_reducible refine RdLe.alloc ?_ _) | (with_reducible refine RdLe.setC ?_ ?_ _; focus (first | (simp; done) | (simp; omega) | omega)))) (by omega) (by omega) (by omega)).mono ?_
  rintro e w1 ⟨⟨v1, ⟨vl1, vh1⟩, rfl, hR1, hb1⟩, hs1⟩
  clear hr hs1
  obtain ⟨m1, rfl⟩ := Int.eq_ofNat_of_zero_le vl1
  have HR1 := Lib.hid hR1
  have hb1 : Past g w.heap.size w w1 := (Past.of (Ba w (.cells #[] 28))).trans (hb1.mono (by simp))
  have HO1 := Lib.hid (show RmO w.heap.size (some ⟨w.heap.size, 0, none⟩) 0 0 (fun _ => Mb0) w1 from RmO.past hg (no_row (wx := w) rfl (Nat.le_refl _)) ‹_›)
  have HP1 := Lib.hid hb1
  clear hb1 HR0 h
  go_wp2_with fail
  go_loopw [3, 5] (fun s i wr => ∃ (j : Nat) (B : Option Addr) (cb n : Nat) (M : Nat → Mb), j ≤ m1 ∧ i = .int .i64 (j : Nat) ∧ s = .slice B n cb ∧ n ≤ 6 ∧ Hid (RmO w.heap.size B n cb M wr) ∧ Hid (∀ i, i < n → (M i).p.n ≤ 100) ∧ Hid (RdLe wr g (k + 1 + 2 * j)) ∧ Hid (Past g w.heap.size w wr)) (fun _ i _ => m1 - (intOf i).toNat)
  case atStart => exact ⟨0, _, 0, 0, _, Nat.zero_le _, rfl, rfl, Nat.zero_le _, HO1, Lib.hid (fun i hi => absurd hi (by omega)), HR1, HP1⟩
  case round =>
    obtain ⟨j, B, cb, n, M, hj, rfl, rfl, hn6, HO, HN, HR, HP⟩ := hrel
    clear HO1 HR1 HP1
    have hws := HP.out.size
    by_cases hjm : j < m1
    · skip
      go_wp2_with fail
      have hr := HR.out
      refine (pk _ g (k + 1 + 2 * j) _ (by repeat (first | assumption | (with_reducible refine RdLe.drew ?_) | (with_reducible refine RdLe.drewN ?_ _) | (with_reducible refine RdLe.alloc ?_ _) | (with_reducible refine RdLe.setC ?_ ?_ _; focus (first | (simp; done) | (simp; omega) | omega)))) (by omega) (by omega) (by omega)).mono ?_
      rintro e w2 ⟨⟨v2, ⟨vl2, vh2⟩, rfl, hR2, hb2⟩, hs2⟩
      clear hr hs2
      obtain ⟨m2, rfl⟩ := Int.eq_ofNat_of_zero_le vl2
      have HR2 := Lib.hid hR2
      have HO2 := Lib.hid (HO.out.past hg hb2)
      have HP2 := Lib.hid (HP.out.trans (hb2.mono hws))
      have hw2 := HP2.out.size
      clear hb2 HO HP HR
      go_wp2_with fail
      have hr := HR2.out
      refine (pk _ g (k + 1 + 2 * j + 1) _ (by repeat (first | assumption | (with_reducible refine RdLe.drew ?_) | (with_reducible refine RdLe.drewN ?_ _) | (with_reducible refine RdLe.alloc ?_ _) | (with_reducible refine RdLe.setC ?_ ?_ _; focus (first | (simp; done) | (simp; omega) | omega)))) (by omega) (by omega) (by omega)).mono ?_
      rintro e w3 ⟨⟨v3, ⟨vl3, vh3⟩, rfl, hR3, hb3⟩, hs3⟩
      clear hr hs3
      obtain ⟨m3, rfl⟩ := Int.eq_ofNat_of_zero_le vl3
      have HR3 := Lib.hid hR3
      have HO3 := Lib.hid (HO2.out.past hg hb3)
      have HP3 := Lib.hid (HP2.out.trans (hb3.mono hw2))
      have hw3 := HP3.out.size
      clear hb3 HO2 HP2 HR2
      go_wp2_with fail
      refine (sjn_step w3 w.heap.size w3.heap.size B n cb M _ _ HO3.out.room (Nat.le_refl _) hn6 HN.out).mono ?_
      rintro e w4 ⟨B4, cb4, n4, M4, ok4, hO4, rfl, hb4, hk4⟩
      have HR4 := Lib.hid (HR3.out.below hb4)
      have HP4 := Lib.hid (HP3.out.trans (Past.of (hb4.mono hw3)))
      have HK := Lib.hid hk4
      clear hk4 HR3 HP3
      cases ok4
      · have HO4 := Lib.hid (HO3.out.below hb4)
        clear hO4 hb4 HO3 HK
        go_wp2_with fail
        go_roundw
        case rel => exact ⟨j + 1, B, cb, n, M, by omega, by go_num, rfl, hn6, HO4, HN, HR4, HP4⟩
        case measure => simp [intOf]; omega
      · have HO4 := Lib.hid (hO4.wide hw3)
        have hn4 := (HK.out rfl).1
        have HN4 := Lib.hid (HK.out rfl).2
        clear hO4 hb4 HO3 HK HN
        go_wp2_with fail
        go_roundw
        case rel => exact ⟨j + 1, B4, cb4, n4, M4, by omega, by go_num, rfl, hn4, HO4, HN4, HR4, HP4⟩
        case measure => simp [intOf]; omega
    obtain rfl : j = m1 := by omega
    have HRx := Lib.hid (HR.out.mono (show k + 1 + 2 * j ≤ k + 13 by omega))
    clear hjm hj HR
    go_wp2_with fail
    have hr := HRx.out
    refine (pk _ g (k + 13) _ (by repeat (first | assumption | (with_reducible refine RdLe.drew ?_) | (with_reducible refine RdLe.drewN ?_ _) | (with_reducible refine RdLe.alloc ?_ _) | (with_reducible refine RdLe.setC ?_ ?_ _; focus (first | (simp; done) | (simp; omega) | omega)))) (by omega) (by omega) (by omega)).mono ?_
    rintro e w5 ⟨⟨v5, ⟨vl5, vh5⟩, rfl, hR5, hb5⟩, hs5⟩
    clear hr hs5
    obtain ⟨m5, rfl⟩ := Int.eq_ofNat_of_zero_le vl5
    have HR5 := Lib.hid hR5
    have HO5 := Lib.hid (HO.out.past hg hb5)
    have HP5 := Lib.hid (HP.out.trans (hb5.mono hws))
    clear hb5 HO HP HRx hws
    go_wp2_with fail
    go_loopw [3, 9] (fun s i wr => ∃ (j : Nat) (B : Option Addr) (cb n : Nat) (M : Nat → Mb), j ≤ m5 ∧ i = .int .i64 (j : Nat) ∧ s = .slice B n cb ∧ n ≤ 6 ∧ Hid (RmO w.heap.size B n cb M wr) ∧ Hid (∀ i, i < n → (M i).p.n ≤ 100) ∧ Hid (RdLe wr g (k + 14 + 2 * j)) ∧ Hid (Past g w.heap.size w wr)) (fun _ i _ => m5 - (intOf i).toNat)
    case atStart => exact ⟨0, _, cb, n, M, Nat.zero_le _, rfl, rfl, hn6, HO5, HN, HR5, HP5⟩
    clear HO5 HR5 HP5 HN
    case round =>
      obtain ⟨i, B, cb, n, M, hi, rfl, rfl, hn6, HO, HN, HR, HP⟩ := hrel
      have hws := HP.out.size
      by_cases hn0 : n = 0
      · subst hn0
        have HRx := Lib.hid (HR.out.mono (show k + 14 + 2 * i ≤ k + 60 by omega))
        by_cases him : i < m5
        all_goals (
          go_wp2_with fail
          refine bodyPost_retE rfl ?_
          apply Exists.intro
          refine ⟨?_, ?_⟩
          · simp only [results, Try.results42]
            go_simp
            first | done | rfl
          go_light
          exact ⟨B, cb, 0, M, HO.out, hn6, HN.out, rfl, HRx.out, HP.out⟩)
      rcases RowOwn.cases HO.out.row with ⟨-, e, -⟩ | ⟨gL, rfl, hlo, -, hgl, -, -, -⟩
      · exact absurd e hn0
      have hng : ¬ gL = g := by omega
      have hn0' : 0 < n := by omega
      by_cases him : i < m5
      · have HRo := Lib.hid HO.out.row.row
        have hr := HR.out
        go_upto_region 13 with fail
        refine wp_region_mix (Exc (fun b => b = g) wr) (by kernel_rfl) (by kernel_rfl) (Exc.drew (Exc.refl _ _)) ?_
        repeat (first
          | (refine mix_skip rfl ?_; have e0 : True := trivial; clear e0; refine mix_putK ?_; intro K hK; go_simp; refine hK _ ?_; clear hK K)
          | (refine mix_readE rfl rfl rfl ?_; apply Exists.intro; refine ⟨fun w' hb' => ?_, ?_⟩; (focus (obtain ⟨hc', hf'⟩ := exc_cells hb'; clear hb'; go_simp; try exact rfl)); have e0 : True := trivial; clear e0; refine mix_putK ?_; intro K hK; go_simp; refine hK _ ?_; clear hK K)
          | (refine mix_pureE rfl rfl ?_; apply Exists.intro; refine ⟨fun w' => ?_, ?_⟩; (focus (first | (fail) | (go_simp; try exact rfl))); have e0 : True := trivial; clear e0; refine mix_putK ?_; intro K hK; go_simp; refine hK _ ?_; clear hK K)
          | (refine mix_eff rfl rfl ?_; go_wp2_with ((first | (go_at_call 47; first | (have hq := hRp1; clear hq; refine (pk _ g (k + 14 + 2 * i + 1) _ (by repeat (first | assumption | (with_reducible refine RdLe.drew ?_) | (with_reducible refine RdLe.drewN ?_ _) | (with_reducible refine RdLe.alloc ?_ _) | (with_reducible refine RdLe.setC ?_ ?_ _; focus (first | (simp; done) | (simp; omega) | omega)))) (by omega) (by omega) (by omega)).mono ?_; rintro e wp2 ⟨⟨vp2, ⟨vlp2, vhp2⟩, rfl, hRp2, hbp2⟩, hsp2⟩; clear hsp2; obtain ⟨mp2, hmp2⟩ := Int.eq_ofNat_of_zero_le vlp2; subst hmp2; have hE2 : Exc (fun b => b = g) wr wp2 := Exc.trans hE1 (Exc.of_past rfl hbp2); have cp2 := Mb_id HRo.out (k := mp2) (by omega); have lp2 : mp2 < n := by omega) | (refine (pk _ g (k + 14 + 2 * i) _ (by repeat (first | assumption | (with_reducible refine RdLe.drew ?_) | (with_reducible refine RdLe.drewN ?_ _) | (with_reducible refine RdLe.alloc ?_ _) | (with_reducible refine RdLe.setC ?_ ?_ _; focus (first | (simp; done) | (simp; omega) | omega)))) (by omega) (by omega) (by omega)).mono ?_; rintro e wp1 ⟨⟨vp1, ⟨vlp1, vhp1⟩, rfl, hRp1, hbp1⟩, hsp1⟩; clear hsp1; obtain ⟨mp1, hmp1⟩ := Int.eq_ofNat_of_zero_le vlp1; subst hmp1; have hE1 : Exc (fun b => b = g) wr wp1 := Exc.trans (Exc.drew (Exc.refl _ _)) (Exc.of_past rfl hbp1); have cp1 := Mb_id HRo.out (k := mp1) (by omega); have lp1 : mp1 < n := by omega)) | (go_at_call 31; refine (shr_step wp2 w.heap.size wp2.heap.size (some ⟨gL, 0, none⟩) n cb M _ _ _ (RmO.past hg HO.out (hE2.past (fun b hb => Or.inl hb) (Nat.le_refl _))).room (Nat.le_refl _) hn6 HN.out).mono ?_; rintro e w6 ⟨B6, cb6, n6, M6, ok6, hO6, rfl, hb6, hk6⟩; have hE6 : Exc (fun b => b = g) wr w6 := hE2.trans (Exc.of_belowR hb6)))); refine then_mix rfl ?_ ?_; (focus (first | (intro h; have h2 : false = true := h; cases h2) | (intro _; assumption) | (intro _; repeat (first | assumption | (with_reducible exact Exc.refl _ _) | (with_reducible refine Exc.drew ?_) | (with_reducible refine Exc.alloc ?_ _) | (with_reducible refine Exc.setC ?_ ?_ _; focus (simp))))))))
        refine mix_nil ?_
        have HP2 := Lib.hid (HP.out.trans ((hE2.past (g := g) (B := wr.heap.size) (fun b hb => Or.inl hb) (Nat.le_refl _)).mono hws))
        have hw2 := HP2.out.size
        have HO2 := Lib.hid (RmO.past hg HO.out (hE2.past (fun b hb => Or.inl hb) (Nat.le_refl _)))
        have HR6 := Lib.hid (hRp2.below hb6)
        have HP6 := Lib.hid (HP2.out.trans (Past.of (hb6.mono hw2)))
        have HK := Lib.hid hk6
        clear hk6 hE1 hE2 hE6 hRp1 hRp2 hbp1 hbp2 HP2 cp1 cp2 hr HR HP HO HRo
        cases ok6
        · have HO6 := Lib.hid (HO2.out.below hb6)
          clear hO6 hb6 HO2 HK
          go_wp2_with fail
          go_roundw
          case rel => exact ⟨i + 1, _, cb, n, M, by omega, by go_num, rfl, hn6, HO6, HN, HR6, HP6⟩
          case measure => simp [intOf]; omega
        · have HO6 := Lib.hid (hO6.wide hw2)
          have hn6b := (HK.out rfl).1
          have HN6 := Lib.hid (HK.out rfl).2
          clear hO6 hb6 HO2 HK HN
          go_wp2_with fail
          go_roundw
          case rel => exact ⟨i + 1, B6, cb6, n6, M6, by omega, by go_num, rfl, hn6b, HO6, HN6, HR6, HP6⟩
          case measure => simp [intOf]; omega
      obtain rfl : i = m5 := by omega
      have HRx := Lib.hid (HR.out.mono (show k + 14 + 2 * i ≤ k + 34 by omega))
      clear him hi HR
      go_wp2_with fail
      have hr := HRx.out
      refine (pk _ g (k + 34) _ (by repeat (first | assumption | (with_reducible refine RdLe.drew ?_) | (with_reducible refine RdLe.drewN ?_ _) | (with_reducible refine RdLe.alloc ?_ _) | (with_reducible refine RdLe.setC ?_ ?_ _; focus (first | (simp; done) | (simp; omega) | omega)))) (by omega) (by omega) (by omega)).mono ?_
      rintro e w7 ⟨⟨v7, ⟨vl7, vh7⟩, rfl, hR7, hb7⟩, hs7⟩
      clear hr hs7
      obtain ⟨m7, rfl⟩ := Int.eq_ofNat_of_zero_le vl7
      have HR7 := Lib.hid hR7
      have HO7 := Lib.hid (HO.out.past hg hb7)
      have HP7 := Lib.hid (HP.out.trans (hb7.mono hws))
      have hw7 := HP7.out.size
      have hgl7 : gL < w7.heap.size := by have := hb7.size; omega
      clear hb7 HO HP HRx hws
      by_cases h7 : m7 = 0
      rotate_left
      · have h7b : ((m7 : Int) == 0) = false := by simpa using h7
        go_wp2_with fail
        refine bodyPost_retE rfl ?_
        apply Exists.intro
        refine ⟨?_, ?_⟩
        · simp only [results, Try.results42]
          go_simp
          first | done | rfl
        go_light
        exact ⟨_, cb, n, M, HO7.out, hn6, HN.out, rfl, HR7.out.mono (by omega), HP7.out⟩
      subst h7
      go_wp2_with fail
      have hr := HR7.out
      refine (pk _ g (k + 35) _ (by repeat (first | assumption | (with_reducible refine RdLe.drew ?_) | (with_reducible refine RdLe.drewN ?_ _) | (with_reducible refine RdLe.alloc ?_ _) | (with_reducible refine RdLe.setC ?_ ?_ _; focus (first | (simp; done) | (simp; omega) | omega)))) (by omega) (by omega) (by omega)).mono ?_
      rintro e w8 ⟨⟨v8, ⟨vl8, vh8⟩, rfl, hR8, hb8⟩, hs8⟩
      clear hr hs8
      obtain ⟨m8, rfl⟩ := Int.eq_ofNat_of_zero_le vl8
      have HR8 := Lib.hid hR8
      have HO8 := Lib.hid (HO7.out.past hg hb8)
      have HP8 := Lib.hid (HP7.out.trans (hb8.mono hw7))
      have hw8 := HP8.out.size
      have hgl8 : gL < w8.heap.size := by have := hb8.size; omega
      clear hb8 HO7 HP7 HR7
      go_wp2_with fail
      have hr := HR8.out
      refine (pk _ g (k + 36) _ (by repeat (first | assumption | (with_reducible refine RdLe.drew ?_) | (with_reducible refine RdLe.drewN ?_ _) | (with_reducible refine RdLe.alloc ?_ _) | (with_reducible refine RdLe.setC ?_ ?_ _; focus (first | (simp; done) | (simp; omega) | omega)))) (by omega) (by omega) (by omega)).mono ?_
      rintro e w9 ⟨⟨v9, ⟨vl9, vh9⟩, rfl, hR9, hb9⟩, hs9⟩
      clear hr hs9
      obtain ⟨m9, rfl⟩ := Int.eq_ofNat_of_zero_le vl9
      have HR9 := Lib.hid hR9
      have HO9 := Lib.hid (HO8.out.past hg hb9)
      have HP9 := Lib.hid (HP8.out.trans (hb9.mono hw8))
      have hw9 := HP9.out.size
      have hgl9 : gL < w9.heap.size := by have := hb9.size; omega
      clear hb9 HO8 HP8 HR8
      have hm8 : m8 < n := by omega
      rcases RowOwn.cases HO9.out.row with ⟨e, -⟩ | ⟨gL2, e2, -, -, -, -, hfz, hcl⟩
      · cases e
      obtain rfl : gL = gL2 := by injection e2 with e2; injection e2
      have c2 := hcl (m8 * 3 + 2) (by omega)
      have f2 := hfz (m8 * 3 + 2)
      generalize MbF M (m8 * 3 + 2) = y2 at c2
      clear hcl hfz e2
      go_wp2_with fail
      refine bodyPost_retE rfl ?_
      apply Exists.intro
      refine ⟨?_, ?_⟩
      · simp only [results, Try.results42]
        go_simp
        first | done | rfl
      go_light
      have HOa := Lib.hid (HO9.out.below (Ba w9 (.cells #[.int .i64 (m9 : Nat)] 3)))
      have HA := Lib.hid (show OwnI (w9.alloc (.cells #[.int .i64 (m9 : Nat)] 3)) w.heap.size (w9.alloc (.cells #[.int .i64 (m9 : Nat)] 3)).heap.size (some ⟨w9.heap.size, 0, none⟩) 1 1 (atL [(m9 : Int)]) from (RowOwn.congr (one_own w9 (.int .i64 (m9 : Nat)) 3) (fun j hj => by (obtain rfl : j = 0 := by omega); rfl)).wide hw9 (by simp))
      rw [← World.setCell_alloc_past (w := w9) (.cells #[.int .i64 (m9 : Nat)] 3) gL (m8 * 3 + 2) (.slice (some ⟨w9.heap.size, 0, none⟩) 1 1) hgl9]
      refine ⟨_, cb, n, _, RmO.putH (l := [(m9 : Int)]) (L := 1) HOa.out hm8 rfl HA.out (fun q hq => by cases hq; show w9.heap.size ≠ gL; omega) (fun q hq g2 hg2 e => ?_), hn6, fun q hq => ?_, rfl, ?_, ?_⟩
      · cases e
        exact absurd ((HO9.out.hears q hq).1.lt _ hg2).2 (Nat.lt_irrefl _)
      · unfold updE
        split
        · show [(m9 : Int)].length ≤ 100
          simp
        · exact HN.out q hq
      · exact ((HR9.out.alloc _).setCell (show g < gL by omega) _).mono (by omega)
      · exact (HP9.out.alloc (Nat.le_refl _) _).setCell hlo _
end Go.Proofs.Ytelcclhaepfmgaa
