/- Rooms: who hears another one, by the reference: the walk where it succeeds. -/
import Derived.Test.YtelcclhaepfmgaaRsh
namespace Go.Proofs.Ytelcclhaepfmgaa
open Go Go.RowKit
set_option linter.unusedVariables false
set_option linter.unusedSimpArgs false
theorem RmO.wide {lo lo' n c : Nat} {B : Option Addr} {M : Nat → Mb} {w : World} (h : RmO lo B n c M w) (hl : lo' ≤ lo) : RmO lo' B n c M w :=
  ⟨h.row.wide hl (Nat.le_refl _), fun i hi => (h.hears i hi).wide hl (Nat.le_refl _), h.dis, h.two⟩
set_option maxRecDepth 100000 in
set_option maxHeartbeats 8000000 in
theorem shr_ok (w : World) (lo hi : Nat) (A : Option Addr) (n c : Nat) (M : Nat → Mb) (id other : Int) (on : Bool) (a : Nat) (h : Room w lo hi A n M) (hi' : hi ≤ w.heap.size) (hn : n ≤ 1048576) (hb : ∀ i, i < n → (M i).p.n ≤ 1048576) (ha : atR (plain M) id n = a) (hok : hearOk n (plain M) id other on) :
    Calls Try.prog 31 #[.slice A n c, .int .i64 id, .int .i64 other, .bool on] w (HearRet n (putR (plain M) a (hrL (plain M) (M a).p other on n)) w) := by
  obtain ⟨i1, r1, r2, r3, r4⟩ := info_parts info_int
  have hv := fun W (hw : Below w.heap.size w W) => srv_any W lo hi A n c M (h.below hi' hw) (Nat.le_trans hi' hw.size) hn hb
  have HP := Lib.hid (fun v W (hw : Below w.heap.size w W) => l31At_any W lo hi A n c v M (h.1.below hi' hw) (Nat.le_trans hi' hw.size) hn)
  obtain ⟨h1, h2, h3, h4, h5⟩ := hok
  rw [ha] at h2 h5
  have hpa : placeI n (plain M) id = (a : Nat) := by unfold placeI; rw [ha, if_pos h2]
  have HH := Lib.hid (fun v W (hw : Below w.heap.size w W) => l31Has_any W lo hi (M a).A (M a).p.n (M a).c v (M a).p.z ((h.2 a h2).below hi' hw) (Nat.le_trans hi' hw.size) (hb a h2))
  have HC := Lib.hid (fun W (hw : Below w.heap.size w W) => l31Copy_any W lo hi A n c M (h.below hi' hw) (Nat.le_trans hi' hw.size) hn hb)
  have H := Lib.hid h.1
  rw [show rmB n (plain M) = true from decide_eq_true h1] at hv
  have HV := Lib.hid hv
  obtain ⟨pv, hpv⟩ : ∃ v, placeI n (plain M) other = v := ⟨_, rfl⟩
  rw [hpv] at h3
  have hvb : decide (pv < 0) = false := decide_eq_false h3
  have hidb : (id == other) = false := by simpa using h4
  obtain ⟨hx, hhx⟩ : ∃ x, hasB (M a).p.n (M a).p.z other = x := ⟨_, rfl⟩
  have hxo : (hx == on) = false := by
    have h6 : hx ≠ on := fun e => h5 (hhx.trans e)
    simpa using h6
  clear hv h h1 h3 h4 h5 ha hb
  go_enter Try.func31, Try.ntmps31
  go_wp2_with fail
  refine (HP.out _ _ ?_).mono ?_
  focus (repeat (first | (with_reducible exact Below.refl _ _) | (with_reducible refine Bal ?_ _) | (with_reducible refine Below.drew ?_) | (with_reducible refine below_drewN ?_ _) | (with_reducible refine Bset ?_ ?_ _; focus (first | (with_reducible exact Nat.le_refl _) | (simp; done) | (simp; omega) | omega)) | (with_reducible refine Bt ?_ (by assumption)) | (with_reducible refine Bp (g := g) ?_ (by assumption) (by assumption))))
  rintro e w1 ⟨rfl, hb1⟩
  rw [hpa]
  have HB1 := Lib.hid (show Below w.heap.size w w1 by repeat (first | (with_reducible exact Below.refl _ _) | (with_reducible refine Bal ?_ _) | (with_reducible refine Below.drew ?_) | (with_reducible refine below_drewN ?_ _) | (with_reducible refine Bset ?_ ?_ _; focus (first | (with_reducible exact Nat.le_refl _) | (simp; done) | (simp; omega) | omega)) | (with_reducible refine Bt ?_ (by assumption)) | (with_reducible refine Bp (g := g) ?_ (by assumption) (by assumption))))
  clear hb1
  go_wp2_with fail
  refine (HV.out _ HB1.out).mono ?_
  rintro e w2 ⟨rfl, hb2⟩
  have HB2 := Lib.hid (HB1.out.trans (hb2.mono HB1.out.size))
  clear hb2 HB1
  go_wp2_with fail
  refine (HP.out _ _ HB2.out).mono ?_
  rintro e w3 ⟨rfl, hb3⟩
  rw [hpv]
  have HB3 := Lib.hid (HB2.out.trans (hb3.mono HB2.out.size))
  clear hb3 HB2
  obtain ⟨b, off, rfl, _, hbl, c0, c1, c2⟩ := Mb_at (H.out.below hi' HB3.out) h2
  have hbw : b < w3.heap.size := by have := HB3.out.size; omega
  go_wp2_with fail
  clear c0 c1 c2
  refine (HH.out _ _ HB3.out).mono ?_
  rintro e w4 ⟨rfl, hb4⟩
  rw [hhx]
  have HB4 := Lib.hid (HB3.out.trans (hb4.mono HB3.out.size))
  clear hb4 HB3
  go_wp2_with fail
  refine (HC.out _ HB4.out).mono ?_
  rintro e w5 ⟨B3, cb3, M3, hO5, hp5, rfl, hb5⟩
  have HB5 := Lib.hid (HB4.out.trans (hb5.mono HB4.out.size))
  have HO5 := Lib.hid (hO5.wide HB4.out.size)
  have HP5 := Lib.hid hp5
  clear hO5 hp5 hb5 HB4
  go_wp2_with fail
  have hS6 : ∃ w6 : World, w6 = w5 := ⟨_, rfl⟩
  obtain ⟨w6, rfl⟩ := hS6
  have HS : Hid (OwnI (w6.alloc (.cells #[] 3)) w6.heap.size (w6.alloc (.cells #[] 3)).heap.size (some ⟨w6.heap.size, 0, none⟩) 0 0 (atL [])) := Lib.hid ((empty_row w6 3 1 (intV (atL []))).wide (Nat.le_refl _) (by simp))
  go_loopw [12, 13] (fun s i wr => ∃ (k : Nat) (B : Option Addr) (cb L : Nat), k ≤ n ∧ i = .int .i64 (k : Nat) ∧ s = .slice B L cb ∧ Hid (L = (hrL (plain M) (M a).p other on k).length) ∧ Hid (OwnI wr w6.heap.size wr.heap.size B L cb (atL (hrL (plain M) (M a).p other on k))) ∧ Hid (Below w6.heap.size w6 wr)) (fun _ i _ => n - (intOf i).toNat)
  case atStart => exact ⟨0, _, 0, 0, Nat.zero_le _, rfl, rfl, Lib.hid rfl, HS, Lib.hid (Ba _ _)⟩
  case round =>
    obtain ⟨k, B, cb, L, hk, rfl, rfl, HL, HO, HB⟩ := hrel
    clear HS
    have hws := HB.out.size
    have hLk : L ≤ k := by have := hrL_len (plain M) (M a).p other on k; have e := HL.out; omega
    have HBw := Lib.hid (HB5.out.trans (HB.out.mono HB5.out.size))
    have hbr : b < wr.heap.size := by have := HBw.out.size; omega
    by_cases hkn : k < n
    rotate_left
    · obtain rfl : k = n := by omega
      have HR := Lib.hid (HO5.out.below HB.out)
      rcases RowOwn.cases HR.out.row with ⟨_, e, _⟩ | ⟨g, rfl, hlo, hgh, hgl, hnc, hfz, hcl⟩
      · omega
      obtain ⟨u, hu⟩ : ∃ u, wr.cell? ⟨g, a * 3 + 2, none⟩ = some u := ⟨_, hcl (a * 3 + 2) (by omega)⟩
      have hf := hfz (a * 3 + 2)
      have hg6 : g < w6.heap.size := (HO5.out.row.1.lt g rfl).2
      clear hcl hfz
      go_wp2_with fail
      refine bodyPost_retE rfl ?_
      apply Exists.intro
      refine ⟨?_, ?_⟩
      · simp only [results, Try.results31]
        go_simp
        first | done | rfl
      go_light
      refine ⟨_, _, _, RmO.putH HR.out h2 HL.out (HO.out.wide HB5.out.size (Nat.le_refl _)) (fun q hq => by have := (HO.out.1.lt q hq).1; omega) (fun i hi q hq e => by have h8 := ((HO5.out.hears i hi).1.lt q hq).2; have h9 := (HO.out.1.lt q e).1; omega), fun i hi => ?_, rfl, ?_⟩
      · unfold updE putR
        by_cases e : i = a
        · rw [if_pos e, if_pos e, HP5.out a h2]; rfl
        · rw [if_neg e, if_neg e]; exact HP5.out i hi
      · exact HBw.out.setCell (p := ⟨g, a * 3 + 2, none⟩) hlo _
    obtain ⟨b', off', hAe, _, _, c0, c1, c2⟩ := Mb_at (H.out.below hi' HBw.out) hkn
    cases hAe
    obtain ⟨b2, off2, hAe2, _, _, d0, d1, d2⟩ := Mb_at (H.out.below hi' HBw.out) h2
    cases hAe2
    by_cases hvo : (M k).p.id = other
    · have hvob : ((M k).p.id == other) = true := by simpa using hvo
      cases hon : on
      · subst hon
        have HE := Lib.hid (show hrL (plain M) (M a).p other false (k + 1) = hrL (plain M) (M a).p other false k from if_neg (by show ¬ hrB (M a).p other false (M k).p.id = true; unfold hrB; rw [hvob]; simp))
        have HOW := HO
        have HBW := HB
        go_wp2_with fail
        go_roundw
        case rel =>
          have e := HE.out
          refine ⟨k + 1, B, cb, L, by omega, by go_num, rfl, ?_, ?_, HBW⟩
          · rw [e]; exact HL
          · rw [e]; exact HOW
        case measure => simp [intOf]; omega
      · subst hon
        have HE := Lib.hid (show hrL (plain M) (M a).p other true (k + 1) = hrL (plain M) (M a).p other true k ++ [(M k).p.id] from if_pos (by show hrB (M a).p other true (M k).p.id = true; unfold hrB; rw [hvob]; simp))
        have HOW := HO
        have HBW := HB
        go_upto_region 8 with (at_builtin; go_loud (refine wpList_rowAppendN _ rfl (.tmp 82) (.tmp 84) _ rfl 3 i1 _ 1 8 Try.underlying26 r1 r2 r3 r4 rfl (by decide) w6.heap.size _ B L cb (intV (atL (hrL (plain M) (M a).p other true k))) rfl (RowOwn.alloc HOW.out _) _ _ _ 1 1 _ rfl (one_row _ _ _) (L + 1) rfl ?_ (by unfold maxLen; omega) (by omega) (by simp; omega) ?_); (focus (intro i hi; rfl)); intro B8 cb8 w8 hO8 hG8 hL8)
        have HO8 := Lib.hid (show OwnI w8 w6.heap.size w8.heap.size B8 (L + 1) cb8 (atL (hrL (plain M) (M a).p other true (k + 1))) by
          have e := HE.out
          rw [hvo] at e
          have e2 := HL.out
          have h9 := snoc_L (l := hrL (plain M) (M a).p other true k) (x := other) (N := L + 1) (by omega) (by rw [← e2]; exact hO8)
          rw [e]
          rw [show (hrL (plain M) (M a).p other true k ++ [other]).length = L + 1 by simp; omega] at h9
          exact h9)
        have HB8 := Lib.hid (show Below w6.heap.size w6 w8 from (HBW.out.alloc (by have := HBW.out.size; omega) _).grown hG8 (by have := HBW.out.size; simp; omega) (fun g hg => (HOW.out.1.lt g hg).1))
        clear hO8 hG8 hL8
        go_wp2_with fail
        go_roundw
        case rel =>
          refine ⟨k + 1, B8, cb8, L + 1, by omega, by go_num, rfl, Lib.hid ?_, HO8, HB8⟩
          have e := HE.out
          have e2 := HL.out
          rw [e, e2]; simp
        case measure => simp [intOf]; omega
    · have hvob : ((M k).p.id == other) = false := by simpa using hvo
      obtain ⟨bb, hbb⟩ : ∃ x, hasB (M a).p.n (M a).p.z (M k).p.id = x := ⟨_, rfl⟩
      go_wp2_with fail
      refine (HH.out _ _ HBw.out).mono ?_
      rintro e w7 ⟨rfl, hb7⟩
      rw [hbb]
      have HBW := Lib.hid (HB.out.trans (hb7.mono hws))
      have HOW := Lib.hid ((HO.out.below (Nat.le_refl _) hb7).wide (Nat.le_refl _) hb7.size)
      clear c0 c1 c2 d0 d1 d2 HB HO hb7
      cases bb
      · have HE := Lib.hid (show hrL (plain M) (M a).p other on (k + 1) = hrL (plain M) (M a).p other on k from if_neg (by show ¬ hrB (M a).p other on (M k).p.id = true; unfold hrB; rw [hvob, hbb]; simp))
        go_wp2_with fail
        go_roundw
        case rel =>
          have e := HE.out
          refine ⟨k + 1, B, cb, L, by omega, by go_num, rfl, ?_, ?_, HBW⟩
          · rw [e]; exact HL
          · rw [e]; exact HOW
        case measure => simp [intOf]; omega
      · have HE := Lib.hid (show hrL (plain M) (M a).p other on (k + 1) = hrL (plain M) (M a).p other on k ++ [(M k).p.id] from if_pos (by show hrB (M a).p other on (M k).p.id = true; unfold hrB; rw [hvob, hbb]; simp))
        have hz7 := HBW.out.size
        go_upto_region 8 with (at_builtin; go_loud (refine wpList_rowAppendN _ rfl (.tmp 82) (.tmp 84) _ rfl 3 i1 _ 1 8 Try.underlying26 r1 r2 r3 r4 rfl (by decide) w6.heap.size _ B L cb (intV (atL (hrL (plain M) (M a).p other on k))) rfl (RowOwn.alloc HOW.out _) _ _ _ 1 1 _ rfl (one_row _ _ _) (L + 1) rfl ?_ (by unfold maxLen; omega) (by omega) (by simp; omega) ?_); (focus (intro i hi; rfl)); intro B8 cb8 w8 hO8 hG8 hL8)
        have HO8 := Lib.hid (show OwnI w8 w6.heap.size w8.heap.size B8 (L + 1) cb8 (atL (hrL (plain M) (M a).p other on (k + 1))) by
          have e := HE.out
          have e2 := HL.out
          have h9 := snoc_L (l := hrL (plain M) (M a).p other on k) (x := (M k).p.id) (N := L + 1) (by omega) (by rw [← e2]; exact hO8)
          rw [e]
          rw [show (hrL (plain M) (M a).p other on k ++ [(M k).p.id]).length = L + 1 by simp; omega] at h9
          exact h9)
        have HB8 := Lib.hid (show Below w6.heap.size w6 w8 from (HBW.out.alloc (by have := HBW.out.size; omega) _).grown hG8 (by have := HBW.out.size; simp; omega) (fun g hg => (HOW.out.1.lt g hg).1))
        clear hO8 hG8 hL8
        go_wp2_with fail
        go_roundw
        case rel =>
          refine ⟨k + 1, B8, cb8, L + 1, by omega, by go_num, rfl, Lib.hid ?_, HO8, HB8⟩
          have e := HE.out
          have e2 := HL.out
          rw [e, e2]; simp
        case measure => simp [intOf]; omega
end Go.Proofs.Ytelcclhaepfmgaa
