/- Packets as bytes, one behind the other: the program's and the reference's. -/
import Derived.Test.YtmidpodoapggnaaHeb
import Derived.Test.YtmidpodoapggnaaPkm
namespace Go.Proofs.Ytmidpodoapggnaa
open Go Go.RowKit
set_option linter.unusedVariables false
set_option linter.unusedSimpArgs false
/-- The bytes of the first k. -/
def hdrsZ (p : Nat → Pk) : Nat → Nat → Int
  | 0 => fun _ => 0
  | k + 1 => hdrZ (hdrsZ p k) (8 * k) (p k).w (p k).t (p k).l (p k).s (p k).k (p k).z
theorem hdr_cat (z : Nat → Int) (m : Nat) (a b c d : Int) (k zz : Bool) (j : Nat) (hj : j < m + 8) :
    (if j < m then z j else hdrZ (fun _ => 0) 0 a b c d k zz (j - m)) = hdrZ z m a b c d k zz j := by
  simp only [hdrZ, byt2, byt3]
  generalize flg c k zz = f
  rcases Nat.lt_or_ge j m with h | h
  · rw [if_pos h]
    simp only [snocI]
    repeat rw [if_pos (by omega)]
  · obtain ⟨r, rfl⟩ : ∃ r, j = m + r := ⟨j - m, by omega⟩
    rw [if_neg (by omega), Nat.add_sub_cancel_left]
    rcases (by omega : r = 0 ∨ r = 1 ∨ r = 2 ∨ r = 3 ∨ r = 4 ∨ r = 5 ∨ r = 6 ∨ r = 7) with rfl | rfl | rfl | rfl | rfl | rfl | rfl | rfl
    all_goals
      simp only [snocI]
      repeat (first | rw [if_pos (by omega)] | rw [if_neg (by omega)])
theorem cat_hdr {w : World} {lo hi m c : Nat} {A : Option Addr} {z : Nat → Int} {a b d e : Int} {k zz : Bool} (h : RowOwn 3 w lo hi A (m + 8) c 1 (catF (m * 1) (intV z) (intV (hdrZ (fun _ => 0) 0 a b d e k zz)))) : OwnI w lo hi A (m + 8) c (hdrZ z m a b d e k zz) := by
  refine RowOwn.congr h fun j hj => ?_
  have := hdr_cat z m a b d e k zz j (by omega)
  unfold catF intV
  rw [← this, Nat.mul_one]
  split <;> rfl
set_option maxHeartbeats 4000000 in
theorem ihds_no (w : World) {lo hi : Nat} {A : Option Addr} {n c : Nat} {p : Nat → Pk} (h : RowAt w lo hi A n 6 (PkF p)) (hh : hi ≤ w.heap.size) (hn : n ≤ 1048576) (hp : ¬ PksOk n p) :
    Calls Try.prog 38 #[.slice A n c] w (GivesIB w 0 (fun _ => 0) false) := by
  have hv := fun W h1 h2 => ipks_any W lo hi A n c p h1 h2 hn
  rw [show pksB n p = false from decide_eq_false hp] at hv
  have HV := Lib.hid hv
  have H := Lib.hid h
  clear hv hp h
  go_enter Try.func38, Try.ntmps38
  go_wp2_with fail
  refine (HV.out _ (H.out.below hh (by repeat (first | (with_reducible exact Below.refl _ _) | (with_reducible refine Bal ?_ _) | (with_reducible refine Below.drew ?_) | (with_reducible refine below_drewN ?_ _) | (with_reducible refine Bset ?_ ?_ _; focus (first | (with_reducible exact Nat.le_refl _) | (simp; done) | (simp; omega) | omega)) | (with_reducible refine Bt ?_ (by assumption)) | (with_reducible refine Bp (g := g) ?_ (by assumption) (by assumption))))) (by first | exact Nat.le_refl _ | (simp; done) | (simp; omega) | omega)).mono ?_
  rintro e w1 ⟨rfl, hb1⟩
  obtain ⟨hc1, hf1⟩ := bcell hb1
  have hy1 := hb1.size
  try simp at hy1
  first | (have hz1 : w.heap.size < w1.heap.size := by (have := hb1.size; (try simp at this); omega)) | skip
  go_wp2_with fail
  go_ret2
  refine ⟨_, _, (empty_row _ _ 1 _).wide (by omega) (by simp), rfl, ?_⟩
  repeat (first | (with_reducible exact Below.refl _ _) | (with_reducible refine Bal ?_ _) | (with_reducible refine Below.drew ?_) | (with_reducible refine below_drewN ?_ _) | (with_reducible refine Bset ?_ ?_ _; focus (first | (with_reducible exact Nat.le_refl _) | (simp; done) | (simp; omega) | omega)) | (with_reducible refine Bt ?_ (by assumption)) | (with_reducible refine Bp (g := g) ?_ (by assumption) (by assumption)))
set_option maxHeartbeats 8000000 in
theorem ihds_yes (w : World) {lo hi : Nat} {A : Option Addr} {n c : Nat} {p : Nat → Pk} (h : RowAt w lo hi A n 6 (PkF p)) (hh : hi ≤ w.heap.size) (hn : n ≤ 1048576) (hp : PksOk n p) :
    Calls Try.prog 38 #[.slice A n c] w (GivesIB w (8 * n) (hdrsZ p n) true) := by
  obtain ⟨i0, q1, q2, q3, q4⟩ := info_parts info_int
  have hv := fun W h1 h2 => ipks_any W lo hi A n c p h1 h2 hn
  rw [show pksB n p = true from decide_eq_true hp] at hv
  have h20 := hp.1
  have HP := Lib.hid hp.2
  have HV := Lib.hid hv
  have H := Lib.hid h
  clear hv hp h
  go_enter Try.func38, Try.ntmps38
  go_wp2_with fail
  refine (HV.out _ (H.out.below hh (by repeat (first | (with_reducible exact Below.refl _ _) | (with_reducible refine Bal ?_ _) | (with_reducible refine Below.drew ?_) | (with_reducible refine below_drewN ?_ _) | (with_reducible refine Bset ?_ ?_ _; focus (first | (with_reducible exact Nat.le_refl _) | (simp; done) | (simp; omega) | omega)) | (with_reducible refine Bt ?_ (by assumption)) | (with_reducible refine Bp (g := g) ?_ (by assumption) (by assumption))))) (by first | exact Nat.le_refl _ | (simp; done) | (simp; omega) | omega)).mono ?_
  rintro e w1 ⟨rfl, hb1⟩
  obtain ⟨hc1, hf1⟩ := bcell hb1
  have hy1 := hb1.size
  try simp at hy1
  first | (have hz1 : w.heap.size < w1.heap.size := by (have := hb1.size; (try simp at this); omega)) | skip
  have hB1 : Below w.heap.size w w1 := by repeat (first | (with_reducible exact Below.refl _ _) | (with_reducible refine Bal ?_ _) | (with_reducible refine Below.drew ?_) | (with_reducible refine below_drewN ?_ _) | (with_reducible refine Bset ?_ ?_ _; focus (first | (with_reducible exact Nat.le_refl _) | (simp; done) | (simp; omega) | omega)) | (with_reducible refine Bt ?_ (by assumption)) | (with_reducible refine Bp (g := g) ?_ (by assumption) (by assumption)))
  clear hc1 hf1
  go_wp2_with (at_make; refine wpList_make_own _ rfl _ _ _ rfl w.heap.size 3 i0 _ 1 Try.underlying34 q1 q2 q3 .i64 .i64 _ (8 * n) rfl rfl (by omega) (by rw [q4]; omega) (by unfold maxLen; omega) (by omega) ?_; intro wm hownm hgm)
  have hOm : OwnI wm w.heap.size wm.heap.size _ 0 (8 * n) (hdrsZ p 0) := RowOwn.made hownm
  have hBm : Below w.heap.size w wm := hB1.grown hgm hB1.size (by simp)
  clear hownm hgm
  go_loopw [4, 17] (fun b i wr => ∃ k A c L, k ≤ n ∧ L = 8 * k ∧ i = .int .i64 (k : Nat) ∧ b = .slice A L c ∧ OwnI wr w.heap.size wr.heap.size A L c (hdrsZ p k) ∧ Below w.heap.size w wr) (fun _ i _ => n - (intOf i).toNat)
  case atStart => exact ⟨0, _, _, 0, Nat.zero_le _, rfl, rfl, rfl, hOm, hBm⟩
  case round =>
    obtain ⟨k, A', c', L, hk, hL, rfl, rfl, hO, hB⟩ := hrel
    have hBs := hB.size
    by_cases hkn : k < n
    · obtain ⟨b, off, rfl, _, hb2, c0, c1, c2, c3, c4, c5⟩ := Pk_at (H.out.below hh hB) hkn
      have hbw : b < wr.heap.size := by omega
      have hpk := (HP.out k hkn).1
      have HPK := Lib.hid hpk
      have HL := Lib.hid hL
      have HO := Lib.hid hO
      clear hpk hL hO
      go_wp2_with fail
      refine (apphdr _ (p k).w (p k).t (p k).l (p k).s (p k).k (p k).z (RowOwn.alloc HO.out _) (by simp; omega) (by have := HL.out; omega) HPK.out).mono ?_
      rintro e w2 ⟨A2, c2', hO2, rfl, hG2⟩
      have hB2 : Below w.heap.size w w2 := (hB.alloc hB.size _).trans (hG2.below (by simp; omega) (fun g hg => (HO.out.1.lt g hg).1))
      clear hG2
      go_wp2
      go_roundw
      case rel =>
        have hL2 := HL.out
        subst hL2
        exact ⟨k + 1, A2, c2', _, by omega, by omega, by go_num, rfl, hO2, hB2⟩
      case measure => simp [intOf]; omega
    · obtain rfl : k = n := by omega
      subst hL
      go_wp2
      go_ret2
      exact ⟨_, _, hO, rfl, hB⟩
set_option maxHeartbeats 4000000 in
theorem shds_no (w : World) {lo hi : Nat} {A : Option Addr} {n c : Nat} {p : Nat → Pk} (h : RowAt w lo hi A n 6 (PkF p)) (hh : hi ≤ w.heap.size) (hn : n ≤ 1048576) (hp : ¬ PksOk n p) :
    Calls Try.prog 39 #[.slice A n c] w (GivesIB w 0 (fun _ => 0) false) := by
  have hv := fun W h1 h2 => spks_any W lo hi A n c p h1 h2 hn
  rw [show pksB n p = false from decide_eq_false hp] at hv
  have HV := Lib.hid hv
  have H := Lib.hid h
  clear hv hp h
  go_enter Try.func39, Try.ntmps39
  go_wp2_with fail
  refine (HV.out _ (H.out.alloc hh _) (by first | exact Nat.le_refl _ | (simp; done) | (simp; omega) | omega)).mono ?_
  rintro e w1 ⟨rfl, hb1⟩
  go_wp2_with fail
  go_ret2
  have hE := (empty_row w 3 1 (intV fun _ => 0)).below (B := w.heap.size + 1) (Nat.le_refl _) (show Below (w.heap.size + 1) (w.alloc (.cells #[] 3)) w1 from (by simpa using hb1))
  refine ⟨_, _, hE.wide (Nat.le_refl _) (by have := hb1.size; simp at this; omega), rfl, ?_⟩
  repeat (first | (with_reducible exact Below.refl _ _) | (with_reducible refine Bal ?_ _) | (with_reducible refine Below.drew ?_) | (with_reducible refine below_drewN ?_ _) | (with_reducible refine Bset ?_ ?_ _; focus (first | (with_reducible exact Nat.le_refl _) | (simp; done) | (simp; omega) | omega)) | (with_reducible refine Bt ?_ (by assumption)) | (with_reducible refine Bp (g := g) ?_ (by assumption) (by assumption)))
set_option maxHeartbeats 8000000 in
theorem shds_yes (w : World) {lo hi : Nat} {A : Option Addr} {n c : Nat} {p : Nat → Pk} (h : RowAt w lo hi A n 6 (PkF p)) (hh : hi ≤ w.heap.size) (hn : n ≤ 1048576) (hp : PksOk n p) :
    Calls Try.prog 39 #[.slice A n c] w (GivesIB w (8 * n) (hdrsZ p n) true) := by
  obtain ⟨i0, q1, q2, q3, q4⟩ := info_parts info_int
  have hv := fun W h1 h2 => spks_any W lo hi A n c p h1 h2 hn
  rw [show pksB n p = true from decide_eq_true hp] at hv
  have h20 := hp.1
  have HP := Lib.hid hp.2
  have HV := Lib.hid hv
  have H := Lib.hid h
  clear hv hp h
  go_enter Try.func39, Try.ntmps39
  go_wp2_with fail
  refine (HV.out _ (H.out.alloc hh _) (by first | exact Nat.le_refl _ | (simp; done) | (simp; omega) | omega)).mono ?_
  rintro e w1 ⟨rfl, hb1⟩
  have hE := (empty_row w 3 1 (intV (hdrsZ p 0))).below (B := w.heap.size + 1) (Nat.le_refl _) (show Below (w.heap.size + 1) (w.alloc (.cells #[] 3)) w1 from (by simpa using hb1))
  have hB1 : Below w.heap.size w w1 := by repeat (first | (with_reducible exact Below.refl _ _) | (with_reducible refine Bal ?_ _) | (with_reducible refine Below.drew ?_) | (with_reducible refine below_drewN ?_ _) | (with_reducible refine Bset ?_ ?_ _; focus (first | (with_reducible exact Nat.le_refl _) | (simp; done) | (simp; omega) | omega)) | (with_reducible refine Bt ?_ (by assumption)) | (with_reducible refine Bp (g := g) ?_ (by assumption) (by assumption)))
  have hs1 := hb1.size
  (try simp at hs1)
  clear hb1
  go_wp2_with fail
  go_loopw [4, 5] (fun b i wr => ∃ k A c L, k ≤ n ∧ L = 8 * k ∧ i = .int .i64 (k : Nat) ∧ b = .slice A L c ∧ OwnI wr w.heap.size wr.heap.size A L c (hdrsZ p k) ∧ Below w.heap.size w wr) (fun _ i _ => n - (intOf i).toNat)
  case atStart => exact ⟨0, _, _, 0, Nat.zero_le _, rfl, rfl, rfl, hE.wide (Nat.le_refl _) (by omega), hB1⟩
  case round =>
    obtain ⟨k, A', c', L, hk, hL, rfl, rfl, hO, hB⟩ := hrel
    have hBs := hB.size
    by_cases hkn : k < n
    · obtain ⟨b, off, rfl, _, hb2, c0, c1, c2, c3, c4, c5⟩ := Pk_at (H.out.below hh hB) hkn
      have hbw : b < wr.heap.size := by omega
      have hpk := (HP.out k hkn).1
      have HPK := Lib.hid hpk
      have HL := Lib.hid hL
      have HO := Lib.hid hO
      clear hpk hL hO
      go_wp2_with fail
      refine (sl33_any _ (p k).w (p k).t (p k).l (p k).s (p k).k (p k).z HPK.out).mono ?_
      rintro e w2 ⟨A2, c2', hO2, rfl, hb3⟩
      have hO1 := Lib.hid (RowOwn.below (Nat.le_refl _) HO.out hb3)
      have hB2 := hB.trans (hb3.mono hB.size)
      have hz2 := hB2.size
      go_wp2_with (at_builtin; refine wpList_rowAppend _ rfl (.tmp 17) (.tmp 22) _ rfl 3 i0 _ 1 8 Try.underlying34 q1 q2 q3 q4 rfl (by decide) w.heap.size _ A' L c' (intV (hdrsZ p k)) rfl hO1.out _ _ A2 8 _ _ rfl hO2.ints ?_ (by have := HL.out; unfold maxLen; omega) (by have := HL.out; omega) (by omega) ?_; (focus (intro _ _; rfl)); intro A3 c3' w3 hO3 hG3 hL3)
      have hO4 := cat_hdr hO3
      have hB3 := hB2.grown hG3 hB2.size (fun g hg => (hO1.out.1.lt g hg).1)
      clear hO3 hG3 hL3 hO2 hb3 hB2
      go_wp2
      go_roundw
      case rel =>
        have hL2 := HL.out
        subst hL2
        exact ⟨k + 1, A3, c3', _, by omega, by omega, by go_num, rfl, hO4, hB3⟩
      case measure => simp [intOf]; omega
    · obtain rfl : k = n := by omega
      subst hL
      go_wp2
      go_ret2
      exact ⟨_, _, hO, rfl, hB⟩
end Go.Proofs.Ytmidpodoapggnaa
