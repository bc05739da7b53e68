/- Rooms in the exact laws: the laws' own helpers walked. -/
import Derived.Test.YtelcclhaepfmgaaRxm
namespace Go.Proofs.Ytelcclhaepfmgaa
open Go Go.RowKit Go.Maps
set_option linter.unusedVariables false
set_option linter.unusedSimpArgs false
theorem szI_in (w : World) (A : Option Addr) (n c v : Nat) (h : n ≤ v) (hv : v ≤ 1048576) :
    Calls Try.prog 62 #[.slice A n c, .int .i64 (v : Nat)] w fun e w' => e = .returned (.int .i64 ((v - n : Nat) : Int)) ∧ w = w' := by
  have h1 : ¬ (v : Int) - n < 0 := by omega
  go_enter Try.func62, Try.ntmps62
  go_wp2_with fail
  go_ret
  exact ⟨ret_int (by omega), rfl⟩
theorem szI_out (w : World) (A : Option Addr) (n c v : Nat) (h : v < n) (hv : v ≤ 1048576) (hm : n ≤ 9223372036854775807) :
    Calls Try.prog 62 #[.slice A n c, .int .i64 (v : Nat)] w fun e w' => e = .returned (.int .i64 (-1)) ∧ w = w' := by
  have h1 : (v : Int) - n < 0 := by omega
  go_enter Try.func62, Try.ntmps62
  go_wp2_with fail
  go_ret
  exact ⟨rfl, rfl⟩
theorem szM_in (w : World) (id : Int) (s : Bool) (A : Option Addr) (n c v : Nat) (h : n ≤ v) (hv : v ≤ 1048576) :
    Calls Try.prog 59 #[.agg #[.int .i64 id, .bool s, .slice A n c], .int .i64 (v : Nat)] w fun e w' => e = .returned (.int .i64 ((v - n : Nat) : Int)) ∧ Below w.heap.size w w' := by
  have h1 : ¬ ((v - n : Nat) : Int) < 0 := by omega
  go_enter Try.func59, Try.ntmps59
  go_wp2_with fail
  refine (szI_in _ A n c v h hv).mono ?_
  rintro e w' ⟨rfl, rfl⟩
  go_wp2_with fail
  go_ret
  go_light
  refine ⟨rfl, ?_⟩
  repeat (first | (with_reducible exact Below.refl _ _) | (with_reducible refine Bal ?_ _) | (with_reducible refine Below.drew ?_) | (with_reducible refine below_drewN ?_ _) | (with_reducible refine Bset ?_ ?_ _; focus (first | (with_reducible exact Nat.le_refl _) | (simp; done) | (simp; omega) | omega)) | (with_reducible refine Bt ?_ (by assumption)) | (with_reducible refine Bp (g := g) ?_ (by assumption) (by assumption)))
theorem szM_out (w : World) (id : Int) (s : Bool) (A : Option Addr) (n c v : Nat) (h : v < n) (hv : v ≤ 1048576) (hm : n ≤ 9223372036854775807) :
    Calls Try.prog 59 #[.agg #[.int .i64 id, .bool s, .slice A n c], .int .i64 (v : Nat)] w fun e w' => e = .returned (.int .i64 (-1)) ∧ Below w.heap.size w w' := by
  go_enter Try.func59, Try.ntmps59
  go_wp2_with fail
  refine (szI_out _ A n c v h hv hm).mono ?_
  rintro e w' ⟨rfl, rfl⟩
  go_wp2_with fail
  go_ret
  go_light
  refine ⟨rfl, ?_⟩
  repeat (first | (with_reducible exact Below.refl _ _) | (with_reducible refine Bal ?_ _) | (with_reducible refine Below.drew ?_) | (with_reducible refine below_drewN ?_ _) | (with_reducible refine Bset ?_ ?_ _; focus (first | (with_reducible exact Nat.le_refl _) | (simp; done) | (simp; omega) | omega)) | (with_reducible refine Bt ?_ (by assumption)) | (with_reducible refine Bp (g := g) ?_ (by assumption) (by assumption)))
set_option maxRecDepth 100000 in
set_option maxHeartbeats 8000000 in
theorem szMb_in (w : World) (lo hi : Nat) (A : Option Addr) (n c : Nat) (M : Nat → Mb) (h : RowAt w lo hi A n 3 (MbF M)) (hi' : hi ≤ w.heap.size) (hs : n + sumN M n ≤ 1048576) :
    Calls Try.prog 34 #[.slice A n c, .int .i64 1048576] w fun e w' => (∃ v : Int, 0 ≤ v ∧ e = .returned (.int .i64 v)) ∧ Below w.heap.size w w' := by
  have H := Lib.hid h
  clear h
  have hn : n ≤ 1048576 := by omega
  have hn0 : ¬ (1048576 : Int) - n < 0 := by omega
  go_enter Try.func34, Try.ntmps34
  go_wp2_with fail
  go_loopw [1, 5] (fun l i wr => ∃ (k : Nat) (v : Nat), k ≤ n ∧ i = .int .i64 (k : Nat) ∧ l = .int .i64 (v : Nat) ∧ Hid (v + n + sumN M k = 1048576) ∧ Hid (Below w.heap.size w wr)) (fun _ i _ => n - (intOf i).toNat)
  case atStart => exact ⟨0, 1048576 - n, Nat.zero_le _, rfl, (by rw [Int.ofNat_sub hn]; rfl), Lib.hid (by unfold sumN; omega), Lib.hid (Below.refl _ _)⟩
  case round =>
    obtain ⟨k, v, hk, rfl, rfl, HV, HB⟩ := hrel
    by_cases hkn : k < n
    rotate_left
    · obtain rfl : k = n := by omega
      go_wp2_with fail
      go_ret
      exact ⟨⟨_, Int.natCast_nonneg _, rfl⟩, HB.out⟩
    have hws := HB.out.size
    have HR := Lib.hid (H.out.below hi' HB.out)
    obtain ⟨b, off, rfl, -, hb2, c0, c1, c2⟩ := Mb_at HR.out hkn
    have hbw : b < wr.heap.size := by omega
    have hv1 : v ≤ 1048576 := by have := HV.out; omega
    have hat := sumN_at M hkn
    have hmv : (M k).p.n ≤ v := by have := HV.out; omega
    go_wp2_with fail
    refine (szM_in _ _ _ _ _ _ v hmv hv1).mono ?_
    rintro e w2 ⟨rfl, hb2'⟩
    have HB2 := Lib.hid (HB.out.trans (hb2'.mono hws))
    have hz : ¬ ((v - (M k).p.n : Nat) : Int) < 0 := by omega
    clear hb2'
    go_wp2_with fail
    go_roundw
    case rel => exact ⟨k + 1, v - (M k).p.n, by omega, by go_num, rfl, Lib.hid (by have := HV.out; unfold sumN; omega), HB2⟩
    case measure => simp [intOf]; omega
set_option maxRecDepth 100000 in
set_option maxHeartbeats 8000000 in
theorem szMb_big (w : World) (A : Option Addr) (n c : Nat) (hn : 1048576 < n) (hm : n ≤ 9223372036854775807) :
    Calls Try.prog 34 #[.slice A n c, .int .i64 1048576] w fun e w' => e = .returned (.int .i64 (-1)) ∧ Below w.heap.size w w' := by
  have hn0 : (1048576 : Int) - n < 0 := by omega
  go_enter Try.func34, Try.ntmps34
  go_wp2_with fail
  go_ret
  exact ⟨rfl, Below.refl _ _⟩
set_option maxRecDepth 100000 in
set_option maxHeartbeats 8000000 in
theorem szMb_out (w : World) (lo hi : Nat) (A : Option Addr) (n c : Nat) (M : Nat → Mb) (h : RowAt w lo hi A n 3 (MbF M)) (hi' : hi ≤ w.heap.size) (hn : n ≤ 1048576) (hs : 1048576 < n + sumN M n) (hm : ∀ i, i < n → (M i).p.n ≤ 9223372036854775807) :
    Calls Try.prog 34 #[.slice A n c, .int .i64 1048576] w fun e w' => e = .returned (.int .i64 (-1)) ∧ Below w.heap.size w w' := by
  have H := Lib.hid h
  clear h
  have hn0 : ¬ (1048576 : Int) - n < 0 := by omega
  go_enter Try.func34, Try.ntmps34
  go_wp2_with fail
  go_loopw [1, 5] (fun l i wr => ∃ (k : Nat) (v : Nat), k ≤ n ∧ i = .int .i64 (k : Nat) ∧ l = .int .i64 (v : Nat) ∧ Hid (v + n + sumN M k = 1048576) ∧ Hid (Below w.heap.size w wr)) (fun _ i _ => n - (intOf i).toNat)
  case atStart => exact ⟨0, 1048576 - n, Nat.zero_le _, rfl, (by rw [Int.ofNat_sub hn]; rfl), Lib.hid (by unfold sumN; omega), Lib.hid (Below.refl _ _)⟩
  case round =>
    obtain ⟨k, v, hk, rfl, rfl, HV, HB⟩ := hrel
    by_cases hkn : k < n
    rotate_left
    · obtain rfl : k = n := by omega
      exact absurd HV.out (by omega)
    have hws := HB.out.size
    have HR := Lib.hid (H.out.below hi' HB.out)
    obtain ⟨b, off, rfl, -, hb2, c0, c1, c2⟩ := Mb_at HR.out hkn
    have hbw : b < wr.heap.size := by omega
    have hv1 : v ≤ 1048576 := by have := HV.out; omega
    by_cases hmv : (M k).p.n ≤ v
    · skip
      go_wp2_with fail
      refine (szM_in _ _ _ _ _ _ v hmv hv1).mono ?_
      rintro e w2 ⟨rfl, hb2'⟩
      have HB2 := Lib.hid (HB.out.trans (hb2'.mono hws))
      have hz : ¬ ((v - (M k).p.n : Nat) : Int) < 0 := by omega
      clear hb2'
      go_wp2_with fail
      go_roundw
      case rel => exact ⟨k + 1, v - (M k).p.n, by omega, by go_num, rfl, Lib.hid (by have := HV.out; unfold sumN; omega), HB2⟩
      case measure => simp [intOf]; omega
    · have hmk := hm k hkn
      go_wp2_with fail
      refine (szM_out _ _ _ _ _ _ v (by omega) hv1 hmk).mono ?_
      rintro e w2 ⟨rfl, hb2'⟩
      have HB2 := Lib.hid (HB.out.trans (hb2'.mono hws))
      clear hb2'
      go_wp2_with fail
      go_ret
      exact ⟨rfl, HB2.out⟩
set_option maxRecDepth 100000 in
set_option maxHeartbeats 8000000 in
theorem toMb1_any (w : World) (lo hi : Nat) (id : Int) (s : Bool) (A : Option Addr) (n c : Nat) (z : Nat → Int) (h : Ints w lo hi A n z) (hi' : hi ≤ w.heap.size) (hn : n ≤ 1048576) :
    Calls Try.prog 60 #[.agg #[.int .i64 id, .bool s, .slice A n c]] w fun e w' => ∃ B cb, OwnI w' w.heap.size w'.heap.size B n cb z ∧ e = .returned (.agg #[.int .i64 id, .bool s, .slice B n cb]) ∧ Below w.heap.size w w' := by
  have H := Lib.hid h
  clear h
  go_enter Try.func60, Try.ntmps60
  go_wp2_with fail
  refine (toIntS_any _ lo hi A n c z (H.out.below hi' (by repeat (first | (with_reducible exact Below.refl _ _) | (with_reducible refine Bal ?_ _) | (with_reducible refine Below.drew ?_) | (with_reducible refine below_drewN ?_ _) | (with_reducible refine Bset ?_ ?_ _; focus (first | (with_reducible exact Nat.le_refl _) | (simp; done) | (simp; omega) | omega)) | (with_reducible refine Bt ?_ (by assumption)) | (with_reducible refine Bp (g := g) ?_ (by assumption) (by assumption))))) (by first | exact Nat.le_refl _ | (simp; done) | (simp; omega) | omega) hn).mono ?_
  rintro e w1 ⟨B1, cb1, hO1, rfl, hb1⟩
  obtain ⟨hc1, hf1⟩ := bcell hb1
  have hy1 := hb1.size
  try simp at hy1
  have ho1_0 : w.heap.size < w1.heap.size := by (have := hb1.size; (try simp at this); omega)
  have hg1_0 := fun o => hc1 (w.heap.size) o (by first | (simp; done) | (simp; omega) | omega)
  have hk1_0 := fun o => hf1 (w.heap.size) o (by first | (simp; done) | (simp; omega) | omega)
  try simp [go_sem] at hg1_0
  try simp [go_sem] at hk1_0
  have ho1_1 : w.heap.size + 1 < w1.heap.size := by (have := hb1.size; (try simp at this); omega)
  have hg1_1 := fun o => hc1 (w.heap.size + 1) o (by first | (simp; done) | (simp; omega) | omega)
  have hk1_1 := fun o => hf1 (w.heap.size + 1) o (by first | (simp; done) | (simp; omega) | omega)
  try simp [go_sem] at hg1_1
  try simp [go_sem] at hk1_1
  have ho1_2 : w.heap.size + 1 + 1 < w1.heap.size := by (have := hb1.size; (try simp at this); omega)
  have hg1_2 := fun o => hc1 (w.heap.size + 1 + 1) o (by first | (simp; done) | (simp; omega) | omega)
  have hk1_2 := fun o => hf1 (w.heap.size + 1 + 1) o (by first | (simp; done) | (simp; omega) | omega)
  try simp [go_sem] at hg1_2
  try simp [go_sem] at hk1_2
  have HO1 := Lib.hid hO1
  clear hO1
  go_wp2_with fail
  refine bodyPost_retE rfl ?_
  apply Exists.intro
  refine ⟨?_, ?_⟩
  · simp only [results, Try.results60]
    go_simp
    first | done | rfl
  go_light
  refine ⟨B1, cb1, ?_, rfl, ?_⟩
  · refine OwnI.wide (lo := w.heap.size + 1 + 1 + 1) (hi := w1.heap.size) ?_ (by omega) (by first | exact Nat.le_refl _ | (simp; done) | (simp; omega) | omega)
    have h9 := HO1.out
    simp at h9
    repeat (first | (with_reducible exact h9) | (with_reducible refine OwnI.drew ?_) | (with_reducible refine OwnI.alloc ?_ _) | (with_reducible refine OwnI.setC ?_ ?_ _; focus (left; first | omega | (simp; omega) | (simp; done))))
  · skip
    repeat (first | (with_reducible exact Below.refl _ _) | (with_reducible refine Bal ?_ _) | (with_reducible refine Below.drew ?_) | (with_reducible refine below_drewN ?_ _) | (with_reducible refine Bset ?_ ?_ _; focus (first | (with_reducible exact Nat.le_refl _) | (simp; done) | (simp; omega) | omega)) | (with_reducible refine Bt ?_ (by assumption)) | (with_reducible refine Bp (g := g) ?_ (by assumption) (by assumption)))
set_option maxRecDepth 100000 in
set_option maxHeartbeats 8000000 in
theorem toMb_any (w : World) (lo hi : Nat) (A : Option Addr) (n c : Nat) (M : Nat → Mb) (h : Room w lo hi A n M) (hi' : hi ≤ w.heap.size) (hn : n ≤ 1048576) (hb : ∀ i, i < n → (M i).p.n ≤ 1048576) :
    Calls Try.prog 35 #[.slice A n c] w (RmHas n (plain M) w) := by
  obtain ⟨i0, q1, q2, q3, q4⟩ := info_parts info_mb
  have H := Lib.hid h
  have HN := Lib.hid hb
  clear h hb
  go_enter Try.func35, Try.ntmps35
  go_wp2_with (at_make; refine wpList_make_full _ rfl _ _ _ rfl w.heap.size 28 i0 _ 3 Try.underlying23 q1 q2 q3 .i64 .i64 _ _ n rfl rfl rfl rfl (by rw [q4]; omega) (by unfold maxLen; omega) (by first | exact Nat.le_refl _ | simp) ?_; intro w1 hown1 hg1)
  have hst := made_row (sz := 3) (C := MbC) (x := Mb0) rfl (by decide) (fun r hr => by rcases (by omega : r = 0 ∨ r = 1 ∨ r = 2) with rfl | rfl | rfl <;> rfl) hown1
  have HS := Lib.hid (show RmO w.heap.size (some ⟨w.heap.size, 0, none⟩) n n (fun _ => Mb0) w1 from ⟨hst, fun i hi => ⟨⟨by simp [Mb0],   .inl ⟨rfl, rfl⟩⟩, fun g hg => (by cases hg)⟩, fun i hi g hg => (by cases hg), fun i j _ hj g hg => (by cases hg)⟩)
  have HB1 := Lib.hid ((Below.refl w.heap.size w).grown hg1 (Nat.le_refl _) (by simp))
  have hs1 := hst.2 _ rfl
  clear hst hown1 hg1
  go_loopw [4] (fun i wr => ∃ (k : Nat) (M' : Nat → Mb), k ≤ n ∧ i = .int .i64 (k : Nat) ∧ Hid (RmO w.heap.size (some ⟨w.heap.size, 0, none⟩) n n M' wr) ∧ Hid (∀ i, i < k → (M' i).p = (M i).p) ∧ w.heap.size < wr.heap.size ∧ Hid (Below w.heap.size w wr)) (fun i _ => n - (intOf i).toNat)
  case atStart => exact ⟨0, _, Nat.zero_le _, rfl, HS, Lib.hid (fun i hi => absurd hi (by omega)), hs1, HB1⟩
  case round =>
    obtain ⟨k, M', hk, rfl, HO, HP, hs, HB⟩ := hrel
    clear HS HB1 hs1
    by_cases hkn : k < n
    rotate_left
    · obtain rfl : k = n := by omega
      go_wp2_with fail
      go_ret
      exact ⟨_, _, M', HO.out, HP.out, rfl, HB.out⟩
    have HR := Lib.hid (H.out.1.below hi' HB.out)
    have HZ := Lib.hid ((H.out.2 k hkn).below hi' HB.out)
    obtain ⟨b, off, rfl, -, hb2, c0, c1, c2⟩ := Mb_at HR.out hkn
    have hbw : b < wr.heap.size := by omega
    have hzn := HN.out k hkn
    go_wp2_with fail
    refine (toMb1_any wr lo hi (M k).p.id (M k).p.s (M k).A (M k).p.n (M k).c (M k).p.z HZ.out (by omega) hzn).mono ?_
    rintro e w2 ⟨B2, cb2, hO2, rfl, hb2'⟩
    have HX := Lib.hid hO2
    have hs2 := hb2'.size
    have HO2 := Lib.hid (HO.out.below hb2')
    have HB2 := Lib.hid (HB.out.trans (hb2'.mono HB.out.size))
    have HMl := Lib.hid (fun i (hi : i < n) q (hq : ownM (M' i) = some q) => show q < wr.heap.size from ((HO.out.hears i hi).1.lt q hq).2)
    clear hO2 hb2' HO HB HR HZ c0 c1 c2
    rcases RowOwn.cases HO2.out.row with ⟨e, -⟩ | ⟨g, hg, -, -, hgl, -, hfz, hcl⟩
    · cases e
    · obtain rfl : w.heap.size = g := by injection hg with hg; injection hg
      have d0 := hcl (k * 3) (by omega)
      have d1 := hcl (k * 3 + 1) (by omega)
      have d2 := hcl (k * 3 + 2) (by omega)
      generalize MbF M' (k * 3) = y0 at d0
      generalize MbF M' (k * 3 + 1) = y1 at d1
      generalize MbF M' (k * 3 + 2) = y2 at d2
      have f0 := hfz (k * 3)
      have f1 := hfz (k * 3 + 1)
      have f2 := hfz (k * 3 + 2)
      clear hcl hfz hg
      go_wp2_with fail
      go_roundw
      case rel =>
        refine ⟨k + 1, updE M' k ⟨(M k).p, B2, cb2⟩, by omega, by go_num, Lib.hid (RmO.putM (x := ⟨(M k).p, B2, cb2⟩) HO2.out hkn (OwnI.wide HX.out (by omega) (Nat.le_refl _)) (fun q hq e => by have := (HX.out.1.lt q hq).1; omega) (fun i hi q hq e => by have h1 := HMl.out i hi q hq; have h2 := (HX.out.1.lt q e).1; omega)), Lib.hid (fun i hi => ?_), by simp [World.setCell]; omega, Lib.hid (((HB2.out.setCell (Nat.le_refl _) _).setCell (Nat.le_refl _) _).setCell (Nat.le_refl _) _)⟩
        unfold updE
        by_cases e : i = k
        · rw [if_pos e, e]
        · rw [if_neg e]; exact HP.out i (by omega)
      case measure => simp [intOf]; omega
set_option maxRecDepth 100000 in
set_option maxHeartbeats 8000000 in
theorem eqMb1_same (w : World) {lo hi lo2 hi2 : Nat} (id : Int) (s : Bool) (A B : Option Addr) (n c d : Nat) (z : Nat → Int) (h : Ints w lo hi A n z) (h2 : Ints w lo2 hi2 B n z) (hh : hi ≤ w.heap.size) (hh2 : hi2 ≤ w.heap.size) (hn : n ≤ 1048576) :
    Calls Try.prog 61 #[.agg #[.int .i64 id, .bool s, .slice A n c], .agg #[.int .i64 id, .bool s, .slice B n d]] w fun e w' => e = .returned (.bool true) ∧ Below w.heap.size w w' := by
  have H := Lib.hid h
  have H2 := Lib.hid h2
  clear h h2
  have hxx : (id != id) = false := by simp
  go_enter Try.func61, Try.ntmps61
  go_wp2_with fail
  refine (eqIntS_same _ (H.out.below hh (by repeat (first | (with_reducible exact Below.refl _ _) | (with_reducible refine Bal ?_ _) | (with_reducible refine Below.drew ?_) | (with_reducible refine below_drewN ?_ _) | (with_reducible refine Bset ?_ ?_ _; focus (first | (with_reducible exact Nat.le_refl _) | (simp; done) | (simp; omega) | omega)) | (with_reducible refine Bt ?_ (by assumption)) | (with_reducible refine Bp (g := g) ?_ (by assumption) (by assumption))))) (H2.out.below hh2 (by repeat (first | (with_reducible exact Below.refl _ _) | (with_reducible refine Bal ?_ _) | (with_reducible refine Below.drew ?_) | (with_reducible refine below_drewN ?_ _) | (with_reducible refine Bset ?_ ?_ _; focus (first | (with_reducible exact Nat.le_refl _) | (simp; done) | (simp; omega) | omega)) | (with_reducible refine Bt ?_ (by assumption)) | (with_reducible refine Bp (g := g) ?_ (by assumption) (by assumption))))) (by first | exact Nat.le_refl _ | (simp; done) | (simp; omega) | omega) (by first | exact Nat.le_refl _ | (simp; done) | (simp; omega) | omega) hn).mono ?_
  rintro e w1 ⟨rfl, hb1⟩
  go_wp2_with fail
  go_ret
  go_light
  refine ⟨rfl, ?_⟩
  repeat (first | (with_reducible exact Below.refl _ _) | (with_reducible refine Bal ?_ _) | (with_reducible refine Below.drew ?_) | (with_reducible refine below_drewN ?_ _) | (with_reducible refine Bset ?_ ?_ _; focus (first | (with_reducible exact Nat.le_refl _) | (simp; done) | (simp; omega) | omega)) | (with_reducible refine Bt ?_ (by assumption)) | (with_reducible refine Bp (g := g) ?_ (by assumption) (by assumption)))
set_option maxRecDepth 100000 in
set_option maxHeartbeats 8000000 in
theorem eqMb_same (w : World) {lo hi lo2 hi2 : Nat} {A B : Option Addr} {n c d : Nat} {M M2 : Nat → Mb} (h : Room w lo hi A n M) (h2 : Room w lo2 hi2 B n M2) (hh : hi ≤ w.heap.size) (hh2 : hi2 ≤ w.heap.size) (hn : n ≤ 1048576) (hb : ∀ i, i < n → (M i).p.n ≤ 1048576) (he : ∀ i, i < n → (M i).p = (M2 i).p) :
    Calls Try.prog 37 #[.slice A n c, .slice B n d] w fun e w' => e = .returned (.bool true) ∧ Below w.heap.size w w' := by
  have H := Lib.hid h
  have H2 := Lib.hid h2
  have HE := Lib.hid he
  have HN := Lib.hid hb
  clear h h2 he hb
  go_enter Try.func37, Try.ntmps37
  go_wp2_with fail
  go_loopw [5] (fun i wr => ∃ k, k ≤ n ∧ i = .int .i64 (k : Nat) ∧ Hid (Below w.heap.size w wr)) (fun i _ => n - (intOf i).toNat)
  case atStart => exact ⟨0, Nat.zero_le _, rfl, Lib.hid (Below.refl _ _)⟩
  case round =>
    obtain ⟨k, hk, rfl, HB⟩ := hrel
    by_cases hkn : k < n
    rotate_left
    · obtain rfl : k = n := by omega
      go_wp2_with fail
      go_ret
      exact ⟨rfl, HB.out⟩
    have hs := HB.out.size
    have HR := Lib.hid (H.out.below hh HB.out)
    have HR2 := Lib.hid (H2.out.below hh2 HB.out)
    obtain ⟨b, off, rfl, -, hb1, c0, c1, c2⟩ := Mb_at HR.out.1 hkn
    obtain ⟨b2, off2, rfl, -, hb2, e0, e1, e2⟩ := Mb_at HR2.out.1 hkn
    have he := HE.out k hkn
    rw [← he] at e0 e1 e2
    have hz := HR2.out.2 k hkn
    rw [← he] at hz
    have HZ := Lib.hid (HR.out.2 k hkn)
    have HZ2 := Lib.hid hz
    clear hz he HR HR2
    have hbw : b < wr.heap.size := by omega
    have hbw2 : b2 < wr.heap.size := by omega
    have hzn := HN.out k hkn
    have hq := fun W (hW : Below wr.heap.size wr W) => eqMb1_same W (M k).p.id (M k).p.s (M k).A (M2 k).A (M k).p.n (M k).c (M2 k).c (M k).p.z (HZ.out.below (by omega) hW) (HZ2.out.below (by omega) hW) (by have := hW.size; omega) (by have := hW.size; omega) hzn
    have HQ := Lib.hid hq
    clear hq
    go_upto_region 6 with fail
    refine wp_region_mix (Exc (fun _ => False) wr) (by kernel_rfl) (by kernel_rfl) (Exc.drew (Exc.refl _ _)) ?_
    repeat (first
      | (refine mix_skip rfl ?_; have e0 : True := trivial; clear e0; refine mix_putK ?_; intro K hK; go_simp; refine hK _ ?_; clear hK K)
      | (refine mix_readE rfl rfl rfl ?_; apply Exists.intro; refine ⟨fun w' hb' => ?_, ?_⟩; (focus (obtain ⟨hc', hf'⟩ := exc_cells hb'; clear hb'; go_simp; try exact rfl)); have e0 : True := trivial; clear e0; refine mix_putK ?_; intro K hK; go_simp; refine hK _ ?_; clear hK K)
      | (refine mix_pureE rfl rfl ?_; apply Exists.intro; refine ⟨fun w' => ?_, ?_⟩; (focus (first | (fail) | (go_simp; try exact rfl))); have e0 : True := trivial; clear e0; refine mix_putK ?_; intro K hK; go_simp; refine hK _ ?_; clear hK K)
      | (refine mix_eff rfl rfl ?_; go_wp2_with ((go_at_call 61; refine (HQ.out _ (Below.refl _ wr).drew).mono ?_; rintro e w6 ⟨rfl, hb6⟩; have hb6 : Below wr.heap.size wr w6 := Below.trans (Below.refl _ wr).drew hb6; have hE6 : Exc (fun _ => False) wr w6 := Exc.of_belowR hb6)); refine then_mix rfl ?_ ?_; (focus (first | (intro h; have h2 : false = true := h; cases h2) | (intro _; assumption) | (intro _; repeat (first | assumption | (with_reducible exact Exc.refl _ _) | (with_reducible refine Exc.drew ?_) | (with_reducible refine Exc.alloc ?_ _) | (with_reducible refine Exc.setC ?_ ?_ _; focus (simp))))))))
    refine mix_nil ?_
    have HB6 := Lib.hid (HB.out.trans (hb6.mono hs))
    clear hb6 hE6
    go_wp2_with fail
    go_roundw
    case rel => exact ⟨k + 1, by omega, by go_num, HB6⟩
    case measure => simp [intOf]; omega
theorem Exc.setIn {X : Nat → Prop} {w w' : World} {g i : Nat} (h : Exc X w w') (hg : X g) (u : Value) : Exc X w (w'.setCell ⟨g, i, none⟩ u) := Exc.setC hg h u
set_option maxRecDepth 100000 in
set_option maxHeartbeats 8000000 in
theorem markMb_any (w : World) {lo hi n c : Nat} {B : Option Addr} {M : Nat → Mb} (q : Nat) (h : RmH lo hi B n c M w) (hhi : hi ≤ w.heap.size) (hn : n ≤ 1048576) (hb : ∀ i, i < n → (M i).p.n ≤ 1048576) (hq : endQ M q n ≤ 100000000) :
    Calls Try.prog 38 #[.slice B n c, .int .i64 q] w fun e w' => RmH lo hi B n c (mkdM M q) w' ∧ e = .returned (.int .i64 (endQ M q n : Nat)) ∧ Exc (fun g => lo ≤ g ∧ g < hi) w w' ∧ w'.heap.size = w.heap.size := by
  have H := Lib.hid (h.congr (M' := mixM M q 0) (fun i hi => (if_neg (by omega)).symm))
  have HN := Lib.hid hb
  have hmono : ∀ k, k ≤ n → endQ M q k ≤ endQ M q n := fun k hk => by unfold endQ; have := sumN_le M hk; omega
  have HM := Lib.hid hmono
  clear h hb hmono
  go_enter Try.func38, Try.ntmps38
  go_wp2_with fail
  go_loopw [1, 5] (fun q' i wr => ∃ k : Nat, k ≤ n ∧ i = .int .i64 (k : Nat) ∧ q' = .int .i64 (endQ M q k : Nat) ∧ Hid (RmH lo hi B n c (mixM M q k) wr) ∧ Hid (Exc (fun g => lo ≤ g ∧ g < hi) w wr) ∧ Hid (wr.heap.size = w.heap.size)) (fun _ i _ => n - (intOf i).toNat)
  case atStart => exact ⟨0, Nat.zero_le _, rfl, rfl, H, Lib.hid (Exc.refl _ _), Lib.hid rfl⟩
  case round =>
    obtain ⟨k, hk, rfl, rfl, HO, HX, HS⟩ := hrel
    clear H
    by_cases hkn : k < n
    rotate_left
    · obtain rfl : k = n := by omega
      go_wp2_with fail
      go_ret
      exact ⟨HO.out.congr (fun i hi => if_pos hi), rfl, HX.out, HS.out⟩
    have hke := HM.out k hk
    have hke1 := HM.out (k + 1) hkn
    obtain ⟨E, hE⟩ : ∃ E, endQ M q k = E := ⟨_, rfl⟩
    have hE1 : endQ M q (k + 1) = E + 2 + (M k).p.n := by rw [← hE]; show q + 2 * (k + 1) + (sumN M k + (M k).p.n) = q + 2 * k + sumN M k + 2 + (M k).p.n; omega
    rw [hE1] at hke1
    rw [hE] at hke
    rw [hE]
    have hE8 : E ≤ 100000000 := by omega
    have HE := Lib.hid hE
    have HE1 := Lib.hid hE1
    clear hE hE1 hke
    have hself : mixM M q k k = M k := if_neg (Nat.lt_irrefl k)
    obtain ⟨b, off, hAe, hlo, hb2, c0, c1, c2⟩ := Mb_at HO.out.row.row hkn
    rcases RowOwn.cases HO.out.row with ⟨e, -⟩ | ⟨g, hg, -, -, hgl, -, hfz, -⟩
    · rw [e] at hAe; cases hAe
    subst hg
    obtain ⟨rfl, rfl⟩ : g = b ∧ 0 = off := by injection hAe with hAe; injection hAe with y1 y2; exact ⟨y1, y2⟩
    simp only [Nat.zero_add] at c0 c1 c2
    rw [hself] at c2
    generalize (mixM M q k k).p.id = y0 at c0
    generalize (mixM M q k k).p.s = y1 at c1
    have f0 := hfz (k * 3)
    have f1 := hfz (k * 3 + 1)
    have hI := HO.out.hears k hkn
    rw [hself] at hI
    have hdk : ∀ q', (Value.slice (M k).A (M k).p.n (M k).c).ownBlock = some q' → g ≠ q' := fun q' hq' e => HO.out.dis k hkn q' (by rw [hself]; exact hq') (by rw [e]; rfl)
    have HDK := Lib.hid hdk
    have HI := Lib.hid hI
    have hzn := HN.out k hkn
    have hEm : ((E : Int) + 1).tmod 3 = ((E : Int) + 1) % 3 := Int.tmod_eq_emod_of_nonneg (by omega)
    clear hfz hI hdk hAe hself
    go_upto_region 8 with fail
    obtain ⟨wm, hwm⟩ : ∃ v, v = (wr.setCell ⟨g, k * 3, none⟩ (.int .i64 (E : Nat))).setCell ⟨g, k * 3 + 1, none⟩ (.bool (((E : Int) + 1) % 3 == 0)) := ⟨_, rfl⟩
    rw [← hwm]
    have g2 : wm.cell? ⟨g, k * 3 + 2, none⟩ = some (.slice (M k).A (M k).p.n (M k).c) := by rw [hwm]; go_simp; try rfl
    have hsm : wm.heap.size = wr.heap.size := by rw [hwm]; simp [World.setCell]
    have hG1 : wr.grownBy wm (some g) := by rw [hwm]; exact (grown_setCell wr ⟨g, k * 3, none⟩ _).trans (grown_setCell _ ⟨g, k * 3 + 1, none⟩ _)
    have HIm := Lib.hid (show OwnI wm lo hi (M k).A (M k).p.n (M k).c (M k).p.z from RowOwn.apartR (r := some g) (fun q' hq' e => by cases hq'; exact HDK.out _ e rfl) HI.out hG1)
    have hXm : Exc (fun g => lo ≤ g ∧ g < hi) w wm := HX.out.grown (fun q' hq' => Or.inl (by cases hq'; exact ⟨hlo, hb2⟩)) hG1
    have HXm := Lib.hid hXm
    have HSm := Lib.hid (hsm.trans HS.out)
    have HWM := Lib.hid hwm
    clear hwm hsm hG1 hXm HX HS c0 c1 c2 f0 f1 hEm
    go_wp2_with fail
    rw [show (E : Int) + 1 + 1 = ((E + 2 : Nat) : Int) by omega]
    refine (markIntS_any wm (E + 2) HIm.out hzn (by omega)).mono ?_
    rintro e w5 ⟨hI5, rfl, hG5, hs5⟩
    have HI5 := Lib.hid hI5
    have HG5 := Lib.hid hG5
    have HS5 := Lib.hid (hs5.trans HSm.out)
    clear hI5 hG5 hs5 HSm g2
    go_wp2_with fail
    go_roundw
    case rel =>
      refine ⟨k + 1, by omega, by go_num, (by rw [HE1.out]; go_num), Lib.hid (RmH.mark HO.out hkn ?_ ?_), Lib.hid (HXm.out.grown (fun q' hq' => Or.inl ⟨(HI.out.1.lt q' hq').1, HI.out.2 q' hq'⟩) HG5.out), HS5⟩
      · rw [HE.out]; exact HI5.out
      · rw [HE.out]
        have h9 := HG5.out
        rw [HWM.out] at h9
        exact h9
    case measure => simp [intOf]; omega
set_option maxRecDepth 100000 in
set_option maxHeartbeats 8000000 in
theorem heldMb_any (w : World) {lo hi n c : Nat} {B : Option Addr} {M : Nat → Mb} (q : Nat) (h : Room w lo hi B n (mkdM M q)) (hn : n ≤ 1048576) (hb : ∀ i, i < n → (M i).p.n ≤ 1048576) (hq : endQ M q n ≤ 100000000) :
    Calls Try.prog 41 #[.slice B n c, .int .i64 q] w fun e w' => e = .returned (.int .i64 (endQ M q n : Nat)) ∧ w = w' := by
  have H := Lib.hid h
  have HN := Lib.hid hb
  have HM := Lib.hid (show ∀ k, k ≤ n → endQ M q k ≤ endQ M q n from fun k hk => by unfold endQ; have := sumN_le M hk; omega)
  clear h hb
  go_enter Try.func41, Try.ntmps41
  go_wp2_with fail
  go_loopw [1, 5] (fun q' i wr => ∃ k : Nat, k ≤ n ∧ i = .int .i64 (k : Nat) ∧ q' = .int .i64 (endQ M q k : Nat) ∧ w = wr) (fun _ i _ => n - (intOf i).toNat)
  case atStart => exact ⟨0, Nat.zero_le _, rfl, rfl, rfl⟩
  case round =>
    obtain ⟨k, hk, rfl, rfl, rfl⟩ := hrel
    by_cases hkn : k < n
    rotate_left
    · obtain rfl : k = n := by omega
      go_wp2_with fail
      go_ret
      exact ⟨rfl, rfl⟩
    have hke := HM.out k hk
    have hke1 := HM.out (k + 1) hkn
    obtain ⟨E, hE⟩ : ∃ E, endQ M q k = E := ⟨_, rfl⟩
    have hE1 : endQ M q (k + 1) = E + 2 + (M k).p.n := by rw [← hE]; show q + 2 * (k + 1) + (sumN M k + (M k).p.n) = q + 2 * k + sumN M k + 2 + (M k).p.n; omega
    rw [hE1] at hke1
    rw [hE] at hke
    rw [hE]
    obtain ⟨b, off, rfl, -, hb2, c0, c1, c2⟩ := Mb_at H.out.1 hkn
    have hI : Ints w lo hi (M k).A (M k).p.n (fun j => ((endQ M q k + 2 : Nat) : Int) + j) := H.out.2 k hkn
    have c0 : w.cell? ⟨b, off + k * 3, none⟩ = some (.int .i64 (endQ M q k : Nat)) := c0
    have c1 : w.cell? ⟨b, off + k * 3 + 1, none⟩ = some (.bool (((endQ M q k : Nat) + 1 : Int) % 3 == 0)) := c1
    have c2 : w.cell? ⟨b, off + k * 3 + 2, none⟩ = some (.slice (M k).A (M k).p.n (M k).c) := c2
    rw [hE] at hI c0 c1
    have hE8 : E ≤ 100000000 := by omega
    have HI := Lib.hid hI
    have HE1 := Lib.hid hE1
    have hzn := HN.out k hkn
    have hEm : ((E : Int) + 1).tmod 3 = ((E : Int) + 1) % 3 := Int.tmod_eq_emod_of_nonneg (by omega)
    have hxx : ((E : Int) != (E : Int)) = false := by simp
    clear hE hE1 hI hke
    rename_i d0 d1 d2
    clear d0 d1 d2
    go_wp2_with fail
    rw [show (E : Int) + 1 + 1 = ((E + 2 : Nat) : Int) by omega]
    refine (heldIntS_any w (E + 2) HI.out hzn (by omega)).mono ?_
    rintro e w5 ⟨rfl, rfl⟩
    have hnn : ¬ ((E + 2 : Nat) : Int) + (M k).p.n < 0 := by omega
    go_wp2_with fail
    go_roundw
    case rel => exact ⟨k + 1, by omega, by go_num, (by rw [HE1.out]; go_num), by first | rfl | trivial⟩
    case measure => simp [intOf]; omega
end Go.Proofs.Ytelcclhaepfmgaa
