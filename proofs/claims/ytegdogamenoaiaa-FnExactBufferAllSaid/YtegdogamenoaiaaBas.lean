/- spec.BufferAll: all packets that are returned at a time (printed by gen_bal.py). -/
import Derived.Test.YtegdogamenoaiaaBal
namespace Go.Proofs.Ytegdogamenoaiaa
open Go Go.RowKit
set_option linter.unusedVariables false
set_option linter.unusedSimpArgs false
set_option maxRecDepth 100000 in
set_option maxHeartbeats 8000000 in
theorem sba_bad (w : World) (lo hi : Nat) (A : Option Addr) (n c : Nat) (y d now : Int) (q : Nat → Hd) (h : RowAt w lo hi A n 7 (HdF q)) (hi' : hi ≤ w.heap.size) (hn : n ≤ 1048576) (hbad : ¬ (BfOk y d n q ∧ 0 ≤ now ∧ now ≤ 100998)) :
    Calls Try.prog 27 #[.agg #[.int .i64 y, .int .i64 d, .slice A n c], .int .i64 now] w (GivesBA 0 0 0 q 0 (fun i => (q i).p) false w) := by
  have hv := fun W (hb : Below w.heap.size w W) => sbv_any W lo hi A n c y d q (h.below hi' hb) (Nat.le_trans hi' hb.size) hn
  have ht := fun W : World => l6In_any now 0 100998 W
  clear h
  by_cases hO : BfOk y d n q
  · rw [show bfB y d n q = true from decide_eq_true hO] at hv
    rw [show inB now 0 100998 = false by (unfold inB; simp; intro h1; have h2 : ¬ now ≤ 100998 := fun h2 => hbad ⟨hO, h1, h2⟩; omega)] at ht
    have HV := Lib.hid hv
    have HT := Lib.hid ht
    clear hv ht hO hbad
    go_enter Try.func27, Try.ntmps27
    go_wp2_with fail
    refine (HV.out _ ?_).mono ?_
    focus (repeat (first | (with_reducible exact Below.refl _ _) | (with_reducible refine Bal ?_ _) | (with_reducible refine Below.drew ?_) | (with_reducible refine below_drewN ?_ _) | (with_reducible refine Bset ?_ ?_ _; focus (first | (with_reducible exact Nat.le_refl _) | (simp; done) | (simp; omega) | omega)) | (with_reducible refine Bt ?_ (by assumption)) | (with_reducible refine Bp (g := g) ?_ (by assumption) (by assumption))))
    rintro e w1 ⟨rfl, hb1⟩
    obtain ⟨hc1, hf1⟩ := bcell hb1
    have hy1 := hb1.size
    try simp at hy1
    have hg1_0 := fun o => hc1 (w.heap.size) o (by first | (simp; done) | (simp; omega) | omega)
    try simp [go_sem] at hg1_0
    have hg1_1 := fun o => hc1 (w.heap.size + 1) o (by first | (simp; done) | (simp; omega) | omega)
    try simp [go_sem] at hg1_1
    have hk1_1 := fun o => hf1 (w.heap.size + 1) o (by first | (simp; done) | (simp; omega) | omega)
    try simp [go_sem] at hk1_1
    have HE1 := Lib.hid (RowOwn.below (by simp) (empty_at _ 30 (w.heap.size + 1 + 1) 6 (PkF fun i => (q i).p) (by simp)) hb1)
    go_wp2_with fail
    refine (HT.out _).mono ?_
    rintro e w' ⟨rfl, rfl⟩
    go_wp2_with fail
    refine bodyPost_ret (v := .tuple #[.agg #[.int .i64 0, .int .i64 0, .slice none 0 0], .slice (some ⟨w.heap.size + 1 + 1, 0, none⟩) 0 0, .bool false]) ?_ rfl ?_
    · simp only [results, Try.results27]
      go_simp
    refine ⟨none, 0, some ⟨w.heap.size + 1 + 1, 0, none⟩, 0, RowOwn.none0 _ _ _ _ _ _, ?_, (fun g hg => by simp [Value.ownBlock]), rfl, ?_⟩
    · refine RowOwn.wide (lo := w.heap.size + 1 + 1) (hi := w.heap.size + 1 + 1 + 1) ?_ (by omega) (by first | exact Nat.le_refl _ | (simp [World.setCell]; done) | (simp [World.setCell]; omega) | omega)
      repeat (first | (with_reducible exact HE1.out) | (with_reducible refine RowOwn.drew ?_) | (with_reducible refine RowOwn.alloc ?_ _) | (with_reducible refine RowOwn.setC ?_ ?_ _; focus (left; first | omega | (simp; omega) | (simp; done))))
    · go_light
      repeat (first | (with_reducible exact Below.refl _ _) | (with_reducible refine Bal ?_ _) | (with_reducible refine Below.drew ?_) | (with_reducible refine below_drewN ?_ _) | (with_reducible refine Bset ?_ ?_ _; focus (first | (with_reducible exact Nat.le_refl _) | (simp; done) | (simp; omega) | omega)) | (with_reducible refine Bt ?_ (by assumption)) | (with_reducible refine Bp (g := g) ?_ (by assumption) (by assumption)))
  · rw [show bfB y d n q = false from decide_eq_false hO] at hv
    have HV := Lib.hid hv
    clear hv ht hO hbad
    go_enter Try.func27, Try.ntmps27
    go_wp2_with fail
    refine (HV.out _ ?_).mono ?_
    focus (repeat (first | (with_reducible exact Below.refl _ _) | (with_reducible refine Bal ?_ _) | (with_reducible refine Below.drew ?_) | (with_reducible refine below_drewN ?_ _) | (with_reducible refine Bset ?_ ?_ _; focus (first | (with_reducible exact Nat.le_refl _) | (simp; done) | (simp; omega) | omega)) | (with_reducible refine Bt ?_ (by assumption)) | (with_reducible refine Bp (g := g) ?_ (by assumption) (by assumption))))
    rintro e w1 ⟨rfl, hb1⟩
    obtain ⟨hc1, hf1⟩ := bcell hb1
    have hy1 := hb1.size
    try simp at hy1
    have hg1_0 := fun o => hc1 (w.heap.size) o (by first | (simp; done) | (simp; omega) | omega)
    try simp [go_sem] at hg1_0
    have hg1_1 := fun o => hc1 (w.heap.size + 1) o (by first | (simp; done) | (simp; omega) | omega)
    try simp [go_sem] at hg1_1
    have hk1_1 := fun o => hf1 (w.heap.size + 1) o (by first | (simp; done) | (simp; omega) | omega)
    try simp [go_sem] at hk1_1
    have HE1 := Lib.hid (RowOwn.below (by simp) (empty_at _ 30 (w.heap.size + 1 + 1) 6 (PkF fun i => (q i).p) (by simp)) hb1)
    go_wp2_with fail
    refine bodyPost_ret (v := .tuple #[.agg #[.int .i64 0, .int .i64 0, .slice none 0 0], .slice (some ⟨w.heap.size + 1 + 1, 0, none⟩) 0 0, .bool false]) ?_ rfl ?_
    · simp only [results, Try.results27]
      go_simp
    refine ⟨none, 0, some ⟨w.heap.size + 1 + 1, 0, none⟩, 0, RowOwn.none0 _ _ _ _ _ _, ?_, (fun g hg => by simp [Value.ownBlock]), rfl, ?_⟩
    · refine RowOwn.wide (lo := w.heap.size + 1 + 1) (hi := w.heap.size + 1 + 1 + 1) ?_ (by omega) (by first | exact Nat.le_refl _ | (simp [World.setCell]; done) | (simp [World.setCell]; omega) | omega)
      repeat (first | (with_reducible exact HE1.out) | (with_reducible refine RowOwn.drew ?_) | (with_reducible refine RowOwn.alloc ?_ _) | (with_reducible refine RowOwn.setC ?_ ?_ _; focus (left; first | omega | (simp; omega) | (simp; done))))
    · go_light
      repeat (first | (with_reducible exact Below.refl _ _) | (with_reducible refine Bal ?_ _) | (with_reducible refine Below.drew ?_) | (with_reducible refine below_drewN ?_ _) | (with_reducible refine Bset ?_ ?_ _; focus (first | (with_reducible exact Nat.le_refl _) | (simp; done) | (simp; omega) | omega)) | (with_reducible refine Bt ?_ (by assumption)) | (with_reducible refine Bp (g := g) ?_ (by assumption) (by assumption)))
set_option maxRecDepth 100000 in
set_option maxHeartbeats 16000000 in
theorem sba_ok (w : World) (lo hi : Nat) (A : Option Addr) (n c : Nat) (y d now : Int) (q : Nat → Hd) (K : Nat) (h : RowAt w lo hi A n 7 (HdF q)) (hi' : hi ≤ w.heap.size) (hn : n ≤ 1048576) (hO : BfOk y d n q) (hT : 0 ≤ now ∧ now ≤ 100998) (hK : K ≤ n) (hno : ¬ tkA y d n q now K) (hall : ∀ k, k < K → tkA y d n q now k) :
    Calls Try.prog 27 #[.agg #[.int .i64 y, .int .i64 d, .slice A n c], .int .i64 now] w (GivesBA (yAt y q K) d (n - K) (dropQ q K) K (fun i => (q i).p) true w) := by
  obtain ⟨i0, q1, q2, q3, q4⟩ := info_parts info_pk
  have hv := fun W (hb : Below w.heap.size w W) => sbv_any W lo hi A n c y d q (h.below hi' hb) (Nat.le_trans hi' hb.size) hn
  have hcp := fun W (hb : Below w.heap.size w W) => copy_any W lo hi A n c y d q (h.below hi' hb) (Nat.le_trans hi' hb.size) hn
  have ht := fun W : World => l6In_any now 0 100998 W
  rw [show bfB y d n q = true from decide_eq_true hO] at hv
  rw [inB_t hT.1 hT.2] at ht
  have HV := Lib.hid hv
  have HT := Lib.hid ht
  have HC := Lib.hid hcp
  clear hv ht hcp hO hT h
  go_enter Try.func27, Try.ntmps27
  go_wp2_with fail
  refine (HV.out _ ?_).mono ?_
  focus (repeat (first | (with_reducible exact Below.refl _ _) | (with_reducible refine Bal ?_ _) | (with_reducible refine Below.drew ?_) | (with_reducible refine below_drewN ?_ _) | (with_reducible refine Bset ?_ ?_ _; focus (first | (with_reducible exact Nat.le_refl _) | (simp; done) | (simp; omega) | omega)) | (with_reducible refine Bt ?_ (by assumption)) | (with_reducible refine Bp (g := g) ?_ (by assumption) (by assumption))))
  rintro e w1 ⟨rfl, hb1⟩
  obtain ⟨hc1, hf1⟩ := bcell hb1
  have hy1 := hb1.size
  try simp at hy1
  have hg1_0 := fun o => hc1 (w.heap.size) o (by first | (simp; done) | (simp; omega) | omega)
  try simp [go_sem] at hg1_0
  have hg1_1 := fun o => hc1 (w.heap.size + 1) o (by first | (simp; done) | (simp; omega) | omega)
  try simp [go_sem] at hg1_1
  have hk1_1 := fun o => hf1 (w.heap.size + 1) o (by first | (simp; done) | (simp; omega) | omega)
  try simp [go_sem] at hk1_1
  have HE1 := Lib.hid (RowOwn.below (by simp) (empty_at _ 30 (w.heap.size + 1 + 1) 6 (PkF fun i => (q i).p) (by simp)) hb1)
  go_wp2_with fail
  refine (HT.out _).mono ?_
  rintro e w' ⟨rfl, rfl⟩
  have hW1 := Lib.hid (show Below w.heap.size w w1 by repeat (first | (with_reducible exact Below.refl _ _) | (with_reducible refine Bal ?_ _) | (with_reducible refine Below.drew ?_) | (with_reducible refine below_drewN ?_ _) | (with_reducible refine Bset ?_ ?_ _; focus (first | (with_reducible exact Nat.le_refl _) | (simp; done) | (simp; omega) | omega)) | (with_reducible refine Bt ?_ (by assumption)) | (with_reducible refine Bp (g := g) ?_ (by assumption) (by assumption))))
  have hR1 := Lib.hid (show Bx w1 (w.heap.size + 1) 0 0 none 0 0 from ⟨by rw [hg1_1]; rfl, by rw [hg1_1]; rfl, by rw [hg1_1]; rfl, fun j => hk1_1 j, by omega⟩)
  have hlo1 : w.heap.size + 1 + 1 < w1.heap.size := by omega
  clear hb1 hc1 hf1
  go_wp2_with fail
  refine (HC.out _ ?_).mono ?_
  focus (exact hW1.out)
  rintro e w3 ⟨A3, c3, rfl, hO3, hb3⟩
  have hz3 := hb3.size
  clear hg1_0 hg1_1 hk1_1
  have hlo3 : ∀ g, (Value.slice A3 n c3).ownBlock = some g → w1.heap.size ≤ g := fun g hg => (hO3.1.lt g hg).1
  have hS : ASt w (w.heap.size + 1 + 1) (w.heap.size + 1) w3.heap.size y d n q 0 A3 c3 (some ⟨w.heap.size + 1 + 1, 0, none⟩) 0 (w3.alloc (.cells #[.int .i64 y, .int .i64 d, .slice A3 n c3] 28)) := by
    refine ⟨(hW1.out.trans (hb3.mono hW1.out.size)).alloc (by omega) _, (hR1.out.below hb3).below (Ba _ _), ⟨by simp [go_sem]; rfl, by simp [go_sem], by simp [go_sem], fun j => by simp [go_sem], by simp⟩, ?_, ?_, fun g hg => ?_, fun g hg e => ?_⟩
    · exact (RowOwn.alloc hO3 _).wide (by omega) (by simp)
    · exact (RowOwn.alloc (HE1.out.below (B := w1.heap.size) (by omega) hb3) _).wide (Nat.le_refl _) (by simp; omega)
    · simp [Value.ownBlock] at hg; omega
    · simp [Value.ownBlock] at hg
      have := hlo3 g e
      omega
  have HS0 := Lib.hid hS
  clear hS hO3 hb3 HE1 hW1 hR1 hlo3
  go_wp2_with fail
  generalize w3.alloc (.cells #[.int .i64 y, .int .i64 d, .slice A3 n c3] 28) = wl at HS0 ⊢
  have HS := HS0
  clear HS0
  have h38 : w.heap.size + 1 + 1 < w3.heap.size := by omega
  generalize w3.heap.size = b8 at *
  go_loopw [7] (fun s7 wr => ∃ (k : Nat) (A : Option Addr) (c : Nat) (B : Option Addr) (cb : Nat), k ≤ K ∧ s7 = .slice B k cb ∧ Hid (ASt w (w.heap.size + 1 + 1) (w.heap.size + 1) b8 y d n q k A c B cb wr)) (fun s7 _ => n - lenV s7)
  case atStart => exact ⟨0, _, _, _, 0, Nat.zero_le _, rfl, HS⟩
  case round =>
    obtain ⟨k, A, c, B, cb, hk, rfl, HSk⟩ := hrel
    clear HS
    have hwr := HSk.out.bel.size
    have h8r : b8 < wr.heap.size := HSk.out.box.2.2.2.2
    have h4r : (w.heap.size + 1) < wr.heap.size := HSk.out.res.2.2.2.2
    have hnk : n - k ≤ 1048576 := by omega
    by_cases hkK : k < K
    · have hta := hall k hkK
      obtain ⟨z0, z1, z2, z3, z4⟩ := HSk.out.box
      go_wp2_with fail
      clear z0 z1 z2 z3 z4
      refine ((sbk_any wr (w.heap.size + 1 + 1) wr.heap.size A (n - k) c (yAt y q k) d now (dropQ q k) HSk.out.ra.row (Nat.le_refl _) hnk (own_nc HSk.out.ra)).mono fun e w' hr => take_on hta hr).mono ?_
      rintro e w5 ⟨A5, c5, hO5, rfl, hb5⟩
      have hz5 := hb5.size
      have hltr : ∀ g, (Value.slice B k cb).ownBlock = some g → g < wr.heap.size := fun g hg => (HSk.out.rb.1.lt g hg).2
      have HS5 := Lib.hid (HSk.out.below hb5)
      have HO5 := Lib.hid hO5
      clear hb5 hO5 HSk hta
      have hlt5 : ∀ g, (Value.slice B k cb).ownBlock = some g → (w.heap.size + 1 + 1) ≤ g ∧ g < w5.heap.size := fun g hg => HS5.out.rb.1.lt g hg
      obtain ⟨Y5, hY5⟩ : ∃ v, yAt y q (k + 1) = v := ⟨_, rfl⟩
      obtain ⟨N5, hN5⟩ : ∃ v, n - (k + 1) = v := ⟨_, rfl⟩
      rw [hY5, hN5]
      rw [hN5] at HO5
      have HY5 := Lib.hid hY5
      have HN5 := Lib.hid hN5
      clear hY5 hN5
      go_upto_region 9 with (at_builtin; go_loud (refine wpList_rowAppend _ rfl (.tmp 36) (.tmp 38) _ rfl 30 i0 _ 6 40 Try.underlying43 q1 q2 q3 q4 rfl (by decide) (w.heap.size + 1 + 1) _ B k cb (PkF fun i => (q i).p) rfl (RowOwn.alloc (RowOwn.alloc (RowOwn.alloc HS5.out.rb _) _) _) _ _ _ 1 1 _ rfl (six_at _ _ _ _ _ _ _ _ _ (by simp)) ?_ (by unfold maxLen; omega) (by omega) (by simp; omega) ?_); (focus (intro i hi; rcases (by omega : i = 0 ∨ i = 1 ∨ i = 2 ∨ i = 3 ∨ i = 4 ∨ i = 5) with rfl | rfl | rfl | rfl | rfl | rfl <;> rfl)); intro B6 cb6 w6 hO6 hG6 hL6)
      have hb9 := Bx.grown (b := w5.heap.size) (y := Y5) (d := d) (A := A5) (n := N5) (c := c5) ⟨by simp [go_sem], by simp [go_sem], by simp [go_sem], fun j => by simp [go_sem], by simp; try omega⟩ hG6 (fun e => by have := hlt5 _ e.symm; omega)
      have hb8 := (Bx.below HS5.out.box (by repeat (first | (with_reducible exact Below.refl _ _) | (with_reducible refine Bal ?_ _) | (with_reducible refine Below.drew ?_) | (with_reducible refine below_drewN ?_ _) | (with_reducible refine Bset ?_ ?_ _; focus (first | (with_reducible exact Nat.le_refl _) | (simp; done) | (simp; omega) | omega)) | (with_reducible refine Bt ?_ (by assumption)) | (with_reducible refine Bp (g := g) ?_ (by assumption) (by assumption))))).grown hG6 (fun e => HS5.out.nb b8 e.symm rfl)
      obtain ⟨k0, k1, k2, k3, k4⟩ := hb9
      obtain ⟨m0, m1, m2, m3, m4⟩ := hb8
      have HO6 := Lib.hid hO6
      have HG6 := Lib.hid hG6
      have HL6 := Lib.hid hL6
      clear hO6 hG6 hL6
      go_wp2_with fail
      go_roundw
      case rel =>
        have eY := HY5.out
        have eN := HN5.out
        subst eY eN
        have h8w : b8 < w5.heap.size := HS5.out.box.2.2.2.2
        refine ⟨k + 1, A5, c5, B6, cb6, by omega, rfl, Lib.hid (ASt.next (h := HS5.out.below (by repeat (first | (with_reducible exact Below.refl _ _) | (with_reducible refine Bal ?_ _) | (with_reducible refine Below.drew ?_) | (with_reducible refine below_drewN ?_ _) | (with_reducible refine Bset ?_ ?_ _; focus (first | (with_reducible exact Nat.le_refl _) | (simp; done) | (simp; omega) | omega)) | (with_reducible refine Bt ?_ (by assumption)) | (with_reducible refine Bp (g := g) ?_ (by assumption) (by assumption))))) (hw := by omega) (by omega) (by omega) (by omega) HG6.out ⟨wr.heap.size, ?_, by omega, by omega, ?_⟩ ?_ ?_)⟩
        · have hg := HG6.out
          refine RowOwn.wide (hi := w5.heap.size) (RowOwn.only (fun g hg => Or.inl (hltr g hg)) (RowOwn.below (Nat.le_refl _) HO5.out (by repeat (first | (with_reducible exact Below.refl _ _) | (with_reducible refine Bal ?_ _) | (with_reducible refine Below.drew ?_) | (with_reducible refine below_drewN ?_ _) | (with_reducible refine Bset ?_ ?_ _; focus (first | (with_reducible exact Nat.le_refl _) | (simp; done) | (simp; omega) | omega)) | (with_reducible refine Bt ?_ (by assumption)) | (with_reducible refine Bp (g := g) ?_ (by assumption) (by assumption))))) hg) (Nat.le_refl _) (by have := hg.size; simp at this; omega)
        · intro g hg e
          have h1 := HO5.out.1.lt g e
          rcases HL6.out with h | h
          · rw [h] at hg; have := hltr g hg; omega
          · rw [h] at hg; simp at hg; omega
        · refine (snoc_pk HO6.out).congr (RowF_congr (n := k + 1) (by decide) fun i hi => ?_)
          unfold snocP
          by_cases e : i < k
          · rw [if_pos e]
          · obtain rfl : i = k := by omega
            rw [if_neg e]
        · intro g hg e
          subst e
          rcases HL6.out with h | h
          · rw [h] at hg; exact HS5.out.nb _ hg rfl
          · rw [h] at hg; simp at hg; omega
      case measure => simp [lenV]; omega
    · obtain rfl : k = K := by omega
      obtain ⟨z0, z1, z2, z3, z4⟩ := HSk.out.box
      go_wp2_with fail
      clear z0 z1 z2 z3 z4
      refine ((sbk_any wr (w.heap.size + 1 + 1) wr.heap.size A (n - k) c (yAt y q k) d now (dropQ q k) HSk.out.ra.row (Nat.le_refl _) hnk (own_nc HSk.out.ra)).mono fun e w' hr => take_off hno hr).mono ?_
      rintro e w5 ⟨rfl, hb5⟩
      have hz5 := hb5.size
      have HS5 := Lib.hid (HSk.out.below hb5)
      clear hb5 HSk hno
      obtain ⟨z0, z1, z2, z3, z4⟩ := HS5.out.box
      obtain ⟨p0, p1, p2, p3, p4⟩ := HS5.out.res
      have HRA := Lib.hid HS5.out.ra
      have HRB := Lib.hid HS5.out.rb
      have HBE := Lib.hid HS5.out.bel
      have hq1 : w.heap.size < w5.heap.size := by omega
      have hq2 : w.heap.size < w5.heap.size + 1 := by omega
      have hq3 : w.heap.size + 1 < w5.heap.size + 1 := by omega
      go_wp2_with fail
      refine bodyPost_ret (v := .tuple #[.agg #[.int .i64 (yAt y q k), .int .i64 d, .slice A (n - k) c], .slice B k cb, .bool true]) ?_ rfl ?_
      · simp only [results, Try.results27]
        go_simp
      refine ⟨A, c, B, cb, ?_, ?_, HS5.out.dis, rfl, ?_⟩
      · refine RowOwn.wide (lo := (w.heap.size + 1 + 1)) (hi := w5.heap.size) ?_ (by omega) (by first | exact Nat.le_refl _ | (simp [World.setCell]; done) | (simp [World.setCell]; omega) | omega)
        repeat (first | (with_reducible exact HRA.out) | (with_reducible refine RowOwn.drew ?_) | (with_reducible refine RowOwn.alloc ?_ _) | (with_reducible refine RowOwn.setC ?_ ?_ _; focus (left; first | omega | (simp; omega) | (simp; done))))
      · refine RowOwn.wide (lo := (w.heap.size + 1 + 1)) (hi := w5.heap.size) ?_ (by omega) (by first | exact Nat.le_refl _ | (simp [World.setCell]; done) | (simp [World.setCell]; omega) | omega)
        repeat (first | (with_reducible exact HRB.out) | (with_reducible refine RowOwn.drew ?_) | (with_reducible refine RowOwn.alloc ?_ _) | (with_reducible refine RowOwn.setC ?_ ?_ _; focus (left; first | omega | (simp; omega) | (simp; done))))
      · have hbe := HBE.out
        repeat (first | (with_reducible exact hbe) | (with_reducible refine Bal ?_ _) | (with_reducible refine Below.drew ?_) | (with_reducible refine Bset ?_ ?_ _; focus (first | (simp; done) | (simp; omega) | omega)))
end Go.Proofs.Ytegdogamenoaiaa
