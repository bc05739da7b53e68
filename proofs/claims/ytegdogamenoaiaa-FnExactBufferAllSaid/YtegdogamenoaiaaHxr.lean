/- Rows of packets that are held, and buffers: what the laws' helpers do with them (printed by gen_hxr.py). -/
import Derived.Test.YtegdogamenoaiaaHdr7
namespace Go.Proofs.Ytegdogamenoaiaa
open Go Go.RowKit
set_option linter.unusedVariables false
set_option linter.unusedSimpArgs false
theorem seven_put {e : TypeId} {w : World} {lo hi n cc g k : Nat} {p : Nat → Hd} {a b c d f : Int} {x y : Bool} (h : RowOwn e w lo hi (some ⟨g, 0, none⟩) n cc 7 (HdF p)) :
    RowOwn e (((((((w.setCell ⟨g, k * 7, none⟩ (.int .i64 a)).setCell ⟨g, k * 7 + 1, none⟩ (.int .i64 b)).setCell ⟨g, k * 7 + 2, none⟩ (.int .i64 c)).setCell ⟨g, k * 7 + 3, none⟩ (.int .i64 d)).setCell ⟨g, k * 7 + 4, none⟩ (.bool x)).setCell ⟨g, k * 7 + 5, none⟩ (.bool y)).setCell ⟨g, k * 7 + 6, none⟩ (.int .i64 f))
      lo hi (some ⟨g, 0, none⟩) n cc 7 (HdF (updE p k ⟨⟨a, b, c, d, x, y⟩, f⟩)) := by
  refine (((((((h.store (k * 7) (.int .i64 a)).store (k * 7 + 1) (.int .i64 b)).store (k * 7 + 2) (.int .i64 c)).store (k * 7 + 3) (.int .i64 d)).store (k * 7 + 4) (.bool x)).store (k * 7 + 5) (.bool y)).store (k * 7 + 6) (.int .i64 f)).congr fun j hj => ?_
  refine RowF_put (sz := 7) (C := HdC) (q := p) (k := k) (x := ⟨⟨a, b, c, d, x, y⟩, f⟩) (by decide) ?_ ?_ j
  · intro r hr
    rcases (by omega : r = 0 ∨ r = 1 ∨ r = 2 ∨ r = 3 ∨ r = 4 ∨ r = 5 ∨ r = 6) with rfl | rfl | rfl | rfl | rfl | rfl | rfl <;> simp [updF, HdC]
  · intro j hj
    unfold updF
    rw [if_neg (by omega), if_neg (by omega), if_neg (by omega), if_neg (by omega), if_neg (by omega), if_neg (by omega), if_neg (by omega)]
    rfl
theorem seven_grown {w wr : World} {g : Nat} {r : Option Nat} (hr : r = some g) (h : w.grownBy wr r) {a b c d e f i : Nat} {u1 u2 u3 u4 u5 u6 u7 : Value} :
    w.grownBy (((((((wr.setCell ⟨g, a, none⟩ u1).setCell ⟨g, b, none⟩ u2).setCell ⟨g, c, none⟩ u3).setCell ⟨g, d, none⟩ u4).setCell ⟨g, e, none⟩ u5).setCell ⟨g, f, none⟩ u6).setCell ⟨g, i, none⟩ u7) r := by
  subst hr
  exact ((((((h.trans (grown_setCell _ ⟨g, a, none⟩ _)).trans (grown_setCell _ ⟨g, b, none⟩ _)).trans (grown_setCell _ ⟨g, c, none⟩ _)).trans (grown_setCell _ ⟨g, d, none⟩ _)).trans (grown_setCell _ ⟨g, e, none⟩ _)).trans (grown_setCell _ ⟨g, f, none⟩ _)).trans (grown_setCell _ ⟨g, i, none⟩ _)

set_option maxHeartbeats 2000000 in
theorem toHd_any (a b c d f : Int) (k z : Bool) (w : World) :
    Calls Try.prog 64 #[.agg #[.int .i64 a, .int .i64 b, .int .i64 c, .int .i64 d, .bool k, .bool z, .int .i64 f]] w fun e w' => e = .returned (.agg #[.int .i64 a, .int .i64 b, .int .i64 c, .int .i64 d, .bool k, .bool z, .int .i64 f]) ∧ Below w.heap.size w w' := by
  go_enter Try.func64, Try.ntmps64
  go_wp2_with fail
  refine (toPk_any _ _ _ _ _ _ _).mono ?_
  rintro e w1 ⟨rfl, hb1⟩
  obtain ⟨hc1, hf1⟩ := bcell hb1
  have hy1 := hb1.size
  try simp at hy1
  first | (have hz1 : w.heap.size < w1.heap.size := by (have := hb1.size; (try simp at this); omega)) | skip
  have ho1_0 : w.heap.size < w1.heap.size := by (have := hb1.size; (try simp at this); omega)
  have hg1_0 := fun o => hc1 (w.heap.size) o (by first | (simp; done) | (simp; omega) | omega)
  have hk1_0 := fun o => hf1 (w.heap.size) o (by first | (simp; done) | (simp; omega) | omega)
  try simp [go_sem] at hg1_0
  try simp [go_sem] at hk1_0
  have ho1_1 : w.heap.size + 1 < w1.heap.size := by (have := hb1.size; (try simp at this); omega)
  have hg1_1 := fun o => hc1 (w.heap.size + 1) o (by first | (simp; done) | (simp; omega) | omega)
  have hk1_1 := fun o => hf1 (w.heap.size + 1) o (by first | (simp; done) | (simp; omega) | omega)
  try simp [go_sem] at hg1_1
  try simp [go_sem] at hk1_1
  have ho1_2 : w.heap.size + 1 + 1 < w1.heap.size := by (have := hb1.size; (try simp at this); omega)
  have hg1_2 := fun o => hc1 (w.heap.size + 1 + 1) o (by first | (simp; done) | (simp; omega) | omega)
  have hk1_2 := fun o => hf1 (w.heap.size + 1 + 1) o (by first | (simp; done) | (simp; omega) | omega)
  try simp [go_sem] at hg1_2
  try simp [go_sem] at hk1_2
  go_wp2_with fail
  refine bodyPost_ret (v := .agg #[.int .i64 a, .int .i64 b, .int .i64 c, .int .i64 d, .bool k, .bool z, .int .i64 f]) ?_ rfl ?_
  · simp only [results, Try.results64]
    go_simp
  refine ⟨rfl, ?_⟩
  go_light
  repeat (first | (with_reducible exact Below.refl _ _) | (with_reducible refine Bal ?_ _) | (with_reducible refine Below.drew ?_) | (with_reducible refine below_drewN ?_ _) | (with_reducible refine Bset ?_ ?_ _; focus (first | (with_reducible exact Nat.le_refl _) | (simp; done) | (simp; omega) | omega)) | (with_reducible refine Bt ?_ (by assumption)) | (with_reducible refine Bp (g := g) ?_ (by assumption) (by assumption)))
set_option maxHeartbeats 2000000 in
theorem eqHd_same (a b c d f : Int) (k z : Bool) (w : World) :
    Calls Try.prog 67 #[.agg #[.int .i64 a, .int .i64 b, .int .i64 c, .int .i64 d, .bool k, .bool z, .int .i64 f], .agg #[.int .i64 a, .int .i64 b, .int .i64 c, .int .i64 d, .bool k, .bool z, .int .i64 f]] w fun e w' => e = .returned (.bool true) ∧ Below w.heap.size w w' := by
  go_enter Try.func67, Try.ntmps67
  go_wp2_with fail
  refine (eqPk_same _ _ _ _ _ _ _).mono ?_
  rintro e w1 ⟨rfl, hb1⟩
  obtain ⟨hc1, hf1⟩ := bcell hb1
  have hy1 := hb1.size
  try simp at hy1
  first | (have hz1 : w.heap.size < w1.heap.size := by (have := hb1.size; (try simp at this); omega)) | skip
  have ho1_0 : w.heap.size < w1.heap.size := by (have := hb1.size; (try simp at this); omega)
  have hg1_0 := fun o => hc1 (w.heap.size) o (by first | (simp; done) | (simp; omega) | omega)
  have hk1_0 := fun o => hf1 (w.heap.size) o (by first | (simp; done) | (simp; omega) | omega)
  try simp [go_sem] at hg1_0
  try simp [go_sem] at hk1_0
  have ho1_1 : w.heap.size + 1 < w1.heap.size := by (have := hb1.size; (try simp at this); omega)
  have hg1_1 := fun o => hc1 (w.heap.size + 1) o (by first | (simp; done) | (simp; omega) | omega)
  have hk1_1 := fun o => hf1 (w.heap.size + 1) o (by first | (simp; done) | (simp; omega) | omega)
  try simp [go_sem] at hg1_1
  try simp [go_sem] at hk1_1
  go_wp2_with fail
  go_ret
  go_light
  refine ⟨rfl, ?_⟩
  repeat (first | (with_reducible exact Below.refl _ _) | (with_reducible refine Bal ?_ _) | (with_reducible refine Below.drew ?_) | (with_reducible refine below_drewN ?_ _) | (with_reducible refine Bset ?_ ?_ _; focus (first | (with_reducible exact Nat.le_refl _) | (simp; done) | (simp; omega) | omega)) | (with_reducible refine Bt ?_ (by assumption)) | (with_reducible refine Bp (g := g) ?_ (by assumption) (by assumption)))
set_option maxHeartbeats 4000000 in
theorem eqHdS_same (w : World) {lo hi lo2 hi2 : Nat} {A B : Option Addr} {n c d : Nat} {p : Nat → Hd} (h : RowAt w lo hi A n 7 (HdF p)) (h2 : RowAt w lo2 hi2 B n 7 (HdF p)) (hh : hi ≤ w.heap.size) (hh2 : hi2 ≤ w.heap.size) (hn : n ≤ 1048576) :
    Calls Try.prog 50 #[.slice A n c, .slice B n d] w fun e w' => e = .returned (.bool true) ∧ Below w.heap.size w w' := by
  have H := Lib.hid h
  have H2 := Lib.hid h2
  clear h h2
  go_enter Try.func50, Try.ntmps50
  go_wp2
  go_loopw [5] (fun i wr => ∃ k, k ≤ n ∧ i = .int .i64 k ∧ Below w.heap.size w wr) (fun i _ => n - (intOf i).toNat)
  case atStart => exact ⟨0, Nat.zero_le _, rfl, Below.refl _ _⟩
  case round =>
    obtain ⟨k, hk, rfl, hB⟩ := hrel
    have hs := hB.size
    by_cases hkn : k < n
    · obtain ⟨b, off, rfl, _, hb1, c0, c1, c2, c3, c4, c5, c6⟩ := Hd_at (H.out.below hh hB) hkn
      obtain ⟨b2, off2, rfl, _, hb2, e0, e1, e2, e3, e4, e5, e6⟩ := Hd_at (H2.out.below hh2 hB) hkn
      have hb1' : b < wr.heap.size := by omega
      have hb2' : b2 < wr.heap.size := by omega
      go_wp2
      refine wp_region_mixB (by kernel_rfl) (by kernel_rfl) ?_
      repeat (first
        | (refine mix_skip rfl ?_; have e0 : True := trivial; clear e0; refine mix_putK ?_; intro K hK; go_simp; refine hK _ ?_; clear hK K)
        | (refine mix_readE rfl rfl rfl ?_; apply Exists.intro; refine ⟨fun w' hb' => ?_, ?_⟩; (focus (obtain ⟨hc', hf'⟩ := Old.cells hb'; clear hb'; go_simp; try exact rfl)); have e0 : True := trivial; clear e0; refine mix_putK ?_; intro K hK; go_simp; refine hK _ ?_; clear hK K)
        | (refine mix_pureE rfl rfl ?_; apply Exists.intro; refine ⟨fun w' => ?_, ?_⟩; (focus (go_simp; try exact rfl)); have e0 : True := trivial; clear e0; refine mix_putK ?_; intro K hK; go_simp; refine hK _ ?_; clear hK K)
        | (refine mix_eff rfl rfl ?_; go_wp2_with ((go_at_call 67; refine (eqHd_same _ _ _ _ _ _ _ _).mono ?_; rintro e w2 ⟨rfl, hbv⟩)); refine then_mix rfl ?_ ?_; (first | (intro h; have h2 : false = true := h; cases h2) | (intro _; assumption) | (intro _; refine Old.mk ?_; repeat (first | (with_reducible exact Below.refl _ _) | (with_reducible refine Bal ?_ _) | (with_reducible refine Below.drew ?_) | (with_reducible refine below_drewN ?_ _) | (with_reducible refine Bset ?_ ?_ _; focus (first | (with_reducible exact Nat.le_refl _) | (simp; done) | (simp; omega) | omega)) | (with_reducible refine Bt ?_ (by assumption)) | (with_reducible refine Bp (g := g) ?_ (by assumption) (by assumption)))))))
      refine mix_nil ?_
      go_wp2
      go_roundw
      case rel =>
        refine ⟨k + 1, by omega, by go_num, hB.trans (Below.mono (B := wr.heap.size) ?_ hB.size)⟩
        repeat (first | (with_reducible exact Below.refl _ _) | (with_reducible refine Bal ?_ _) | (with_reducible refine Below.drew ?_) | (with_reducible refine below_drewN ?_ _) | (with_reducible refine Bset ?_ ?_ _; focus (first | (with_reducible exact Nat.le_refl _) | (simp; done) | (simp; omega) | omega)) | (with_reducible refine Bt ?_ (by assumption)) | (with_reducible refine Bp (g := g) ?_ (by assumption) (by assumption)))
      case measure => simp [intOf]; omega
    · go_wp2
      go_ret
      exact ⟨rfl, hB⟩
theorem szHdS_in (w : World) (A : Option Addr) (n c : Nat) (hn : n ≤ 1048576) :
    Calls Try.prog 42 #[.slice A n c, .int .i64 1048576] w fun e w' => e = .returned (.int .i64 (1048576 - n)) ∧ w = w' := by
  go_enter Try.func42, Try.ntmps42
  go_wp2
  go_ret
  exact ⟨ret_int (by omega), rfl⟩
theorem szHdS_out (w : World) (A : Option Addr) (n c : Nat) (hn : 1048576 < n) (hm : n ≤ 9223372036854775807) :
    Calls Try.prog 42 #[.slice A n c, .int .i64 1048576] w fun e w' => e = .returned (.int .i64 (-1)) ∧ w = w' := by
  go_enter Try.func42, Try.ntmps42
  go_wp2
  go_ret
  exact ⟨rfl, rfl⟩
theorem szBf_in (w : World) (A : Option Addr) (n c : Nat) (y d : Int) (hn : n ≤ 1048576) :
    Calls Try.prog 16 #[.agg #[.int .i64 y, .int .i64 d, .slice A n c], .int .i64 1048576] w fun e w' => e = .returned (.int .i64 (1048576 - n)) ∧ Below w.heap.size w w' := by
  have hx : ¬ (1048576 : Int) - n < 0 := by omega
  go_enter Try.func16, Try.ntmps16
  go_wp2_with fail
  refine (szHdS_in _ A n c hn).mono ?_
  rintro e w' ⟨rfl, rfl⟩
  go_wp2_with fail
  go_ret
  go_light
  refine ⟨rfl, ?_⟩
  repeat (first | (with_reducible exact Below.refl _ _) | (with_reducible refine Bal ?_ _) | (with_reducible refine Below.drew ?_) | (with_reducible refine below_drewN ?_ _) | (with_reducible refine Bset ?_ ?_ _; focus (first | (with_reducible exact Nat.le_refl _) | (simp; done) | (simp; omega) | omega)) | (with_reducible refine Bt ?_ (by assumption)) | (with_reducible refine Bp (g := g) ?_ (by assumption) (by assumption)))
theorem szBf_out (w : World) (A : Option Addr) (n c : Nat) (y d : Int) (hn : 1048576 < n) (hm : n ≤ 9223372036854775807) :
    Calls Try.prog 16 #[.agg #[.int .i64 y, .int .i64 d, .slice A n c], .int .i64 1048576] w fun e w' => e = .returned (.int .i64 (-1)) ∧ Below w.heap.size w w' := by
  go_enter Try.func16, Try.ntmps16
  go_wp2_with fail
  refine (szHdS_out _ A n c hn hm).mono ?_
  rintro e w' ⟨rfl, rfl⟩
  go_wp2_with fail
  go_ret
  go_light
  refine ⟨rfl, ?_⟩
  repeat (first | (with_reducible exact Below.refl _ _) | (with_reducible refine Bal ?_ _) | (with_reducible refine Below.drew ?_) | (with_reducible refine below_drewN ?_ _) | (with_reducible refine Bset ?_ ?_ _; focus (first | (with_reducible exact Nat.le_refl _) | (simp; done) | (simp; omega) | omega)) | (with_reducible refine Bt ?_ (by assumption)) | (with_reducible refine Bp (g := g) ?_ (by assumption) (by assumption)))
set_option maxHeartbeats 8000000 in
theorem toHdS_any (w : World) (lo hi : Nat) (A : Option Addr) (n c : Nat) (p : Nat → Hd) (h : RowAt w lo hi A n 7 (HdF p)) (hi' : hi ≤ w.heap.size) (hn : n ≤ 1048576) :
    Calls Try.prog 44 #[.slice A n c] w fun e w' => ∃ A c, RowOwn 54 w' w.heap.size w'.heap.size A n c 7 (HdF p) ∧ e = .returned (.slice A n c) ∧ Below w.heap.size w w' := by
  obtain ⟨i0, q1, q2, q3, q4⟩ := info_parts info_hd
  have H := Lib.hid h
  clear h
  go_enter Try.func44, Try.ntmps44
  go_wp2_with (at_make; refine wpList_make_full _ rfl _ _ _ rfl w.heap.size 54 i0 _ 7 Try.underlying26 q1 q2 q3 .i64 .i64 _ _ n rfl rfl rfl rfl (by rw [q4]; omega) (by unfold maxLen; omega) (by first | exact Nat.le_refl _ | simp) ?_; intro w1 hown1 hg1)
  have hst := made_row (sz := 7) (C := HdC) (x := Hd0) rfl (by decide) (fun r hr => by rcases (by omega : r = 0 ∨ r = 1 ∨ r = 2 ∨ r = 3 ∨ r = 4 ∨ r = 5 ∨ r = 6) with rfl | rfl | rfl | rfl | rfl | rfl | rfl <;> rfl) hown1
  go_loopw [4] (fun i wr => ∃ k, k ≤ n ∧ i = .int .i64 k ∧ RowOwn 54 wr w.heap.size (w.heap.size + 1) (some ⟨w.heap.size, 0, none⟩) n n 7 (HdF fun j => if j < k then p j else Hd0) ∧ w.heap.size + 1 ≤ wr.heap.size ∧ Below w.heap.size w wr) (fun i _ => n - (intOf i).toNat)
  case atStart => exact ⟨0, Nat.zero_le _, rfl, ⟨hst.1, fun g hg => by cases hg; exact Nat.lt_succ_self _⟩, hst.2 _ rfl, (Below.refl _ _).grown hg1 (Nat.le_refl _) (by simp)⟩
  case round =>
    obtain ⟨k, hk, rfl, hO, hs, hB⟩ := hrel
    by_cases hkn : k < n
    · obtain ⟨b, off, rfl, _, hb2, c0, c1, c2, c3, c4, c5, c6⟩ := Hd_at (H.out.below hi' hB) hkn
      go_wp2_with fail
      refine (toHd_any _ _ _ _ _ _ _ _).mono ?_
      rintro e w2 ⟨rfl, hbw⟩
      have hO2 := hO.below hs hbw
      have hs2 := hbw.size
      have hB2 : Below w.heap.size w w2 := hB.trans (hbw.mono hB.size)
      rcases hO2.cases with ⟨e, _⟩ | ⟨g, hg, hlo, _, hgl, _, hfz, hcl⟩
      · cases e
      · cases hg
        have d0 := hcl (k * 7) (by omega)
        have d1 := hcl (k * 7 + 1) (by omega)
        have d2 := hcl (k * 7 + 2) (by omega)
        have d3 := hcl (k * 7 + 3) (by omega)
        have d4 := hcl (k * 7 + 4) (by omega)
        have d5 := hcl (k * 7 + 5) (by omega)
        have d6 := hcl (k * 7 + 6) (by omega)
        generalize HdF (fun j => if j < k then p j else Hd0) (k * 7) = y0 at d0
        generalize HdF (fun j => if j < k then p j else Hd0) (k * 7 + 1) = y1 at d1
        generalize HdF (fun j => if j < k then p j else Hd0) (k * 7 + 2) = y2 at d2
        generalize HdF (fun j => if j < k then p j else Hd0) (k * 7 + 3) = y3 at d3
        generalize HdF (fun j => if j < k then p j else Hd0) (k * 7 + 4) = y4 at d4
        generalize HdF (fun j => if j < k then p j else Hd0) (k * 7 + 5) = y5 at d5
        generalize HdF (fun j => if j < k then p j else Hd0) (k * 7 + 6) = y6 at d6
        have f0 := hfz (k * 7)
        have f1 := hfz (k * 7 + 1)
        have f2 := hfz (k * 7 + 2)
        have f3 := hfz (k * 7 + 3)
        have f4 := hfz (k * 7 + 4)
        have f5 := hfz (k * 7 + 5)
        have f6 := hfz (k * 7 + 6)
        clear hcl hfz
        go_wp2
        go_roundw
        case rel =>
          refine ⟨k + 1, by omega, by go_num, (seven_put hO2).congr (RowF_congr (n := n) (by decide) fun i hi => ?_), by simp [World.setCell]; omega, ?_⟩
          · unfold updE
            by_cases e : i = k
            · subst e; simp
            · by_cases e2 : i < k
              · simp [e, e2, show i < k + 1 by omega]
              · simp [e, e2, show ¬ i < k + 1 by omega]
          · exact (((((((hB2.setCell (Nat.le_refl _) _).setCell (Nat.le_refl _) _).setCell (Nat.le_refl _) _).setCell (Nat.le_refl _) _).setCell (Nat.le_refl _) _).setCell (Nat.le_refl _) _).setCell (Nat.le_refl _) _)
        case measure => simp [intOf]; omega
    · obtain rfl : k = n := by omega
      go_wp2
      go_ret
      exact ⟨_, _, (hO.wide (Nat.le_refl _) hs).congr (RowF_congr (n := k) (by decide) fun i hi => by simp [hi]), rfl, hB⟩
set_option maxHeartbeats 4000000 in
theorem toBf_any (w : World) (lo hi : Nat) (A : Option Addr) (n c : Nat) (y d : Int) (p : Nat → Hd) (h : RowAt w lo hi A n 7 (HdF p)) (hi' : hi ≤ w.heap.size) (hn : n ≤ 1048576) :
    Calls Try.prog 18 #[.agg #[.int .i64 y, .int .i64 d, .slice A n c]] w fun e w' => ∃ A c, RowOwn 54 w' w.heap.size w'.heap.size A n c 7 (HdF p) ∧ e = .returned (.agg #[.int .i64 y, .int .i64 d, .slice A n c]) ∧ Below w.heap.size w w' := by
  have H := Lib.hid (fun W (hb : Below w.heap.size w W) => toHdS_any W lo hi A n c p (h.below hi' hb) (Nat.le_trans hi' hb.size) hn)
  clear h
  go_enter Try.func18, Try.ntmps18
  go_wp2_with fail
  refine (H.out _ (by repeat (first | (with_reducible exact Below.refl _ _) | (with_reducible refine Bal ?_ _) | (with_reducible refine Below.drew ?_) | (with_reducible refine below_drewN ?_ _) | (with_reducible refine Bset ?_ ?_ _; focus (first | (with_reducible exact Nat.le_refl _) | (simp; done) | (simp; omega) | omega)) | (with_reducible refine Bt ?_ (by assumption)) | (with_reducible refine Bp (g := g) ?_ (by assumption) (by assumption))))).mono ?_
  rintro e w1 ⟨A1, c1, hO1, rfl, hb1⟩
  obtain ⟨hc1, hf1⟩ := bcell hb1
  have hy1 := hb1.size
  try simp at hy1
  have ho1_0 : w.heap.size < w1.heap.size := by (have := hb1.size; (try simp at this); omega)
  have hg1_0 := fun o => hc1 (w.heap.size) o (by first | (simp; done) | (simp; omega) | omega)
  have hk1_0 := fun o => hf1 (w.heap.size) o (by first | (simp; done) | (simp; omega) | omega)
  try simp [go_sem] at hg1_0
  try simp [go_sem] at hk1_0
  have ho1_1 : w.heap.size + 1 < w1.heap.size := by (have := hb1.size; (try simp at this); omega)
  have hg1_1 := fun o => hc1 (w.heap.size + 1) o (by first | (simp; done) | (simp; omega) | omega)
  have hk1_1 := fun o => hf1 (w.heap.size + 1) o (by first | (simp; done) | (simp; omega) | omega)
  try simp [go_sem] at hg1_1
  try simp [go_sem] at hk1_1
  have ho1_2 : w.heap.size + 1 + 1 < w1.heap.size := by (have := hb1.size; (try simp at this); omega)
  have hg1_2 := fun o => hc1 (w.heap.size + 1 + 1) o (by first | (simp; done) | (simp; omega) | omega)
  have hk1_2 := fun o => hf1 (w.heap.size + 1 + 1) o (by first | (simp; done) | (simp; omega) | omega)
  try simp [go_sem] at hg1_2
  try simp [go_sem] at hk1_2
  obtain ⟨L8, hL8, hO9⟩ : ∃ L : Nat, L = _ ∧ RowOwn 54 w1 L w1.heap.size A1 n c1 7 (HdF p) := ⟨_, rfl, hO1⟩
  simp at hL8
  have hL9 : w.heap.size + 1 + 1 < L8 := by omega
  clear hL8
  have HO := Lib.hid hO9
  clear hO1 hO9
  go_wp2_with fail
  refine bodyPost_ret (v := .agg #[.int .i64 y, .int .i64 d, .slice A1 n c1]) ?_ rfl ?_
  · simp only [results, Try.results18]
    go_simp
  refine ⟨A1, c1, ?_, rfl, ?_⟩
  · refine RowOwn.wide (lo := L8) (hi := w1.heap.size) ?_ (by omega) (by first | (simp [World.setCell]; done) | (simp [World.setCell]; omega))
    repeat (first | (with_reducible exact HO.out) | (with_reducible refine RowOwn.setC ?_ ?_ _; focus (left; first | omega | (simp; omega) | (simp; done))))
  · go_light
    repeat (first | (with_reducible exact Below.refl _ _) | (with_reducible refine Bal ?_ _) | (with_reducible refine Below.drew ?_) | (with_reducible refine below_drewN ?_ _) | (with_reducible refine Bset ?_ ?_ _; focus (first | (with_reducible exact Nat.le_refl _) | (simp; done) | (simp; omega) | omega)) | (with_reducible refine Bt ?_ (by assumption)) | (with_reducible refine Bp (g := g) ?_ (by assumption) (by assumption)))
set_option maxHeartbeats 4000000 in
theorem eqBf_same (w : World) {lo hi lo2 hi2 : Nat} {A B : Option Addr} {n c1 c2 : Nat} {y d : Int} {p : Nat → Hd} (h : RowAt w lo hi A n 7 (HdF p)) (h2 : RowAt w lo2 hi2 B n 7 (HdF p)) (hh : hi ≤ w.heap.size) (hh2 : hi2 ≤ w.heap.size) (hn : n ≤ 1048576) :
    Calls Try.prog 20 #[.agg #[.int .i64 y, .int .i64 d, .slice A n c1], .agg #[.int .i64 y, .int .i64 d, .slice B n c2]] w fun e w' => e = .returned (.bool true) ∧ Below w.heap.size w w' := by
  have HS := Lib.hid (fun W (hb : Below w.heap.size w W) => eqHdS_same W (c := c1) (d := c2) (h.below hh hb) (h2.below hh2 hb) (Nat.le_trans hh hb.size) (Nat.le_trans hh2 hb.size) hn)
  clear h h2
  go_enter Try.func20, Try.ntmps20
  go_wp2_with fail
  refine (HS.out _ (by repeat (first | (with_reducible exact Below.refl _ _) | (with_reducible refine Bal ?_ _) | (with_reducible refine Below.drew ?_) | (with_reducible refine below_drewN ?_ _) | (with_reducible refine Bset ?_ ?_ _; focus (first | (with_reducible exact Nat.le_refl _) | (simp; done) | (simp; omega) | omega)) | (with_reducible refine Bt ?_ (by assumption)) | (with_reducible refine Bp (g := g) ?_ (by assumption) (by assumption))))).mono ?_
  rintro e w1 ⟨rfl, hb1⟩
  obtain ⟨hc1, hf1⟩ := bcell hb1
  have hy1 := hb1.size
  try simp at hy1
  first | (have hz1 : w.heap.size < w1.heap.size := by (have := hb1.size; (try simp at this); omega)) | skip
  have ho1_0 : w.heap.size < w1.heap.size := by (have := hb1.size; (try simp at this); omega)
  have hg1_0 := fun o => hc1 (w.heap.size) o (by first | (simp; done) | (simp; omega) | omega)
  have hk1_0 := fun o => hf1 (w.heap.size) o (by first | (simp; done) | (simp; omega) | omega)
  try simp [go_sem] at hg1_0
  try simp [go_sem] at hk1_0
  have ho1_1 : w.heap.size + 1 < w1.heap.size := by (have := hb1.size; (try simp at this); omega)
  have hg1_1 := fun o => hc1 (w.heap.size + 1) o (by first | (simp; done) | (simp; omega) | omega)
  have hk1_1 := fun o => hf1 (w.heap.size + 1) o (by first | (simp; done) | (simp; omega) | omega)
  try simp [go_sem] at hg1_1
  try simp [go_sem] at hk1_1
  go_wp2_with fail
  go_ret
  go_light
  refine ⟨rfl, ?_⟩
  repeat (first | (with_reducible exact Below.refl _ _) | (with_reducible refine Bal ?_ _) | (with_reducible refine Below.drew ?_) | (with_reducible refine below_drewN ?_ _) | (with_reducible refine Bset ?_ ?_ _; focus (first | (with_reducible exact Nat.le_refl _) | (simp; done) | (simp; omega) | omega)) | (with_reducible refine Bt ?_ (by assumption)) | (with_reducible refine Bp (g := g) ?_ (by assumption) (by assumption)))
end Go.Proofs.Ytegdogamenoaiaa
