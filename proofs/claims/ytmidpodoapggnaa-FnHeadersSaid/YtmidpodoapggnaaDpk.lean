/- The draw of packets. -/
import Derived.Test.YtmidpodoapggnaaPkm
import Derived.Test.YtmidpodoapggnaaDro
import Derived.Test.YtmidpodoapggnaaFad
import Derived.Deep.DeepCutAuto
namespace Go.Proofs.Ytmidpodoapggnaa
open Go Go.RowKit
set_option linter.unusedVariables false
set_option linter.unusedSimpArgs false
def kI {X : Nat → Prop} : Kd X := ⟨fun v _ => ∃ x : Int, v = .int .i64 x, fun _ _ _ _ h => h⟩
theorem kI_mk {X : Nat → Prop} {w : World} {x : Int} : (kI : Kd X).p (.int .i64 x) w := ⟨x, rfl⟩
theorem put_w {e : TypeId} {w : World} {lo hi n cc g k : Nat} {p : Nat → Pk} {a : Int} (h : RowOwn e w lo hi (some ⟨g, 0, none⟩) n cc 6 (PkF p)) :
    RowOwn e (w.setCell ⟨g, k * 6, none⟩ (.int .i64 a)) lo hi (some ⟨g, 0, none⟩) n cc 6 (PkF (updE p k ⟨a, (p k).t, (p k).l, (p k).s, (p k).k, (p k).z⟩)) := by
  refine (h.store (k * 6) (.int .i64 a)).congr fun j hj => ?_
  refine RowF_put (sz := 6) (C := PkC) (q := p) (k := k) (x := ⟨a, (p k).t, (p k).l, (p k).s, (p k).k, (p k).z⟩) (by decide) ?_ ?_ j
  · intro r hr
    rcases (by omega : r = 0 ∨ r = 1 ∨ r = 2 ∨ r = 3 ∨ r = 4 ∨ r = 5) with rfl | rfl | rfl | rfl | rfl | rfl
    · exact if_pos rfl
    · exact (if_neg (by omega)).trans (RowF_at (sz := 6) (C := PkC) (q := p) (k := k) (r := 1) (by decide))
    · exact (if_neg (by omega)).trans (RowF_at (sz := 6) (C := PkC) (q := p) (k := k) (r := 2) (by decide))
    · exact (if_neg (by omega)).trans (RowF_at (sz := 6) (C := PkC) (q := p) (k := k) (r := 3) (by decide))
    · exact (if_neg (by omega)).trans (RowF_at (sz := 6) (C := PkC) (q := p) (k := k) (r := 4) (by decide))
    · exact (if_neg (by omega)).trans (RowF_at (sz := 6) (C := PkC) (q := p) (k := k) (r := 5) (by decide))
  · exact fun i hi => if_neg (by omega)
theorem put_t {e : TypeId} {w : World} {lo hi n cc g k : Nat} {p : Nat → Pk} {a : Int} (h : RowOwn e w lo hi (some ⟨g, 0, none⟩) n cc 6 (PkF p)) :
    RowOwn e (w.setCell ⟨g, k * 6 + 1, none⟩ (.int .i64 a)) lo hi (some ⟨g, 0, none⟩) n cc 6 (PkF (updE p k ⟨(p k).w, a, (p k).l, (p k).s, (p k).k, (p k).z⟩)) := by
  refine (h.store (k * 6 + 1) (.int .i64 a)).congr fun j hj => ?_
  refine RowF_put (sz := 6) (C := PkC) (q := p) (k := k) (x := ⟨(p k).w, a, (p k).l, (p k).s, (p k).k, (p k).z⟩) (by decide) ?_ ?_ j
  · intro r hr
    rcases (by omega : r = 0 ∨ r = 1 ∨ r = 2 ∨ r = 3 ∨ r = 4 ∨ r = 5) with rfl | rfl | rfl | rfl | rfl | rfl
    · exact (if_neg (by omega)).trans (RowF_at (sz := 6) (C := PkC) (q := p) (k := k) (r := 0) (by decide))
    · exact if_pos rfl
    · exact (if_neg (by omega)).trans (RowF_at (sz := 6) (C := PkC) (q := p) (k := k) (r := 2) (by decide))
    · exact (if_neg (by omega)).trans (RowF_at (sz := 6) (C := PkC) (q := p) (k := k) (r := 3) (by decide))
    · exact (if_neg (by omega)).trans (RowF_at (sz := 6) (C := PkC) (q := p) (k := k) (r := 4) (by decide))
    · exact (if_neg (by omega)).trans (RowF_at (sz := 6) (C := PkC) (q := p) (k := k) (r := 5) (by decide))
  · exact fun i hi => if_neg (by omega)
theorem own_some {e : TypeId} {w : World} {lo hi n c sz : Nat} {A : Option Addr} {f : Nat → Value} (h : RowOwn e w lo hi A n c sz f) (hn : 0 < n) :
    ∃ g, A = some ⟨g, 0, none⟩ ∧ lo ≤ g ∧ g < hi ∧ g < w.heap.size ∧ n ≤ c ∧ (∀ j, w.frozen? ⟨g, j, none⟩ = false) ∧ ∀ j, j < n * sz → w.cell? ⟨g, j, none⟩ = some (f j) := by
  rcases RowOwn.cases h with ⟨_, e, _⟩ | h
  · omega
  · exact h
theorem pk_cell {e : TypeId} {w : World} {lo hi n c g k : Nat} {p : Nat → Pk} (h : RowOwn e w lo hi (some ⟨g, 0, none⟩) n c 6 (PkF p)) (hk : k < n) :
    w.cell? ⟨g, k * 6, none⟩ = some (.int .i64 (p k).w) ∧ w.cell? ⟨g, k * 6 + 1, none⟩ = some (.int .i64 (p k).t) ∧ w.frozen? ⟨g, k * 6, none⟩ = false ∧ w.frozen? ⟨g, k * 6 + 1, none⟩ = false := by
  obtain ⟨g', e', _, _, _, _, hf, hc⟩ := own_some h (by omega)
  cases e'
  exact ⟨(hc (k * 6) (by omega)).trans (congrArg some (RowF_at (sz := 6) (C := PkC) (q := p) (k := k) (r := 0) (by decide))), (hc (k * 6 + 1) (by omega)).trans (congrArg some (RowF_at (sz := 6) (C := PkC) (q := p) (k := k) (r := 1) (by decide))), hf _, hf _⟩
/-- Where a draw of packets stands: its row, the reader, and what was there. -/
def PkSt (w : World) (g K n c : Nat) (A : Option Addr) (wx : World) : Prop := RdLe wx g K ∧ Past g w.heap.size w wx ∧ ∃ p, RowOwn 61 wx w.heap.size wx.heap.size A n c 6 (PkF p)
theorem PkSt.past {w w1 w2 : World} {g K n c : Nat} {A : Option Addr} (h : PkSt w g K n c A w1) (hg : g < w.heap.size) (hp : Past g w1.heap.size w1 w2) {K' : Nat} (hR : RdLe w2 g K') : PkSt w g K' n c A w2 := by
  obtain ⟨h1, h2, p, h3⟩ := h
  exact ⟨hR, h2.trans (hp.mono h2.size), p, (RowOwn.past hg (Nat.le_refl _) h3 hp).wide (Nat.le_refl _) hp.size⟩
theorem PkSt.mono {w w1 : World} {g K K' n c : Nat} {A : Option Addr} (h : PkSt w g K n c A w1) (hK : K ≤ K') : PkSt w g K' n c A w1 := ⟨h.1.mono hK, h.2⟩
def DrawnP (g k m : Nat) (w : World) (e : Ending) (w' : World) : Prop := ∃ A n c, n ≤ m ∧ PkSt w g k n c A w' ∧ e = .returned (.slice A n c)
set_option maxRecDepth 100000 in
set_option maxHeartbeats 8000000 in
theorem packets_draw (w : World) (g k m : Nat) (h : RdLe w g k) (hk : k ≤ 999000) (hm : m ≤ 12) :
    Calls Try.prog 64 #[.pointer (some ⟨g, 0, none⟩), .int .i64 m] w (DrawnP g (k + 400) m w) := by
  obtain ⟨i0, q1, q2, q3, q4⟩ := info_parts info_pk
  have hg := h.lt
  go_enter Try.func64, Try.ntmps64
  go_wp2_with fail
  have hS0 := Lib.hid (show PkSt w g k 0 0 (some ⟨w.heap.size, 0, none⟩) (w.alloc (.cells #[] 61)) from ⟨h.alloc _, Past.of (Ba _ _), _, (empty_row w 61 6 (PkF fun _ => Pk0)).wide (Nat.le_refl _) (by simp)⟩)
  refine (pk _ g k _ hS0.out.1 (by omega) (by omega) (by omega)).mono ?_
  rintro e w1 ⟨⟨v1, ⟨vl1, vh1⟩, rfl, hR1, hb1⟩, hs1⟩
  have hS1 := Lib.hid (hS0.out.past hg hb1 hR1)
  clear hs1 hb1 hR1
  obtain ⟨M, rfl⟩ : ∃ M : Nat, v1 = M := ⟨v1.toNat, by omega⟩
  have hM : M ≤ m := by omega
  go_wp2_with fail
  refine (pk _ g _ _ hS1.out.1 (by omega) (by omega) (by omega)).mono ?_
  rintro e w2 ⟨⟨v2, ⟨vl2, vh2⟩, rfl, hR2, hb2⟩, hs2⟩
  have hS2 := Lib.hid (hS1.out.past hg hb2 hR2)
  clear hs2 hb2 hR2
  go_wp2_with fail
  refine (pk _ g _ _ hS2.out.1 (by omega) (by omega) (by omega)).mono ?_
  rintro e w3 ⟨⟨v3, ⟨vl3, vh3⟩, rfl, hR3, hb3⟩, hs3⟩
  have hS3 := Lib.hid ((hS2.out.past hg hb3 hR3).mono (show k + 1 + 1 + 1 ≤ k + 10 + 20 * 0 by omega))
  clear hs3 hb3 hR3
  go_wp2_with fail
  go_loopw [5, 7, 8, 9, 10, 11] (fun o wd tm bg ky i wr => ∃ (j c : Nat) (A : Option Addr) (x y : Int) (b1 b2 : Bool), j ≤ M ∧ i = .int .i64 (j : Nat) ∧ o = .slice A j c ∧ wd = .int .i64 x ∧ tm = .int .i64 y ∧ bg = .bool b1 ∧ ky = .bool b2 ∧ Hid (PkSt w g (k + 10 + 20 * j) j c A wr)) (fun _ _ _ _ _ i _ => M - (intOf i).toNat)
  case atStart => exact ⟨0, 0, _, _, _, _, _, by omega, rfl, rfl, rfl, rfl, rfl, rfl, hS3⟩
  case round =>
    obtain ⟨j, c, A, x, y, b1, b2, hj, rfl, rfl, rfl, rfl, rfl, rfl, hS⟩ := hrel
    by_cases hjn : j < M
    · go_wp2_with fail
      refine (pk _ g _ _ hS.out.1 (by omega) (by omega) (by omega)).mono ?_
      rintro e w4 ⟨⟨v4, ⟨vl4, vh4⟩, rfl, hR4, hb4⟩, hs4⟩
      have hS4 := Lib.hid (hS.out.past hg hb4 hR4)
      clear hs4 hb4 hR4 hS
      obtain ⟨bl, hbl⟩ : ∃ b : Bool, (v4 == 0) = b := ⟨_, rfl⟩
      go_upto_if 32 with fail
      clear hbl
      go_cut [10] (fun ky wx => ∃ b : Bool, ky = .bool b ∧ Hid (PkSt w g (k + 10 + 20 * j + 3) j c A wx))
      case first =>
        cases b1
        · go_wp2_with fail
          go_meet
          exact ⟨_, rfl, Lib.hid (hS4.out.mono (by omega))⟩
        · rcases Nat.eq_zero_or_pos j with rfl | hjp
          · skip
            go_wp2_with fail
            refine (pk _ g _ _ hS4.out.1 (by omega) (by omega) (by omega)).mono ?_
            rintro e w5 ⟨⟨v5, ⟨vl5, vh5⟩, rfl, hR5, hb5⟩, hs5⟩
            have hS5 := Lib.hid (hS4.out.past hg hb5 hR5)
            clear hs5 hb5 hR5
            by_cases h5 : 0 < v5
            · go_wp2_with fail
              go_meet
              exact ⟨_, rfl, Lib.hid (hS5.out.mono (by omega))⟩
            · have h5' : ¬ 0 < v5 := h5
              go_wp2_with fail
              refine (pk _ g _ _ hS5.out.1 (by omega) (by omega) (by omega)).mono ?_
              rintro e w6 ⟨⟨v6, ⟨vl6, vh6⟩, rfl, hR6, hb6⟩, hs6⟩
              have hS6 := Lib.hid (hS5.out.past hg hb6 hR6)
              clear hs6 hb6 hR6
              go_wp2_with fail
              go_meet
              exact ⟨_, rfl, Lib.hid (hS6.out.mono (by omega))⟩
          · have hj0b : ((j : Int) == 0) = false := by simp; omega
            go_wp2_with fail
            refine (pk _ g _ _ hS4.out.1 (by omega) (by omega) (by omega)).mono ?_
            rintro e w5 ⟨⟨v5, ⟨vl5, vh5⟩, rfl, hR5, hb5⟩, hs5⟩
            have hS5 := Lib.hid (hS4.out.past hg hb5 hR5)
            clear hs5 hb5 hR5
            go_wp2_with fail
            go_meet
            exact ⟨_, rfl, Lib.hid (hS5.out.mono (by omega))⟩
      case rest =>
        obtain ⟨b, rfl, hS5⟩ := hcut
        go_upto_region 13 with fail
        go_cut [5] (fun o wx => ∃ (A' : Option Addr) (c' : Nat), o = .slice A' (j + 1) c' ∧ Hid (PkSt w g (k + 10 + 20 * j + 3 + 1 + 1) (j + 1) c' A' wx))
        case first =>
          go_wp2_with fail
          refine (pk _ g _ _ hS5.out.1 (by omega) (by omega) (by omega)).mono ?_
          rintro e w6 ⟨⟨v6, ⟨vl6, vh6⟩, rfl, hR6, hb6⟩, hs6⟩
          have hS6 := Lib.hid (hS5.out.past hg hb6 hR6)
          clear hs6 hb6 hR6
          go_wp2_with fail
          refine (pk _ g _ _ hS6.out.1 (by omega) (by omega) (by omega)).mono ?_
          rintro e w7 ⟨⟨v7, ⟨vl7, vh7⟩, rfl, hR7, hb7⟩, hs7⟩
          have hS7 := Lib.hid (hS6.out.past hg hb7 hR7)
          clear hs7 hb7 hR7
          obtain ⟨p, hO7⟩ := hS7.out.2.2
          have hsz7 := hS7.out.2.1.size
          cases b
          all_goals (
            go_wp2_with (at_builtin; go_loud (refine wpList_rowAppend _ rfl (.tmp 45) (.tmp 59) _ rfl 61 i0 _ 6 40 Try.underlying55 q1 q2 q3 q4 rfl (by decide) w.heap.size _ A j c (PkF p) rfl (RowOwn.alloc hO7 _) _ _ _ 1 1 _ rfl (six_row _ _ _ _ _ _ _ _) ?_ (by unfold maxLen; omega) (by omega) (by simp; omega) ?_); (focus (intro i hi; rcases (by omega : i = 0 ∨ i = 1 ∨ i = 2 ∨ i = 3 ∨ i = 4 ∨ i = 5) with rfl | rfl | rfl | rfl | rfl | rfl <;> rfl)); intro A' c' w8 hO8 hG8 _)
            have hO9 := snoc_pk hO8
            have hS9 : PkSt w g (k + 10 + 20 * j + 3 + 1 + 1) (j + 1) c' A' w8 := by
              refine ⟨(hS7.out.1.alloc _).only (fun q hq => by have := (hO7.1.lt q hq).1; omega) hG8, hS7.out.2.1.trans (Past.trans (Past.of ((Below.refl _ _).alloc hS7.out.2.1.size _)) (past_grownAt (Nat.le_refl _) (fun q hq => (hO7.1.lt q hq).1) hG8 (by have := hS7.out.2.1.size; simp; omega))), _, hO9⟩
            have HS9 := Lib.hid hS9
            clear hO8 hO9 hG8 hS9 hO7
            go_wp2_with fail
            go_meet
            exact ⟨_, _, rfl, HS9⟩)
        case rest =>
          obtain ⟨A', c', rfl, hS9⟩ := hcut
          go_wp2_with fail
          refine (pk _ g _ _ hS9.out.1 (by omega) (by omega) (by omega)).mono ?_
          rintro e w10 ⟨⟨v10, ⟨vl10, vh10⟩, rfl, hR10, hb10⟩, hs10⟩
          have hS10 := Lib.hid (hS9.out.past hg hb10 hR10)
          clear hs10 hb10 hR10
          go_wp2_with fail
          refine (pk _ g _ _ hS10.out.1 (by omega) (by omega) (by omega)).mono ?_
          rintro e w11 ⟨⟨v11, ⟨vl11, vh11⟩, rfl, hR11, hb11⟩, hs11⟩
          have hS11 := Lib.hid (hS10.out.past hg hb11 hR11)
          clear hs11 hb11 hR11
          go_upto_region 15 with fail
          go_cut [9] (fun bg wx => ∃ b : Bool, bg = .bool b ∧ Hid (PkSt w g (k + 10 + 20 * j + 3 + 1 + 1 + 1 + 1 + 1) (j + 1) c' A' wx))
          case first =>
            cases bl
            rotate_left
            · go_wp2_with fail
              go_meet
              exact ⟨_, rfl, Lib.hid (hS11.out.mono (by omega))⟩
            · skip
              go_wp2_with fail
              refine (pk _ g _ _ hS11.out.1 (by omega) (by omega) (by omega)).mono ?_
              rintro e w12 ⟨⟨v12, ⟨vl12, vh12⟩, rfl, hR12, hb12⟩, hs12⟩
              have hS12 := Lib.hid (hS11.out.past hg hb12 hR12)
              clear hs12 hb12 hR12
              go_wp2_with fail
              go_meet
              exact ⟨_, rfl, Lib.hid (hS12.out.mono (by omega))⟩
          case rest =>
            obtain ⟨b3, rfl, hS13⟩ := hcut
            have HS := Lib.hid (hS13.out.mono (show k + 10 + 20 * j + 3 + 1 + 1 + 1 + 1 + 1 ≤ k + 10 + 20 * (j + 1) by omega))
            clear hS13 hS11 hS10 hS9 hS5 hS4
            cases b3
            all_goals (
              go_wp2_with fail
              go_roundw
              case rel => exact ⟨j + 1, c', A', _, _, _, _, by omega, by go_num, rfl, rfl, rfl, rfl, rfl, HS⟩
              case measure => simp [intOf]; omega)
    · obtain rfl : M = j := by omega
      by_cases h0 : M = 0
      · subst h0
        go_wp2_with fail
        go_ret
        exact ⟨_, _, _, by omega, hS.out.mono (by omega), rfl⟩
      · have h0' : 0 < M := by omega
        go_wp2_with fail
        refine (pk _ g _ _ hS.out.1 (by omega) (by omega) (by omega)).mono ?_
        rintro e w20 ⟨⟨v20, ⟨vl20, vh20⟩, rfl, hR20, hb20⟩, hs20⟩
        have hS20 := Lib.hid (hS.out.past hg hb20 hR20)
        clear hs20 hb20 hR20
        by_cases h20 : v20 = 0
        · subst h20
          go_wp2_with fail
          refine (pk _ g _ _ hS20.out.1 (by omega) (by omega) (by omega)).mono ?_
          rintro e w21 ⟨⟨v21, ⟨vl21, vh21⟩, rfl, hR21, hb21⟩, hs21⟩
          have hS21 := Lib.hid (hS20.out.past hg hb21 hR21)
          clear hs21 hb21 hR21
          obtain ⟨N, rfl⟩ : ∃ N : Nat, v21 = N := ⟨v21.toNat, by omega⟩
          have hNM : N < M := by omega
          obtain ⟨p, hO21⟩ := hS21.out.2.2
          obtain ⟨g2, rfl, hlo2, hhi2, hgl2, hnc2, hxx, hyy⟩ := own_some hO21 h0'
          clear hxx hyy hS hS20
          have hgg2 : g < g2 := by omega
          have hR21 := hS21.out.1
          have hNi : (N : Int) < (M : Int) := by omega
          go_wp2_with fail
          have hXna := Lib.hid (show ∀ q, w21.heap.size ≤ q → ¬ (fun q => q = g ∨ q = g2) q by intro q hq hx; rcases hx with hx | hx <;> omega)
          refine wp_region_fad g (k + 10 + 20 * M + 1 + 1) (fun q => q = g ∨ q = g2) (fun W => ∃ p, RowOwn 61 W w.heap.size w21.heap.size (some ⟨g2, 0, none⟩) M c 6 (PkF p)) [] [kEq (.slice (some ⟨g2, 0, none⟩) M c), kEq (.int .i64 (N : Nat)), kEq (.slice (some ⟨g2, 0, none⟩) M c), kEq (.int .i64 (N : Nat)), kEq (.pointer (some ⟨g2, N * 6, none⟩)), kEq (.pointer (some ⟨g2, N * 6, none⟩)), kI, kInts 3 (-3) (5), kEq (.pointer (some ⟨g, 0, none⟩)), kInt (0) (2), kAd (-3) (5), kInt (-3) (5), kI, kEq (.pointer (some ⟨g2, N * 6, none⟩)), kEq (.pointer (some ⟨g2, N * 6, none⟩)), kAny] (by kernel_rfl) 119 rfl (by kernel_rfl) (by kernel_rfl) (by repeat (first | assumption | (with_reducible refine RdLe.drew ?_) | (with_reducible refine RdLe.drewN ?_ _) | (with_reducible refine RdLe.alloc ?_ _) | (with_reducible refine RdLe.setC ?_ ?_ _; focus (first | (simp; done) | (simp; omega) | omega)))) (by exact ⟨p, hO21⟩) (fac_cons [] true false (by kernel_rfl) (by kernel_rfl) (by kernel_rfl) ?_ (fac_cons [] true false (by kernel_rfl) (by kernel_rfl) (by kernel_rfl) ?_ (fac_cons [] true false (by kernel_rfl) (by kernel_rfl) (by kernel_rfl) ?_ (fac_cons [] true false (by kernel_rfl) (by kernel_rfl) (by kernel_rfl) ?_ (fac_cons [(2, 92), (3, 93)] true false (by kernel_rfl) (by kernel_rfl) (by kernel_rfl) ?_ (fac_cons [(4, 94)] true false (by kernel_rfl) (by kernel_rfl) (by kernel_rfl) ?_ (fac_cons [(5, 95)] true false (by kernel_rfl) (by kernel_rfl) (by kernel_rfl) ?_ (fac_cons [] true false (by kernel_rfl) (by kernel_rfl) (by kernel_rfl) ?_ (fac_cons [] true false (by kernel_rfl) (by kernel_rfl) (by kernel_rfl) ?_ (fac_cons [(8, 98)] true false (by kernel_rfl) (by kernel_rfl) (by kernel_rfl) ?_ (fac_cons [(7, 97), (9, 99)] true false (by kernel_rfl) (by kernel_rfl) (by kernel_rfl) ?_ (fac_cons [(10, 100)] true false (by kernel_rfl) (by kernel_rfl) (by kernel_rfl) ?_ (fac_cons [(6, 96), (11, 101)] true false (by kernel_rfl) (by kernel_rfl) (by kernel_rfl) ?_ (fac_cons [(0, 90), (1, 91)] true false (by kernel_rfl) (by kernel_rfl) (by kernel_rfl) ?_ (fac_cons [(13, 103)] true false (by kernel_rfl) (by kernel_rfl) (by kernel_rfl) ?_ (fac_cons [(14, 104), (12, 102)] true false (by kernel_rfl) (by kernel_rfl) (by kernel_rfl) ?_ (fac_nil))))))))))))))))) [(0, 90), (1, 91), (2, 92), (3, 93), (4, 94), (5, 95), (6, 96), (7, 97), (8, 98), (9, 99), (10, 100), (11, 101), (12, 102), (13, 103), (14, 104)] (by kernel_rfl) ?_
          · intro b n W hn hb hJ
            obtain rfl := hb rfl
            have hR := hJ.1 rfl
            have hgW := hR.lt
            have hn : n < 16 := hn
            have hE := hJ.2.1
            have hjx := hJ.2.2
            have hsz := hE.size
            have hsz : w21.heap.size ≤ W.heap.size := hsz
            have hszz : w21.heap.size ≤ W.heap.size := by omega
            obtain ⟨pp, hpp⟩ := hjx
            obtain ⟨cw, ct, fw, ft⟩ := pk_cell hpp hNM
            refine fac_op rfl rfl (by show 90 < 119; decide) ?_
            refine fac_putK ?_; intro K hK; go_simp; refine hK _ ?_; clear hK K
            go_wp2_with fail
            refine then_fac rfl (fad_step hJ (by exact Or.inl rfl) (by repeat (first | (with_reducible exact Past.refl _ _ _) | (with_reducible refine Past.alloc ?_ (by simp) _) | (with_reducible refine Past.drew ?_) | (with_reducible refine Past.drewN ?_ _) | (with_reducible refine Past.setC ?_ ?_ _; focus (first | (with_reducible exact Nat.le_refl _) | (simp; done) | (simp; omega) | omega)) | (with_reducible refine Past.step ?_ (by simp) (by assumption)))) (fun _ => RdLe.mono (k := k + 10 + 20 * M + 1 + 1 + n) (by repeat (first | assumption | (with_reducible refine RdLe.drew ?_) | (with_reducible refine RdLe.drewN ?_ _) | (with_reducible refine RdLe.alloc ?_ _) | (with_reducible refine RdLe.setC ?_ ?_ _; focus (first | (simp; done) | (simp; omega) | omega)))) (by omega)) (by exact fun hp => ⟨pp, RowOwn.past hg hszz hpp hp⟩) ?_)
            exact kEq_mk rfl
          · intro b n W hn hb hJ
            obtain rfl := hb rfl
            have hR := hJ.1 rfl
            have hgW := hR.lt
            have hn : n < 16 := hn
            have hE := hJ.2.1
            have hjx := hJ.2.2
            have hsz := hE.size
            have hsz : w21.heap.size ≤ W.heap.size := hsz
            have hszz : w21.heap.size ≤ W.heap.size := by omega
            obtain ⟨pp, hpp⟩ := hjx
            obtain ⟨cw, ct, fw, ft⟩ := pk_cell hpp hNM
            refine fac_op rfl rfl (by show 91 < 119; decide) ?_
            refine fac_putK ?_; intro K hK; go_simp; refine hK _ ?_; clear hK K
            go_wp2_with fail
            refine then_fac rfl (fad_step hJ (by exact Or.inl rfl) (by repeat (first | (with_reducible exact Past.refl _ _ _) | (with_reducible refine Past.alloc ?_ (by simp) _) | (with_reducible refine Past.drew ?_) | (with_reducible refine Past.drewN ?_ _) | (with_reducible refine Past.setC ?_ ?_ _; focus (first | (with_reducible exact Nat.le_refl _) | (simp; done) | (simp; omega) | omega)) | (with_reducible refine Past.step ?_ (by simp) (by assumption)))) (fun _ => RdLe.mono (k := k + 10 + 20 * M + 1 + 1 + n) (by repeat (first | assumption | (with_reducible refine RdLe.drew ?_) | (with_reducible refine RdLe.drewN ?_ _) | (with_reducible refine RdLe.alloc ?_ _) | (with_reducible refine RdLe.setC ?_ ?_ _; focus (first | (simp; done) | (simp; omega) | omega)))) (by omega)) (by exact fun hp => ⟨pp, RowOwn.past hg hszz hpp hp⟩) ?_)
            exact kEq_mk rfl
          · intro b n W hn hb hJ
            obtain rfl := hb rfl
            have hR := hJ.1 rfl
            have hgW := hR.lt
            have hn : n < 16 := hn
            have hE := hJ.2.1
            have hjx := hJ.2.2
            have hsz := hE.size
            have hsz : w21.heap.size ≤ W.heap.size := hsz
            have hszz : w21.heap.size ≤ W.heap.size := by omega
            obtain ⟨pp, hpp⟩ := hjx
            obtain ⟨cw, ct, fw, ft⟩ := pk_cell hpp hNM
            refine fac_op rfl rfl (by show 92 < 119; decide) ?_
            refine fac_putK ?_; intro K hK; go_simp; refine hK _ ?_; clear hK K
            go_wp2_with fail
            refine then_fac rfl (fad_step hJ (by exact Or.inl rfl) (by repeat (first | (with_reducible exact Past.refl _ _ _) | (with_reducible refine Past.alloc ?_ (by simp) _) | (with_reducible refine Past.drew ?_) | (with_reducible refine Past.drewN ?_ _) | (with_reducible refine Past.setC ?_ ?_ _; focus (first | (with_reducible exact Nat.le_refl _) | (simp; done) | (simp; omega) | omega)) | (with_reducible refine Past.step ?_ (by simp) (by assumption)))) (fun _ => RdLe.mono (k := k + 10 + 20 * M + 1 + 1 + n) (by repeat (first | assumption | (with_reducible refine RdLe.drew ?_) | (with_reducible refine RdLe.drewN ?_ _) | (with_reducible refine RdLe.alloc ?_ _) | (with_reducible refine RdLe.setC ?_ ?_ _; focus (first | (simp; done) | (simp; omega) | omega)))) (by omega)) (by exact fun hp => ⟨pp, RowOwn.past hg hszz hpp hp⟩) ?_)
            exact kEq_mk rfl
          · intro b n W hn hb hJ
            obtain rfl := hb rfl
            have hR := hJ.1 rfl
            have hgW := hR.lt
            have hn : n < 16 := hn
            have hE := hJ.2.1
            have hjx := hJ.2.2
            have hsz := hE.size
            have hsz : w21.heap.size ≤ W.heap.size := hsz
            have hszz : w21.heap.size ≤ W.heap.size := by omega
            obtain ⟨pp, hpp⟩ := hjx
            obtain ⟨cw, ct, fw, ft⟩ := pk_cell hpp hNM
            refine fac_op rfl rfl (by show 93 < 119; decide) ?_
            refine fac_putK ?_; intro K hK; go_simp; refine hK _ ?_; clear hK K
            go_wp2_with fail
            refine then_fac rfl (fad_step hJ (by exact Or.inl rfl) (by repeat (first | (with_reducible exact Past.refl _ _ _) | (with_reducible refine Past.alloc ?_ (by simp) _) | (with_reducible refine Past.drew ?_) | (with_reducible refine Past.drewN ?_ _) | (with_reducible refine Past.setC ?_ ?_ _; focus (first | (with_reducible exact Nat.le_refl _) | (simp; done) | (simp; omega) | omega)) | (with_reducible refine Past.step ?_ (by simp) (by assumption)))) (fun _ => RdLe.mono (k := k + 10 + 20 * M + 1 + 1 + n) (by repeat (first | assumption | (with_reducible refine RdLe.drew ?_) | (with_reducible refine RdLe.drewN ?_ _) | (with_reducible refine RdLe.alloc ?_ _) | (with_reducible refine RdLe.setC ?_ ?_ _; focus (first | (simp; done) | (simp; omega) | omega)))) (by omega)) (by exact fun hp => ⟨pp, RowOwn.past hg hszz hpp hp⟩) ?_)
            exact kEq_mk rfl
          · intro b n W hn hb hJ
            obtain rfl := hb rfl
            have hR := hJ.1 rfl
            have hgW := hR.lt
            have hn : n < 16 := hn
            have hE := hJ.2.1
            have hjx := hJ.2.2
            have hsz := hE.size
            have hsz : w21.heap.size ≤ W.heap.size := hsz
            have hszz : w21.heap.size ≤ W.heap.size := by omega
            obtain ⟨pp, hpp⟩ := hjx
            obtain ⟨cw, ct, fw, ft⟩ := pk_cell hpp hNM
            intro u92 hu92
            have hu92 : u92 = (.slice (some ⟨g2, 0, none⟩) M c : Value) := hu92
            subst hu92
            intro u93 hu93
            have hu93 : u93 = (.int .i64 (N : Nat) : Value) := hu93
            subst hu93
            refine fac_op rfl rfl (by show 94 < 119; decide) ?_
            refine fac_putK ?_; intro K hK; go_simp; refine hK _ ?_; clear hK K
            go_wp2_with fail
            refine then_fac rfl (fad_step hJ (by exact Or.inl rfl) (by repeat (first | (with_reducible exact Past.refl _ _ _) | (with_reducible refine Past.alloc ?_ (by simp) _) | (with_reducible refine Past.drew ?_) | (with_reducible refine Past.drewN ?_ _) | (with_reducible refine Past.setC ?_ ?_ _; focus (first | (with_reducible exact Nat.le_refl _) | (simp; done) | (simp; omega) | omega)) | (with_reducible refine Past.step ?_ (by simp) (by assumption)))) (fun _ => RdLe.mono (k := k + 10 + 20 * M + 1 + 1 + n) (by repeat (first | assumption | (with_reducible refine RdLe.drew ?_) | (with_reducible refine RdLe.drewN ?_ _) | (with_reducible refine RdLe.alloc ?_ _) | (with_reducible refine RdLe.setC ?_ ?_ _; focus (first | (simp; done) | (simp; omega) | omega)))) (by omega)) (by exact fun hp => ⟨pp, RowOwn.past hg hszz hpp hp⟩) ?_)
            exact kEq_mk rfl
          · intro b n W hn hb hJ
            obtain rfl := hb rfl
            have hR := hJ.1 rfl
            have hgW := hR.lt
            have hn : n < 16 := hn
            have hE := hJ.2.1
            have hjx := hJ.2.2
            have hsz := hE.size
            have hsz : w21.heap.size ≤ W.heap.size := hsz
            have hszz : w21.heap.size ≤ W.heap.size := by omega
            obtain ⟨pp, hpp⟩ := hjx
            obtain ⟨cw, ct, fw, ft⟩ := pk_cell hpp hNM
            intro u94 hu94
            have hu94 : u94 = (.pointer (some ⟨g2, N * 6, none⟩) : Value) := hu94
            subst hu94
            refine fac_op rfl rfl (by show 95 < 119; decide) ?_
            refine fac_putK ?_; intro K hK; go_simp; refine hK _ ?_; clear hK K
            go_wp2_with fail
            refine then_fac rfl (fad_step hJ (by exact Or.inl rfl) (by repeat (first | (with_reducible exact Past.refl _ _ _) | (with_reducible refine Past.alloc ?_ (by simp) _) | (with_reducible refine Past.drew ?_) | (with_reducible refine Past.drewN ?_ _) | (with_reducible refine Past.setC ?_ ?_ _; focus (first | (with_reducible exact Nat.le_refl _) | (simp; done) | (simp; omega) | omega)) | (with_reducible refine Past.step ?_ (by simp) (by assumption)))) (fun _ => RdLe.mono (k := k + 10 + 20 * M + 1 + 1 + n) (by repeat (first | assumption | (with_reducible refine RdLe.drew ?_) | (with_reducible refine RdLe.drewN ?_ _) | (with_reducible refine RdLe.alloc ?_ _) | (with_reducible refine RdLe.setC ?_ ?_ _; focus (first | (simp; done) | (simp; omega) | omega)))) (by omega)) (by exact fun hp => ⟨pp, RowOwn.past hg hszz hpp hp⟩) ?_)
            exact kEq_mk rfl
          · intro b n W hn hb hJ
            obtain rfl := hb rfl
            have hR := hJ.1 rfl
            have hgW := hR.lt
            have hn : n < 16 := hn
            have hE := hJ.2.1
            have hjx := hJ.2.2
            have hsz := hE.size
            have hsz : w21.heap.size ≤ W.heap.size := hsz
            have hszz : w21.heap.size ≤ W.heap.size := by omega
            obtain ⟨pp, hpp⟩ := hjx
            obtain ⟨cw, ct, fw, ft⟩ := pk_cell hpp hNM
            intro u95 hu95
            have hu95 : u95 = (.pointer (some ⟨g2, N * 6, none⟩) : Value) := hu95
            subst hu95
            refine fac_op rfl rfl (by show 96 < 119; decide) ?_
            refine fac_putK ?_; intro K hK; go_simp; refine hK _ ?_; clear hK K
            go_wp2_with fail
            refine then_fac rfl (fad_step hJ (by exact Or.inl rfl) (by repeat (first | (with_reducible exact Past.refl _ _ _) | (with_reducible refine Past.alloc ?_ (by simp) _) | (with_reducible refine Past.drew ?_) | (with_reducible refine Past.drewN ?_ _) | (with_reducible refine Past.setC ?_ ?_ _; focus (first | (with_reducible exact Nat.le_refl _) | (simp; done) | (simp; omega) | omega)) | (with_reducible refine Past.step ?_ (by simp) (by assumption)))) (fun _ => RdLe.mono (k := k + 10 + 20 * M + 1 + 1 + n) (by repeat (first | assumption | (with_reducible refine RdLe.drew ?_) | (with_reducible refine RdLe.drewN ?_ _) | (with_reducible refine RdLe.alloc ?_ _) | (with_reducible refine RdLe.setC ?_ ?_ _; focus (first | (simp; done) | (simp; omega) | omega)))) (by omega)) (by exact fun hp => ⟨pp, RowOwn.past hg hszz hpp hp⟩) ?_)
            exact kI_mk
          · intro b n W hn hb hJ
            obtain rfl := hb rfl
            have hR := hJ.1 rfl
            have hgW := hR.lt
            have hn : n < 16 := hn
            have hE := hJ.2.1
            have hjx := hJ.2.2
            have hsz := hE.size
            have hsz : w21.heap.size ≤ W.heap.size := hsz
            have hszz : w21.heap.size ≤ W.heap.size := by omega
            obtain ⟨pp, hpp⟩ := hjx
            obtain ⟨cw, ct, fw, ft⟩ := pk_cell hpp hNM
            refine fac_op rfl rfl (by show 97 < 119; decide) ?_
            refine fac_putK ?_; intro K hK; go_simp; refine hK _ ?_; clear hK K
            go_wp2_with fail
            refine then_fac rfl (fad_step hJ (by exact Or.inl rfl) (by repeat (first | (with_reducible exact Past.refl _ _ _) | (with_reducible refine Past.alloc ?_ (by simp) _) | (with_reducible refine Past.drew ?_) | (with_reducible refine Past.drewN ?_ _) | (with_reducible refine Past.setC ?_ ?_ _; focus (first | (with_reducible exact Nat.le_refl _) | (simp; done) | (simp; omega) | omega)) | (with_reducible refine Past.step ?_ (by simp) (by assumption)))) (fun _ => RdLe.mono (k := k + 10 + 20 * M + 1 + 1 + n) (by repeat (first | assumption | (with_reducible refine RdLe.drew ?_) | (with_reducible refine RdLe.drewN ?_ _) | (with_reducible refine RdLe.alloc ?_ _) | (with_reducible refine RdLe.setC ?_ ?_ _; focus (first | (simp; done) | (simp; omega) | omega)))) (by omega)) (by exact fun hp => ⟨pp, RowOwn.past hg hszz hpp hp⟩) ?_)
            refine kInts_mk (hXna.out _ hsz) (by simp) (fun j hj => ?_)
            rcases (by omega : j = 0 ∨ j = 1 ∨ j = 2) with rfl | rfl | rfl
            · exact ⟨(-3), by go_simp, by decide, by decide⟩
            · exact ⟨0, by go_simp, by decide, by decide⟩
            · exact ⟨5, by go_simp, by decide, by decide⟩
          · intro b n W hn hb hJ
            obtain rfl := hb rfl
            have hR := hJ.1 rfl
            have hgW := hR.lt
            have hn : n < 16 := hn
            have hE := hJ.2.1
            have hjx := hJ.2.2
            have hsz := hE.size
            have hsz : w21.heap.size ≤ W.heap.size := hsz
            have hszz : w21.heap.size ≤ W.heap.size := by omega
            obtain ⟨pp, hpp⟩ := hjx
            obtain ⟨cw, ct, fw, ft⟩ := pk_cell hpp hNM
            refine fac_op rfl rfl (by show 98 < 119; decide) ?_
            refine fac_putK ?_; intro K hK; go_simp; refine hK _ ?_; clear hK K
            go_wp2_with fail
            refine then_fac rfl (fad_step hJ (by exact Or.inl rfl) (by repeat (first | (with_reducible exact Past.refl _ _ _) | (with_reducible refine Past.alloc ?_ (by simp) _) | (with_reducible refine Past.drew ?_) | (with_reducible refine Past.drewN ?_ _) | (with_reducible refine Past.setC ?_ ?_ _; focus (first | (with_reducible exact Nat.le_refl _) | (simp; done) | (simp; omega) | omega)) | (with_reducible refine Past.step ?_ (by simp) (by assumption)))) (fun _ => RdLe.mono (k := k + 10 + 20 * M + 1 + 1 + n) (by repeat (first | assumption | (with_reducible refine RdLe.drew ?_) | (with_reducible refine RdLe.drewN ?_ _) | (with_reducible refine RdLe.alloc ?_ _) | (with_reducible refine RdLe.setC ?_ ?_ _; focus (first | (simp; done) | (simp; omega) | omega)))) (by omega)) (by exact fun hp => ⟨pp, RowOwn.past hg hszz hpp hp⟩) ?_)
            exact kEq_mk rfl
          · intro b n W hn hb hJ
            obtain rfl := hb rfl
            have hR := hJ.1 rfl
            have hgW := hR.lt
            have hn : n < 16 := hn
            have hE := hJ.2.1
            have hjx := hJ.2.2
            have hsz := hE.size
            have hsz : w21.heap.size ≤ W.heap.size := hsz
            have hszz : w21.heap.size ≤ W.heap.size := by omega
            obtain ⟨pp, hpp⟩ := hjx
            obtain ⟨cw, ct, fw, ft⟩ := pk_cell hpp hNM
            intro u98 hu98
            have hu98 : u98 = (.pointer (some ⟨g, 0, none⟩) : Value) := hu98
            subst hu98
            refine fac_op rfl rfl (by show 99 < 119; decide) ?_
            refine fac_putK ?_; intro K hK; go_simp; refine hK _ ?_; clear hK K
            go_wp2_with (go_at_call 53; refine (pk _ g (k + 10 + 20 * M + 1 + 1 + n) _ (by repeat (first | assumption | (with_reducible refine RdLe.drew ?_) | (with_reducible refine RdLe.drewN ?_ _) | (with_reducible refine RdLe.alloc ?_ _) | (with_reducible refine RdLe.setC ?_ ?_ _; focus (first | (simp; done) | (simp; omega) | omega)))) (by omega) (by omega) (by omega)).mono ?_; rintro e W1 ⟨⟨v1, ⟨vl1, vh1⟩, rfl, hR1, hb1⟩, hs1⟩)
            refine then_fac rfl (fad_step hJ (by exact Or.inl rfl) (by repeat (first | (with_reducible exact Past.refl _ _ _) | (with_reducible refine Past.alloc ?_ (by simp) _) | (with_reducible refine Past.drew ?_) | (with_reducible refine Past.drewN ?_ _) | (with_reducible refine Past.setC ?_ ?_ _; focus (first | (with_reducible exact Nat.le_refl _) | (simp; done) | (simp; omega) | omega)) | (with_reducible refine Past.step ?_ (by simp) (by assumption)))) (fun _ => hR1) (by exact fun hp => ⟨pp, RowOwn.past hg hszz hpp hp⟩) ?_)
            exact kInt_mk (by omega) (by omega)
          · intro b n W hn hb hJ
            obtain rfl := hb rfl
            have hR := hJ.1 rfl
            have hgW := hR.lt
            have hn : n < 16 := hn
            have hE := hJ.2.1
            have hjx := hJ.2.2
            have hsz := hE.size
            have hsz : w21.heap.size ≤ W.heap.size := hsz
            have hszz : w21.heap.size ≤ W.heap.size := by omega
            obtain ⟨pp, hpp⟩ := hjx
            obtain ⟨cw, ct, fw, ft⟩ := pk_cell hpp hNM
            intro u97 hu97
            obtain ⟨b97, rfl, nb97, sb97, cb97⟩ := hu97
            intro u99 hu99
            obtain ⟨x99, rfl, xl99, xh99⟩ := hu99
            obtain ⟨N99, rfl⟩ : ∃ N : Nat, x99 = N := ⟨x99.toNat, by omega⟩
            obtain ⟨y97, hy97, hyl97, hyh97⟩ := cb97 N99 (by omega)
            clear cb97
            refine fac_op rfl rfl (by show 100 < 119; decide) ?_
            refine fac_putK ?_; intro K hK; go_simp; refine hK _ ?_; clear hK K
            go_wp2_with fail
            refine then_fac rfl (fad_step hJ (by exact Or.inl rfl) (by repeat (first | (with_reducible exact Past.refl _ _ _) | (with_reducible refine Past.alloc ?_ (by simp) _) | (with_reducible refine Past.drew ?_) | (with_reducible refine Past.drewN ?_ _) | (with_reducible refine Past.setC ?_ ?_ _; focus (first | (with_reducible exact Nat.le_refl _) | (simp; done) | (simp; omega) | omega)) | (with_reducible refine Past.step ?_ (by simp) (by assumption)))) (fun _ => RdLe.mono (k := k + 10 + 20 * M + 1 + 1 + n) (by repeat (first | assumption | (with_reducible refine RdLe.drew ?_) | (with_reducible refine RdLe.drewN ?_ _) | (with_reducible refine RdLe.alloc ?_ _) | (with_reducible refine RdLe.setC ?_ ?_ _; focus (first | (simp; done) | (simp; omega) | omega)))) (by omega)) (by exact fun hp => ⟨pp, RowOwn.past hg hszz hpp hp⟩) ?_)
            exact kAd_mk nb97 sb97 (by first | exact hy97 | simpa using hy97) hyl97 hyh97
          · intro b n W hn hb hJ
            obtain rfl := hb rfl
            have hR := hJ.1 rfl
            have hgW := hR.lt
            have hn : n < 16 := hn
            have hE := hJ.2.1
            have hjx := hJ.2.2
            have hsz := hE.size
            have hsz : w21.heap.size ≤ W.heap.size := hsz
            have hszz : w21.heap.size ≤ W.heap.size := by omega
            obtain ⟨pp, hpp⟩ := hjx
            obtain ⟨cw, ct, fw, ft⟩ := pk_cell hpp hNM
            intro u100 hu100
            obtain ⟨b100, j100, x100, rfl, nb100, sb100, cb100, xl100, xh100⟩ := hu100
            refine fac_op rfl rfl (by show 101 < 119; decide) ?_
            refine fac_putK ?_; intro K hK; go_simp; refine hK _ ?_; clear hK K
            go_wp2_with fail
            refine then_fac rfl (fad_step hJ (by exact Or.inl rfl) (by repeat (first | (with_reducible exact Past.refl _ _ _) | (with_reducible refine Past.alloc ?_ (by simp) _) | (with_reducible refine Past.drew ?_) | (with_reducible refine Past.drewN ?_ _) | (with_reducible refine Past.setC ?_ ?_ _; focus (first | (with_reducible exact Nat.le_refl _) | (simp; done) | (simp; omega) | omega)) | (with_reducible refine Past.step ?_ (by simp) (by assumption)))) (fun _ => RdLe.mono (k := k + 10 + 20 * M + 1 + 1 + n) (by repeat (first | assumption | (with_reducible refine RdLe.drew ?_) | (with_reducible refine RdLe.drewN ?_ _) | (with_reducible refine RdLe.alloc ?_ _) | (with_reducible refine RdLe.setC ?_ ?_ _; focus (first | (simp; done) | (simp; omega) | omega)))) (by omega)) (by exact fun hp => ⟨pp, RowOwn.past hg hszz hpp hp⟩) ?_)
            exact kInt_mk (by omega) (by omega)
          · intro b n W hn hb hJ
            obtain rfl := hb rfl
            have hR := hJ.1 rfl
            have hgW := hR.lt
            have hn : n < 16 := hn
            have hE := hJ.2.1
            have hjx := hJ.2.2
            have hsz := hE.size
            have hsz : w21.heap.size ≤ W.heap.size := hsz
            have hszz : w21.heap.size ≤ W.heap.size := by omega
            obtain ⟨pp, hpp⟩ := hjx
            obtain ⟨cw, ct, fw, ft⟩ := pk_cell hpp hNM
            intro u96 hu96
            obtain ⟨x96, rfl⟩ := hu96
            intro u101 hu101
            obtain ⟨x101, rfl, xl101, xh101⟩ := hu101
            refine fac_op rfl rfl (by show 102 < 119; decide) ?_
            refine fac_putK ?_; intro K hK; go_simp; refine hK _ ?_; clear hK K
            go_wp2_with fail
            refine then_fac rfl (fad_step hJ (by exact Or.inl rfl) (by repeat (first | (with_reducible exact Past.refl _ _ _) | (with_reducible refine Past.alloc ?_ (by simp) _) | (with_reducible refine Past.drew ?_) | (with_reducible refine Past.drewN ?_ _) | (with_reducible refine Past.setC ?_ ?_ _; focus (first | (with_reducible exact Nat.le_refl _) | (simp; done) | (simp; omega) | omega)) | (with_reducible refine Past.step ?_ (by simp) (by assumption)))) (fun _ => RdLe.mono (k := k + 10 + 20 * M + 1 + 1 + n) (by repeat (first | assumption | (with_reducible refine RdLe.drew ?_) | (with_reducible refine RdLe.drewN ?_ _) | (with_reducible refine RdLe.alloc ?_ _) | (with_reducible refine RdLe.setC ?_ ?_ _; focus (first | (simp; done) | (simp; omega) | omega)))) (by omega)) (by exact fun hp => ⟨pp, RowOwn.past hg hszz hpp hp⟩) ?_)
            exact kI_mk
          · intro b n W hn hb hJ
            obtain rfl := hb rfl
            have hR := hJ.1 rfl
            have hgW := hR.lt
            have hn : n < 16 := hn
            have hE := hJ.2.1
            have hjx := hJ.2.2
            have hsz := hE.size
            have hsz : w21.heap.size ≤ W.heap.size := hsz
            have hszz : w21.heap.size ≤ W.heap.size := by omega
            obtain ⟨pp, hpp⟩ := hjx
            obtain ⟨cw, ct, fw, ft⟩ := pk_cell hpp hNM
            intro u90 hu90
            have hu90 : u90 = (.slice (some ⟨g2, 0, none⟩) M c : Value) := hu90
            subst hu90
            intro u91 hu91
            have hu91 : u91 = (.int .i64 (N : Nat) : Value) := hu91
            subst hu91
            refine fac_op rfl rfl (by show 103 < 119; decide) ?_
            refine fac_putK ?_; intro K hK; go_simp; refine hK _ ?_; clear hK K
            go_wp2_with fail
            refine then_fac rfl (fad_step hJ (by exact Or.inl rfl) (by repeat (first | (with_reducible exact Past.refl _ _ _) | (with_reducible refine Past.alloc ?_ (by simp) _) | (with_reducible refine Past.drew ?_) | (with_reducible refine Past.drewN ?_ _) | (with_reducible refine Past.setC ?_ ?_ _; focus (first | (with_reducible exact Nat.le_refl _) | (simp; done) | (simp; omega) | omega)) | (with_reducible refine Past.step ?_ (by simp) (by assumption)))) (fun _ => RdLe.mono (k := k + 10 + 20 * M + 1 + 1 + n) (by repeat (first | assumption | (with_reducible refine RdLe.drew ?_) | (with_reducible refine RdLe.drewN ?_ _) | (with_reducible refine RdLe.alloc ?_ _) | (with_reducible refine RdLe.setC ?_ ?_ _; focus (first | (simp; done) | (simp; omega) | omega)))) (by omega)) (by exact fun hp => ⟨pp, RowOwn.past hg hszz hpp hp⟩) ?_)
            exact kEq_mk rfl
          · intro b n W hn hb hJ
            obtain rfl := hb rfl
            have hR := hJ.1 rfl
            have hgW := hR.lt
            have hn : n < 16 := hn
            have hE := hJ.2.1
            have hjx := hJ.2.2
            have hsz := hE.size
            have hsz : w21.heap.size ≤ W.heap.size := hsz
            have hszz : w21.heap.size ≤ W.heap.size := by omega
            obtain ⟨pp, hpp⟩ := hjx
            obtain ⟨cw, ct, fw, ft⟩ := pk_cell hpp hNM
            intro u103 hu103
            have hu103 : u103 = (.pointer (some ⟨g2, N * 6, none⟩) : Value) := hu103
            subst hu103
            refine fac_op rfl rfl (by show 104 < 119; decide) ?_
            refine fac_putK ?_; intro K hK; go_simp; refine hK _ ?_; clear hK K
            go_wp2_with fail
            refine then_fac rfl (fad_step hJ (by exact Or.inl rfl) (by repeat (first | (with_reducible exact Past.refl _ _ _) | (with_reducible refine Past.alloc ?_ (by simp) _) | (with_reducible refine Past.drew ?_) | (with_reducible refine Past.drewN ?_ _) | (with_reducible refine Past.setC ?_ ?_ _; focus (first | (with_reducible exact Nat.le_refl _) | (simp; done) | (simp; omega) | omega)) | (with_reducible refine Past.step ?_ (by simp) (by assumption)))) (fun _ => RdLe.mono (k := k + 10 + 20 * M + 1 + 1 + n) (by repeat (first | assumption | (with_reducible refine RdLe.drew ?_) | (with_reducible refine RdLe.drewN ?_ _) | (with_reducible refine RdLe.alloc ?_ _) | (with_reducible refine RdLe.setC ?_ ?_ _; focus (first | (simp; done) | (simp; omega) | omega)))) (by omega)) (by exact fun hp => ⟨pp, RowOwn.past hg hszz hpp hp⟩) ?_)
            exact kEq_mk rfl
          · intro b n W hn hb hJ
            obtain rfl := hb rfl
            have hR := hJ.1 rfl
            have hgW := hR.lt
            have hn : n < 16 := hn
            have hE := hJ.2.1
            have hjx := hJ.2.2
            have hsz := hE.size
            have hsz : w21.heap.size ≤ W.heap.size := hsz
            have hszz : w21.heap.size ≤ W.heap.size := by omega
            obtain ⟨pp, hpp⟩ := hjx
            obtain ⟨cw, ct, fw, ft⟩ := pk_cell hpp hNM
            intro u104 hu104
            have hu104 : u104 = (.pointer (some ⟨g2, N * 6, none⟩) : Value) := hu104
            subst hu104
            intro u102 hu102
            obtain ⟨x102, rfl⟩ := hu102
            refine fac_nop rfl rfl (fun _ _ => trivial) ?_
            refine fac_putK ?_; intro K hK; go_simp; refine hK _ ?_; clear hK K
            go_wp2_with fail
            exact then_fac rfl (fad_store hJ (Exc.setC (p := ⟨g2, N * 6, none⟩) (Or.inr rfl) (Exc.refl _ _) _) (fun _ => RdLe.mono (k := k + 10 + 20 * M + 1 + 1 + n) (hR.setCell (p := ⟨g2, N * 6, none⟩) hgg2 _) (by omega)) ⟨_, put_w hpp⟩)
          intro wa hRa hEa hjxa
          have hRa : RdLe wa g (k + 10 + 20 * M + 1 + 1 + 16) := hRa rfl
          have hjxa : (fun W => ∃ p, RowOwn 61 W w.heap.size w21.heap.size (some ⟨g2, 0, none⟩) M c 6 (PkF p)) wa := hjxa
          intro u90 hu90
          have hu90 : u90 = (.slice (some ⟨g2, 0, none⟩) M c : Value) := hu90
          subst hu90
          intro u91 hu91
          have hu91 : u91 = (.int .i64 (N : Nat) : Value) := hu91
          subst hu91
          intro u92 hu92
          have hu92 : u92 = (.slice (some ⟨g2, 0, none⟩) M c : Value) := hu92
          subst hu92
          intro u93 hu93
          have hu93 : u93 = (.int .i64 (N : Nat) : Value) := hu93
          subst hu93
          intro u94 hu94
          have hu94 : u94 = (.pointer (some ⟨g2, N * 6, none⟩) : Value) := hu94
          subst hu94
          intro u95 hu95
          have hu95 : u95 = (.pointer (some ⟨g2, N * 6, none⟩) : Value) := hu95
          subst hu95
          intro u96 hu96
          obtain ⟨x96, rfl⟩ := hu96
          intro u97 hu97
          obtain ⟨b97, rfl, _⟩ := hu97
          intro u98 hu98
          have hu98 : u98 = (.pointer (some ⟨g, 0, none⟩) : Value) := hu98
          subst hu98
          intro u99 hu99
          obtain ⟨x99, rfl, xl99, xh99⟩ := hu99
          intro u100 hu100
          obtain ⟨b100, j100, x100, rfl, _⟩ := hu100
          intro u101 hu101
          obtain ⟨x101, rfl, xl101, xh101⟩ := hu101
          intro u102 hu102
          obtain ⟨x102, rfl⟩ := hu102
          intro u103 hu103
          have hu103 : u103 = (.pointer (some ⟨g2, N * 6, none⟩) : Value) := hu103
          subst hu103
          intro u104 hu104
          have hu104 : u104 = (.pointer (some ⟨g2, N * 6, none⟩) : Value) := hu104
          subst hu104
          refine fac_end ?_; intro K hK; go_simp; refine hK _ ?_; clear hK K
          have hsza := hEa.size
          go_wp2_with fail
          have hXnb := Lib.hid (show ∀ q, wa.heap.size ≤ q → ¬ (fun q => q = g ∨ q = g2) q by intro q hq hx; rcases hx with hx | hx <;> omega)
          refine wp_region_fad g (k + 10 + 20 * M + 1 + 1 + 16) (fun q => q = g ∨ q = g2) (fun W => ∃ p, RowOwn 61 W w.heap.size w21.heap.size (some ⟨g2, 0, none⟩) M c 6 (PkF p)) [] [kEq (.slice (some ⟨g2, 0, none⟩) M c), kEq (.int .i64 (N : Nat)), kEq (.slice (some ⟨g2, 0, none⟩) M c), kEq (.int .i64 (N : Nat)), kEq (.pointer (some ⟨g2, N * 6, none⟩)), kEq (.pointer (some ⟨g2, N * 6 + 1, none⟩)), kI, kEq (.pointer (some ⟨g, 0, none⟩)), kInt (0) (1), kInt (0) (60), kI, kEq (.pointer (some ⟨g2, N * 6, none⟩)), kEq (.pointer (some ⟨g2, N * 6 + 1, none⟩)), kAny] (by kernel_rfl) 119 rfl (by kernel_rfl) (by kernel_rfl) (by repeat (first | assumption | (with_reducible refine RdLe.drew ?_) | (with_reducible refine RdLe.drewN ?_ _) | (with_reducible refine RdLe.alloc ?_ _) | (with_reducible refine RdLe.setC ?_ ?_ _; focus (first | (simp; done) | (simp; omega) | omega)))) (by exact hjxa) (fac_cons [] true false (by kernel_rfl) (by kernel_rfl) (by kernel_rfl) ?_ (fac_cons [] true false (by kernel_rfl) (by kernel_rfl) (by kernel_rfl) ?_ (fac_cons [] true false (by kernel_rfl) (by kernel_rfl) (by kernel_rfl) ?_ (fac_cons [] true false (by kernel_rfl) (by kernel_rfl) (by kernel_rfl) ?_ (fac_cons [(2, 107), (3, 108)] true false (by kernel_rfl) (by kernel_rfl) (by kernel_rfl) ?_ (fac_cons [(4, 109)] true false (by kernel_rfl) (by kernel_rfl) (by kernel_rfl) ?_ (fac_cons [(5, 110)] true false (by kernel_rfl) (by kernel_rfl) (by kernel_rfl) ?_ (fac_cons [] true false (by kernel_rfl) (by kernel_rfl) (by kernel_rfl) ?_ (fac_cons [(7, 112)] true false (by kernel_rfl) (by kernel_rfl) (by kernel_rfl) ?_ (fac_cons [(8, 113)] true false (by kernel_rfl) (by kernel_rfl) (by kernel_rfl) ?_ (fac_cons [(6, 111), (9, 114)] true false (by kernel_rfl) (by kernel_rfl) (by kernel_rfl) ?_ (fac_cons [(0, 105), (1, 106)] true false (by kernel_rfl) (by kernel_rfl) (by kernel_rfl) ?_ (fac_cons [(11, 116)] true false (by kernel_rfl) (by kernel_rfl) (by kernel_rfl) ?_ (fac_cons [(12, 117), (10, 115)] true false (by kernel_rfl) (by kernel_rfl) (by kernel_rfl) ?_ (fac_nil))))))))))))))) [(0, 105), (1, 106), (2, 107), (3, 108), (4, 109), (5, 110), (6, 111), (7, 112), (8, 113), (9, 114), (10, 115), (11, 116), (12, 117)] (by kernel_rfl) ?_
          · intro b n W hn hb hJ
            obtain rfl := hb rfl
            have hR := hJ.1 rfl
            have hgW := hR.lt
            have hn : n < 14 := hn
            have hE := hJ.2.1
            have hjx := hJ.2.2
            have hsz := hE.size
            have hsz : wa.heap.size ≤ W.heap.size := hsz
            have hszz : w21.heap.size ≤ W.heap.size := by omega
            obtain ⟨pp, hpp⟩ := hjx
            obtain ⟨cw, ct, fw, ft⟩ := pk_cell hpp hNM
            refine fac_op rfl rfl (by show 105 < 119; decide) ?_
            refine fac_putK ?_; intro K hK; go_simp; refine hK _ ?_; clear hK K
            go_wp2_with fail
            refine then_fac rfl (fad_step hJ (by exact Or.inl rfl) (by repeat (first | (with_reducible exact Past.refl _ _ _) | (with_reducible refine Past.alloc ?_ (by simp) _) | (with_reducible refine Past.drew ?_) | (with_reducible refine Past.drewN ?_ _) | (with_reducible refine Past.setC ?_ ?_ _; focus (first | (with_reducible exact Nat.le_refl _) | (simp; done) | (simp; omega) | omega)) | (with_reducible refine Past.step ?_ (by simp) (by assumption)))) (fun _ => RdLe.mono (k := k + 10 + 20 * M + 1 + 1 + 16 + n) (by repeat (first | assumption | (with_reducible refine RdLe.drew ?_) | (with_reducible refine RdLe.drewN ?_ _) | (with_reducible refine RdLe.alloc ?_ _) | (with_reducible refine RdLe.setC ?_ ?_ _; focus (first | (simp; done) | (simp; omega) | omega)))) (by omega)) (by exact fun hp => ⟨pp, RowOwn.past hg hszz hpp hp⟩) ?_)
            exact kEq_mk rfl
          · intro b n W hn hb hJ
            obtain rfl := hb rfl
            have hR := hJ.1 rfl
            have hgW := hR.lt
            have hn : n < 14 := hn
            have hE := hJ.2.1
            have hjx := hJ.2.2
            have hsz := hE.size
            have hsz : wa.heap.size ≤ W.heap.size := hsz
            have hszz : w21.heap.size ≤ W.heap.size := by omega
            obtain ⟨pp, hpp⟩ := hjx
            obtain ⟨cw, ct, fw, ft⟩ := pk_cell hpp hNM
            refine fac_op rfl rfl (by show 106 < 119; decide) ?_
            refine fac_putK ?_; intro K hK; go_simp; refine hK _ ?_; clear hK K
            go_wp2_with fail
            refine then_fac rfl (fad_step hJ (by exact Or.inl rfl) (by repeat (first | (with_reducible exact Past.refl _ _ _) | (with_reducible refine Past.alloc ?_ (by simp) _) | (with_reducible refine Past.drew ?_) | (with_reducible refine Past.drewN ?_ _) | (with_reducible refine Past.setC ?_ ?_ _; focus (first | (with_reducible exact Nat.le_refl _) | (simp; done) | (simp; omega) | omega)) | (with_reducible refine Past.step ?_ (by simp) (by assumption)))) (fun _ => RdLe.mono (k := k + 10 + 20 * M + 1 + 1 + 16 + n) (by repeat (first | assumption | (with_reducible refine RdLe.drew ?_) | (with_reducible refine RdLe.drewN ?_ _) | (with_reducible refine RdLe.alloc ?_ _) | (with_reducible refine RdLe.setC ?_ ?_ _; focus (first | (simp; done) | (simp; omega) | omega)))) (by omega)) (by exact fun hp => ⟨pp, RowOwn.past hg hszz hpp hp⟩) ?_)
            exact kEq_mk rfl
          · intro b n W hn hb hJ
            obtain rfl := hb rfl
            have hR := hJ.1 rfl
            have hgW := hR.lt
            have hn : n < 14 := hn
            have hE := hJ.2.1
            have hjx := hJ.2.2
            have hsz := hE.size
            have hsz : wa.heap.size ≤ W.heap.size := hsz
            have hszz : w21.heap.size ≤ W.heap.size := by omega
            obtain ⟨pp, hpp⟩ := hjx
            obtain ⟨cw, ct, fw, ft⟩ := pk_cell hpp hNM
            refine fac_op rfl rfl (by show 107 < 119; decide) ?_
            refine fac_putK ?_; intro K hK; go_simp; refine hK _ ?_; clear hK K
            go_wp2_with fail
            refine then_fac rfl (fad_step hJ (by exact Or.inl rfl) (by repeat (first | (with_reducible exact Past.refl _ _ _) | (with_reducible refine Past.alloc ?_ (by simp) _) | (with_reducible refine Past.drew ?_) | (with_reducible refine Past.drewN ?_ _) | (with_reducible refine Past.setC ?_ ?_ _; focus (first | (with_reducible exact Nat.le_refl _) | (simp; done) | (simp; omega) | omega)) | (with_reducible refine Past.step ?_ (by simp) (by assumption)))) (fun _ => RdLe.mono (k := k + 10 + 20 * M + 1 + 1 + 16 + n) (by repeat (first | assumption | (with_reducible refine RdLe.drew ?_) | (with_reducible refine RdLe.drewN ?_ _) | (with_reducible refine RdLe.alloc ?_ _) | (with_reducible refine RdLe.setC ?_ ?_ _; focus (first | (simp; done) | (simp; omega) | omega)))) (by omega)) (by exact fun hp => ⟨pp, RowOwn.past hg hszz hpp hp⟩) ?_)
            exact kEq_mk rfl
          · intro b n W hn hb hJ
            obtain rfl := hb rfl
            have hR := hJ.1 rfl
            have hgW := hR.lt
            have hn : n < 14 := hn
            have hE := hJ.2.1
            have hjx := hJ.2.2
            have hsz := hE.size
            have hsz : wa.heap.size ≤ W.heap.size := hsz
            have hszz : w21.heap.size ≤ W.heap.size := by omega
            obtain ⟨pp, hpp⟩ := hjx
            obtain ⟨cw, ct, fw, ft⟩ := pk_cell hpp hNM
            refine fac_op rfl rfl (by show 108 < 119; decide) ?_
            refine fac_putK ?_; intro K hK; go_simp; refine hK _ ?_; clear hK K
            go_wp2_with fail
            refine then_fac rfl (fad_step hJ (by exact Or.inl rfl) (by repeat (first | (with_reducible exact Past.refl _ _ _) | (with_reducible refine Past.alloc ?_ (by simp) _) | (with_reducible refine Past.drew ?_) | (with_reducible refine Past.drewN ?_ _) | (with_reducible refine Past.setC ?_ ?_ _; focus (first | (with_reducible exact Nat.le_refl _) | (simp; done) | (simp; omega) | omega)) | (with_reducible refine Past.step ?_ (by simp) (by assumption)))) (fun _ => RdLe.mono (k := k + 10 + 20 * M + 1 + 1 + 16 + n) (by repeat (first | assumption | (with_reducible refine RdLe.drew ?_) | (with_reducible refine RdLe.drewN ?_ _) | (with_reducible refine RdLe.alloc ?_ _) | (with_reducible refine RdLe.setC ?_ ?_ _; focus (first | (simp; done) | (simp; omega) | omega)))) (by omega)) (by exact fun hp => ⟨pp, RowOwn.past hg hszz hpp hp⟩) ?_)
            exact kEq_mk rfl
          · intro b n W hn hb hJ
            obtain rfl := hb rfl
            have hR := hJ.1 rfl
            have hgW := hR.lt
            have hn : n < 14 := hn
            have hE := hJ.2.1
            have hjx := hJ.2.2
            have hsz := hE.size
            have hsz : wa.heap.size ≤ W.heap.size := hsz
            have hszz : w21.heap.size ≤ W.heap.size := by omega
            obtain ⟨pp, hpp⟩ := hjx
            obtain ⟨cw, ct, fw, ft⟩ := pk_cell hpp hNM
            intro u107 hu107
            have hu107 : u107 = (.slice (some ⟨g2, 0, none⟩) M c : Value) := hu107
            subst hu107
            intro u108 hu108
            have hu108 : u108 = (.int .i64 (N : Nat) : Value) := hu108
            subst hu108
            refine fac_op rfl rfl (by show 109 < 119; decide) ?_
            refine fac_putK ?_; intro K hK; go_simp; refine hK _ ?_; clear hK K
            go_wp2_with fail
            refine then_fac rfl (fad_step hJ (by exact Or.inl rfl) (by repeat (first | (with_reducible exact Past.refl _ _ _) | (with_reducible refine Past.alloc ?_ (by simp) _) | (with_reducible refine Past.drew ?_) | (with_reducible refine Past.drewN ?_ _) | (with_reducible refine Past.setC ?_ ?_ _; focus (first | (with_reducible exact Nat.le_refl _) | (simp; done) | (simp; omega) | omega)) | (with_reducible refine Past.step ?_ (by simp) (by assumption)))) (fun _ => RdLe.mono (k := k + 10 + 20 * M + 1 + 1 + 16 + n) (by repeat (first | assumption | (with_reducible refine RdLe.drew ?_) | (with_reducible refine RdLe.drewN ?_ _) | (with_reducible refine RdLe.alloc ?_ _) | (with_reducible refine RdLe.setC ?_ ?_ _; focus (first | (simp; done) | (simp; omega) | omega)))) (by omega)) (by exact fun hp => ⟨pp, RowOwn.past hg hszz hpp hp⟩) ?_)
            exact kEq_mk rfl
          · intro b n W hn hb hJ
            obtain rfl := hb rfl
            have hR := hJ.1 rfl
            have hgW := hR.lt
            have hn : n < 14 := hn
            have hE := hJ.2.1
            have hjx := hJ.2.2
            have hsz := hE.size
            have hsz : wa.heap.size ≤ W.heap.size := hsz
            have hszz : w21.heap.size ≤ W.heap.size := by omega
            obtain ⟨pp, hpp⟩ := hjx
            obtain ⟨cw, ct, fw, ft⟩ := pk_cell hpp hNM
            intro u109 hu109
            have hu109 : u109 = (.pointer (some ⟨g2, N * 6, none⟩) : Value) := hu109
            subst hu109
            refine fac_op rfl rfl (by show 110 < 119; decide) ?_
            refine fac_putK ?_; intro K hK; go_simp; refine hK _ ?_; clear hK K
            go_wp2_with fail
            refine then_fac rfl (fad_step hJ (by exact Or.inl rfl) (by repeat (first | (with_reducible exact Past.refl _ _ _) | (with_reducible refine Past.alloc ?_ (by simp) _) | (with_reducible refine Past.drew ?_) | (with_reducible refine Past.drewN ?_ _) | (with_reducible refine Past.setC ?_ ?_ _; focus (first | (with_reducible exact Nat.le_refl _) | (simp; done) | (simp; omega) | omega)) | (with_reducible refine Past.step ?_ (by simp) (by assumption)))) (fun _ => RdLe.mono (k := k + 10 + 20 * M + 1 + 1 + 16 + n) (by repeat (first | assumption | (with_reducible refine RdLe.drew ?_) | (with_reducible refine RdLe.drewN ?_ _) | (with_reducible refine RdLe.alloc ?_ _) | (with_reducible refine RdLe.setC ?_ ?_ _; focus (first | (simp; done) | (simp; omega) | omega)))) (by omega)) (by exact fun hp => ⟨pp, RowOwn.past hg hszz hpp hp⟩) ?_)
            exact kEq_mk rfl
          · intro b n W hn hb hJ
            obtain rfl := hb rfl
            have hR := hJ.1 rfl
            have hgW := hR.lt
            have hn : n < 14 := hn
            have hE := hJ.2.1
            have hjx := hJ.2.2
            have hsz := hE.size
            have hsz : wa.heap.size ≤ W.heap.size := hsz
            have hszz : w21.heap.size ≤ W.heap.size := by omega
            obtain ⟨pp, hpp⟩ := hjx
            obtain ⟨cw, ct, fw, ft⟩ := pk_cell hpp hNM
            intro u110 hu110
            have hu110 : u110 = (.pointer (some ⟨g2, N * 6 + 1, none⟩) : Value) := hu110
            subst hu110
            refine fac_op rfl rfl (by show 111 < 119; decide) ?_
            refine fac_putK ?_; intro K hK; go_simp; refine hK _ ?_; clear hK K
            go_wp2_with fail
            refine then_fac rfl (fad_step hJ (by exact Or.inl rfl) (by repeat (first | (with_reducible exact Past.refl _ _ _) | (with_reducible refine Past.alloc ?_ (by simp) _) | (with_reducible refine Past.drew ?_) | (with_reducible refine Past.drewN ?_ _) | (with_reducible refine Past.setC ?_ ?_ _; focus (first | (with_reducible exact Nat.le_refl _) | (simp; done) | (simp; omega) | omega)) | (with_reducible refine Past.step ?_ (by simp) (by assumption)))) (fun _ => RdLe.mono (k := k + 10 + 20 * M + 1 + 1 + 16 + n) (by repeat (first | assumption | (with_reducible refine RdLe.drew ?_) | (with_reducible refine RdLe.drewN ?_ _) | (with_reducible refine RdLe.alloc ?_ _) | (with_reducible refine RdLe.setC ?_ ?_ _; focus (first | (simp; done) | (simp; omega) | omega)))) (by omega)) (by exact fun hp => ⟨pp, RowOwn.past hg hszz hpp hp⟩) ?_)
            exact kI_mk
          · intro b n W hn hb hJ
            obtain rfl := hb rfl
            have hR := hJ.1 rfl
            have hgW := hR.lt
            have hn : n < 14 := hn
            have hE := hJ.2.1
            have hjx := hJ.2.2
            have hsz := hE.size
            have hsz : wa.heap.size ≤ W.heap.size := hsz
            have hszz : w21.heap.size ≤ W.heap.size := by omega
            obtain ⟨pp, hpp⟩ := hjx
            obtain ⟨cw, ct, fw, ft⟩ := pk_cell hpp hNM
            refine fac_op rfl rfl (by show 112 < 119; decide) ?_
            refine fac_putK ?_; intro K hK; go_simp; refine hK _ ?_; clear hK K
            go_wp2_with fail
            refine then_fac rfl (fad_step hJ (by exact Or.inl rfl) (by repeat (first | (with_reducible exact Past.refl _ _ _) | (with_reducible refine Past.alloc ?_ (by simp) _) | (with_reducible refine Past.drew ?_) | (with_reducible refine Past.drewN ?_ _) | (with_reducible refine Past.setC ?_ ?_ _; focus (first | (with_reducible exact Nat.le_refl _) | (simp; done) | (simp; omega) | omega)) | (with_reducible refine Past.step ?_ (by simp) (by assumption)))) (fun _ => RdLe.mono (k := k + 10 + 20 * M + 1 + 1 + 16 + n) (by repeat (first | assumption | (with_reducible refine RdLe.drew ?_) | (with_reducible refine RdLe.drewN ?_ _) | (with_reducible refine RdLe.alloc ?_ _) | (with_reducible refine RdLe.setC ?_ ?_ _; focus (first | (simp; done) | (simp; omega) | omega)))) (by omega)) (by exact fun hp => ⟨pp, RowOwn.past hg hszz hpp hp⟩) ?_)
            exact kEq_mk rfl
          · intro b n W hn hb hJ
            obtain rfl := hb rfl
            have hR := hJ.1 rfl
            have hgW := hR.lt
            have hn : n < 14 := hn
            have hE := hJ.2.1
            have hjx := hJ.2.2
            have hsz := hE.size
            have hsz : wa.heap.size ≤ W.heap.size := hsz
            have hszz : w21.heap.size ≤ W.heap.size := by omega
            obtain ⟨pp, hpp⟩ := hjx
            obtain ⟨cw, ct, fw, ft⟩ := pk_cell hpp hNM
            intro u112 hu112
            have hu112 : u112 = (.pointer (some ⟨g, 0, none⟩) : Value) := hu112
            subst hu112
            refine fac_op rfl rfl (by show 113 < 119; decide) ?_
            refine fac_putK ?_; intro K hK; go_simp; refine hK _ ?_; clear hK K
            go_wp2_with (go_at_call 53; refine (pk _ g (k + 10 + 20 * M + 1 + 1 + 16 + n) _ (by repeat (first | assumption | (with_reducible refine RdLe.drew ?_) | (with_reducible refine RdLe.drewN ?_ _) | (with_reducible refine RdLe.alloc ?_ _) | (with_reducible refine RdLe.setC ?_ ?_ _; focus (first | (simp; done) | (simp; omega) | omega)))) (by omega) (by omega) (by omega)).mono ?_; rintro e W1 ⟨⟨v1, ⟨vl1, vh1⟩, rfl, hR1, hb1⟩, hs1⟩)
            refine then_fac rfl (fad_step hJ (by exact Or.inl rfl) (by repeat (first | (with_reducible exact Past.refl _ _ _) | (with_reducible refine Past.alloc ?_ (by simp) _) | (with_reducible refine Past.drew ?_) | (with_reducible refine Past.drewN ?_ _) | (with_reducible refine Past.setC ?_ ?_ _; focus (first | (with_reducible exact Nat.le_refl _) | (simp; done) | (simp; omega) | omega)) | (with_reducible refine Past.step ?_ (by simp) (by assumption)))) (fun _ => hR1) (by exact fun hp => ⟨pp, RowOwn.past hg hszz hpp hp⟩) ?_)
            exact kInt_mk (by omega) (by omega)
          · intro b n W hn hb hJ
            obtain rfl := hb rfl
            have hR := hJ.1 rfl
            have hgW := hR.lt
            have hn : n < 14 := hn
            have hE := hJ.2.1
            have hjx := hJ.2.2
            have hsz := hE.size
            have hsz : wa.heap.size ≤ W.heap.size := hsz
            have hszz : w21.heap.size ≤ W.heap.size := by omega
            obtain ⟨pp, hpp⟩ := hjx
            obtain ⟨cw, ct, fw, ft⟩ := pk_cell hpp hNM
            intro u113 hu113
            obtain ⟨x113, rfl, xl113, xh113⟩ := hu113
            refine fac_op rfl rfl (by show 114 < 119; decide) ?_
            refine fac_putK ?_; intro K hK; go_simp; refine hK _ ?_; clear hK K
            go_wp2_with fail
            refine then_fac rfl (fad_step hJ (by exact Or.inl rfl) (by repeat (first | (with_reducible exact Past.refl _ _ _) | (with_reducible refine Past.alloc ?_ (by simp) _) | (with_reducible refine Past.drew ?_) | (with_reducible refine Past.drewN ?_ _) | (with_reducible refine Past.setC ?_ ?_ _; focus (first | (with_reducible exact Nat.le_refl _) | (simp; done) | (simp; omega) | omega)) | (with_reducible refine Past.step ?_ (by simp) (by assumption)))) (fun _ => RdLe.mono (k := k + 10 + 20 * M + 1 + 1 + 16 + n) (by repeat (first | assumption | (with_reducible refine RdLe.drew ?_) | (with_reducible refine RdLe.drewN ?_ _) | (with_reducible refine RdLe.alloc ?_ _) | (with_reducible refine RdLe.setC ?_ ?_ _; focus (first | (simp; done) | (simp; omega) | omega)))) (by omega)) (by exact fun hp => ⟨pp, RowOwn.past hg hszz hpp hp⟩) ?_)
            exact kInt_mk (by omega) (by omega)
          · intro b n W hn hb hJ
            obtain rfl := hb rfl
            have hR := hJ.1 rfl
            have hgW := hR.lt
            have hn : n < 14 := hn
            have hE := hJ.2.1
            have hjx := hJ.2.2
            have hsz := hE.size
            have hsz : wa.heap.size ≤ W.heap.size := hsz
            have hszz : w21.heap.size ≤ W.heap.size := by omega
            obtain ⟨pp, hpp⟩ := hjx
            obtain ⟨cw, ct, fw, ft⟩ := pk_cell hpp hNM
            intro u111 hu111
            obtain ⟨x111, rfl⟩ := hu111
            intro u114 hu114
            obtain ⟨x114, rfl, xl114, xh114⟩ := hu114
            refine fac_op rfl rfl (by show 115 < 119; decide) ?_
            refine fac_putK ?_; intro K hK; go_simp; refine hK _ ?_; clear hK K
            go_wp2_with fail
            refine then_fac rfl (fad_step hJ (by exact Or.inl rfl) (by repeat (first | (with_reducible exact Past.refl _ _ _) | (with_reducible refine Past.alloc ?_ (by simp) _) | (with_reducible refine Past.drew ?_) | (with_reducible refine Past.drewN ?_ _) | (with_reducible refine Past.setC ?_ ?_ _; focus (first | (with_reducible exact Nat.le_refl _) | (simp; done) | (simp; omega) | omega)) | (with_reducible refine Past.step ?_ (by simp) (by assumption)))) (fun _ => RdLe.mono (k := k + 10 + 20 * M + 1 + 1 + 16 + n) (by repeat (first | assumption | (with_reducible refine RdLe.drew ?_) | (with_reducible refine RdLe.drewN ?_ _) | (with_reducible refine RdLe.alloc ?_ _) | (with_reducible refine RdLe.setC ?_ ?_ _; focus (first | (simp; done) | (simp; omega) | omega)))) (by omega)) (by exact fun hp => ⟨pp, RowOwn.past hg hszz hpp hp⟩) ?_)
            exact kI_mk
          · intro b n W hn hb hJ
            obtain rfl := hb rfl
            have hR := hJ.1 rfl
            have hgW := hR.lt
            have hn : n < 14 := hn
            have hE := hJ.2.1
            have hjx := hJ.2.2
            have hsz := hE.size
            have hsz : wa.heap.size ≤ W.heap.size := hsz
            have hszz : w21.heap.size ≤ W.heap.size := by omega
            obtain ⟨pp, hpp⟩ := hjx
            obtain ⟨cw, ct, fw, ft⟩ := pk_cell hpp hNM
            intro u105 hu105
            have hu105 : u105 = (.slice (some ⟨g2, 0, none⟩) M c : Value) := hu105
            subst hu105
            intro u106 hu106
            have hu106 : u106 = (.int .i64 (N : Nat) : Value) := hu106
            subst hu106
            refine fac_op rfl rfl (by show 116 < 119; decide) ?_
            refine fac_putK ?_; intro K hK; go_simp; refine hK _ ?_; clear hK K
            go_wp2_with fail
            refine then_fac rfl (fad_step hJ (by exact Or.inl rfl) (by repeat (first | (with_reducible exact Past.refl _ _ _) | (with_reducible refine Past.alloc ?_ (by simp) _) | (with_reducible refine Past.drew ?_) | (with_reducible refine Past.drewN ?_ _) | (with_reducible refine Past.setC ?_ ?_ _; focus (first | (with_reducible exact Nat.le_refl _) | (simp; done) | (simp; omega) | omega)) | (with_reducible refine Past.step ?_ (by simp) (by assumption)))) (fun _ => RdLe.mono (k := k + 10 + 20 * M + 1 + 1 + 16 + n) (by repeat (first | assumption | (with_reducible refine RdLe.drew ?_) | (with_reducible refine RdLe.drewN ?_ _) | (with_reducible refine RdLe.alloc ?_ _) | (with_reducible refine RdLe.setC ?_ ?_ _; focus (first | (simp; done) | (simp; omega) | omega)))) (by omega)) (by exact fun hp => ⟨pp, RowOwn.past hg hszz hpp hp⟩) ?_)
            exact kEq_mk rfl
          · intro b n W hn hb hJ
            obtain rfl := hb rfl
            have hR := hJ.1 rfl
            have hgW := hR.lt
            have hn : n < 14 := hn
            have hE := hJ.2.1
            have hjx := hJ.2.2
            have hsz := hE.size
            have hsz : wa.heap.size ≤ W.heap.size := hsz
            have hszz : w21.heap.size ≤ W.heap.size := by omega
            obtain ⟨pp, hpp⟩ := hjx
            obtain ⟨cw, ct, fw, ft⟩ := pk_cell hpp hNM
            intro u116 hu116
            have hu116 : u116 = (.pointer (some ⟨g2, N * 6, none⟩) : Value) := hu116
            subst hu116
            refine fac_op rfl rfl (by show 117 < 119; decide) ?_
            refine fac_putK ?_; intro K hK; go_simp; refine hK _ ?_; clear hK K
            go_wp2_with fail
            refine then_fac rfl (fad_step hJ (by exact Or.inl rfl) (by repeat (first | (with_reducible exact Past.refl _ _ _) | (with_reducible refine Past.alloc ?_ (by simp) _) | (with_reducible refine Past.drew ?_) | (with_reducible refine Past.drewN ?_ _) | (with_reducible refine Past.setC ?_ ?_ _; focus (first | (with_reducible exact Nat.le_refl _) | (simp; done) | (simp; omega) | omega)) | (with_reducible refine Past.step ?_ (by simp) (by assumption)))) (fun _ => RdLe.mono (k := k + 10 + 20 * M + 1 + 1 + 16 + n) (by repeat (first | assumption | (with_reducible refine RdLe.drew ?_) | (with_reducible refine RdLe.drewN ?_ _) | (with_reducible refine RdLe.alloc ?_ _) | (with_reducible refine RdLe.setC ?_ ?_ _; focus (first | (simp; done) | (simp; omega) | omega)))) (by omega)) (by exact fun hp => ⟨pp, RowOwn.past hg hszz hpp hp⟩) ?_)
            exact kEq_mk rfl
          · intro b n W hn hb hJ
            obtain rfl := hb rfl
            have hR := hJ.1 rfl
            have hgW := hR.lt
            have hn : n < 14 := hn
            have hE := hJ.2.1
            have hjx := hJ.2.2
            have hsz := hE.size
            have hsz : wa.heap.size ≤ W.heap.size := hsz
            have hszz : w21.heap.size ≤ W.heap.size := by omega
            obtain ⟨pp, hpp⟩ := hjx
            obtain ⟨cw, ct, fw, ft⟩ := pk_cell hpp hNM
            intro u117 hu117
            have hu117 : u117 = (.pointer (some ⟨g2, N * 6 + 1, none⟩) : Value) := hu117
            subst hu117
            intro u115 hu115
            obtain ⟨x115, rfl⟩ := hu115
            refine fac_nop rfl rfl (fun _ _ => trivial) ?_
            refine fac_putK ?_; intro K hK; go_simp; refine hK _ ?_; clear hK K
            go_wp2_with fail
            exact then_fac rfl (fad_store hJ (Exc.setC (p := ⟨g2, N * 6 + 1, none⟩) (Or.inr rfl) (Exc.refl _ _) _) (fun _ => RdLe.mono (k := k + 10 + 20 * M + 1 + 1 + 16 + n) (hR.setCell (p := ⟨g2, N * 6 + 1, none⟩) hgg2 _) (by omega)) ⟨_, put_t hpp⟩)
          intro wb hRb hEb hjxb
          have hRb : RdLe wb g (k + 10 + 20 * M + 1 + 1 + 16 + 14) := hRb rfl
          have hjxb : (fun W => ∃ p, RowOwn 61 W w.heap.size w21.heap.size (some ⟨g2, 0, none⟩) M c 6 (PkF p)) wb := hjxb
          intro u105 hu105
          have hu105 : u105 = (.slice (some ⟨g2, 0, none⟩) M c : Value) := hu105
          subst hu105
          intro u106 hu106
          have hu106 : u106 = (.int .i64 (N : Nat) : Value) := hu106
          subst hu106
          intro u107 hu107
          have hu107 : u107 = (.slice (some ⟨g2, 0, none⟩) M c : Value) := hu107
          subst hu107
          intro u108 hu108
          have hu108 : u108 = (.int .i64 (N : Nat) : Value) := hu108
          subst hu108
          intro u109 hu109
          have hu109 : u109 = (.pointer (some ⟨g2, N * 6, none⟩) : Value) := hu109
          subst hu109
          intro u110 hu110
          have hu110 : u110 = (.pointer (some ⟨g2, N * 6 + 1, none⟩) : Value) := hu110
          subst hu110
          intro u111 hu111
          obtain ⟨x111, rfl⟩ := hu111
          intro u112 hu112
          have hu112 : u112 = (.pointer (some ⟨g, 0, none⟩) : Value) := hu112
          subst hu112
          intro u113 hu113
          obtain ⟨x113, rfl, xl113, xh113⟩ := hu113
          intro u114 hu114
          obtain ⟨x114, rfl, xl114, xh114⟩ := hu114
          intro u115 hu115
          obtain ⟨x115, rfl⟩ := hu115
          intro u116 hu116
          have hu116 : u116 = (.pointer (some ⟨g2, N * 6, none⟩) : Value) := hu116
          subst hu116
          intro u117 hu117
          have hu117 : u117 = (.pointer (some ⟨g2, N * 6 + 1, none⟩) : Value) := hu117
          subst hu117
          refine fac_end ?_; intro K hK; go_simp; refine hK _ ?_; clear hK K
          have hszb := hEb.size
          obtain ⟨pe, hOe⟩ := hjxb
          go_wp2_with fail
          go_ret
          exact ⟨_, _, _, by omega, ⟨hRb.mono (by omega), hS21.out.2.1.trans ((hEa.trans hEb).past (fun q hq => by rcases hq with hq | hq <;> omega) (by have := hS21.out.2.1.size; omega)), pe, hOe.wide (Nat.le_refl _) (by omega)⟩, rfl⟩
        · have h20b : (v20 == 0) = false := by simpa using h20
          go_wp2_with fail
          go_ret
          exact ⟨_, _, _, by omega, hS20.out.mono (by omega), rfl⟩
def MadeP (w : World) (e : Ending) (w' : World) : Prop := ∃ A n c p, n ≤ 6 ∧ RowAt w' 0 w'.heap.size A n 6 (PkF p) ∧ e = .returned (.slice A n c) ∧ Below w.heap.size w w'
set_option maxHeartbeats 2000000 in
theorem draw_hds (w : World) (A : Option Addr) (n c : Nat) (h : IsInts .u8 w A n c) (hn : n ≤ 1048576) :
    Calls Try.prog 37 #[.slice A n c] w (MadeP w) := by
  have H := Lib.hid h
  clear h
  go_enter Try.func37, Try.ntmps37
  go_wp2_with fail
  refine (open_any _ A n c (H.out.below (by repeat (first | (with_reducible exact Below.refl _ _) | (with_reducible refine Bal ?_ _) | (with_reducible refine Below.drew ?_) | (with_reducible refine below_drewN ?_ _) | (with_reducible refine Bset ?_ ?_ _; focus (first | (with_reducible exact Nat.le_refl _) | (simp; done) | (simp; omega) | omega)) | (with_reducible refine Bt ?_ (by assumption)) | (with_reducible refine Bp (g := g) ?_ (by assumption) (by assumption))))) hn).mono ?_
  rintro e w0 ⟨g, rfl, hgo, hR0, hb0⟩
  obtain ⟨hc0, hf0⟩ := bcell hb0
  have hy0 := hb0.size
  try simp at hy0
  try simp at hgo
  have hgo2 : w.heap.size ≤ g := by omega
  have hgl := hR0.lt
  go_wp2_with fail
  refine (packets_draw _ g 0 6 (by repeat (first | assumption | (with_reducible refine RdLe.drew ?_) | (with_reducible refine RdLe.drewN ?_ _) | (with_reducible refine RdLe.alloc ?_ _) | (with_reducible refine RdLe.setC ?_ ?_ _; focus (first | (simp; done) | (simp; omega) | omega)))) (by omega) (by omega)).mono ?_
  rintro e w1 ⟨A1, m, c1, hm, ⟨hR1, hb1, p, hO1⟩, rfl⟩
  have hy1 := hb1.size
  go_wp2_with fail
  go_ret
  refine ⟨_, _, _, p, hm, hO1.row.wide (Nat.zero_le _) (Nat.le_refl _), rfl, ?_⟩
  go_light
  repeat (first | (with_reducible exact Below.refl _ _) | (with_reducible refine Bal ?_ _) | (with_reducible refine Below.drew ?_) | (with_reducible refine below_drewN ?_ _) | (with_reducible refine Bset ?_ ?_ _; focus (first | (with_reducible exact Nat.le_refl _) | (simp; done) | (simp; omega) | omega)) | (with_reducible refine Bt ?_ (by assumption)) | (with_reducible refine Bp (g := g) ?_ (by assumption) (by assumption)))
end Go.Proofs.Ytmidpodoapggnaa
