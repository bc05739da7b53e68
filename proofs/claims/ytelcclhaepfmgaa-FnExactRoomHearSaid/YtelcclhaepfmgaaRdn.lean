/- The draws of the laws on rooms. -/
import Derived.Test.YtelcclhaepfmgaaRdm
namespace Go.Proofs.Ytelcclhaepfmgaa
open Go Go.RowKit
set_option linter.unusedVariables false
set_option linter.unusedSimpArgs false
theorem RowAt.pastR {g lo hi n sz : Nat} {A : Option Addr} {f : Nat → Value} {w w' : World} (hg : g < lo) (h : RowAt w lo hi A n sz f) (hi' : hi ≤ w.heap.size) (hp : Past g w.heap.size w w') : RowAt w' lo hi A n sz f :=
  h.keep fun b o h1 h2 => hp.cells.1 b o (by omega) (by omega)
theorem Mb_at0 {w : World} {lo hi n : Nat} {A : Option Addr} {M : Nat → Mb} (h : RowAt w lo hi A n 3 (MbF M)) (hn : 0 < n) :
    ∃ b off, A = some ⟨b, off, none⟩ ∧ lo ≤ b ∧ b < hi ∧ ∀ k, k < n → w.cell? ⟨b, off + k * 3, none⟩ = some (.int .i64 (M k).p.id) := by
  obtain ⟨b, off, h1, h2, h3, h4, _⟩ := Mb_at h hn
  refine ⟨b, off, h1, h2, h3, fun k hk => ?_⟩
  obtain ⟨b2, off2, e1, _, _, h6, _⟩ := Mb_at h hk
  rw [h1] at e1
  injection e1 with e1
  injection e1 with e1 e2
  subst e1 e2
  exact h6
/-- What the draw of a room and more leaves. -/
def MadeRm (V : Value → Value → Prop) (w : World) (e : Ending) (w' : World) : Prop := ∃ B cb n M v, RmO w.heap.size B n cb M w' ∧ n ≤ 6 ∧ (∀ i, i < n → (M i).p.n ≤ 100) ∧ V (.slice B n cb) v ∧ e = .returned v ∧ Below w.heap.size w w'
def DrawnId (g k : Nat) (w : World) (e : Ending) (w' : World) : Prop := ∃ a : Int, e = .returned (.int .i64 a) ∧ RdLe w' g k ∧ Past g w.heap.size w w'
set_option maxRecDepth 100000 in
set_option maxHeartbeats 8000000 in
theorem id_draw (w : World) (g k lo hi : Nat) (A : Option Addr) (n c : Nat) (M : Nat → Mb) (h : RowAt w lo hi A n 3 (MbF M)) (hi' : hi ≤ w.heap.size) (hg : g < lo) (hn : n ≤ 1000) (hR : RdLe w g k) (hk : k ≤ 999900) :
    Calls Try.prog 54 #[.pointer (some ⟨g, 0, none⟩), .slice A n c] w (DrawnId g (k + 2) w) := by
  have H := Lib.hid h
  have HR0 := Lib.hid hR
  clear h hR
  by_cases hn0 : n = 0
  · subst hn0
    go_enter Try.func54, Try.ntmps54
    go_wp2_with fail
    have hr := HR0.out
    refine (pk _ g (k) _ (by repeat (first | assumption | (with_reducible refine RdLe.drew ?_) | (with_reducible refine RdLe.drewN ?_ _) | (with_reducible refine RdLe.alloc ?_ _) | (with_reducible refine RdLe.setC ?_ ?_ _; focus (first | (simp; done) | (simp; omega) | omega)))) (by omega) (by omega) (by omega)).mono ?_
    rintro e w1 ⟨⟨v1, ⟨vl1, vh1⟩, rfl, hR1, hb1⟩, hs1⟩
    clear hr hs1
    obtain ⟨m1, rfl⟩ := Int.eq_ofNat_of_zero_le vl1
    have HR1 := Lib.hid hR1
    have HP1 := Lib.hid hb1
    clear hb1
    go_wp2_with fail
    go_ret
    exact ⟨_, rfl, HR1.out.mono (by omega), HP1.out⟩
  have hn0' : 0 < n := by omega
  go_enter Try.func54, Try.ntmps54
  go_wp2_with fail
  have hr := HR0.out
  refine (pk _ g (k) _ (by repeat (first | assumption | (with_reducible refine RdLe.drew ?_) | (with_reducible refine RdLe.drewN ?_ _) | (with_reducible refine RdLe.alloc ?_ _) | (with_reducible refine RdLe.setC ?_ ?_ _; focus (first | (simp; done) | (simp; omega) | omega)))) (by omega) (by omega) (by omega)).mono ?_
  rintro e w1 ⟨⟨v1, ⟨vl1, vh1⟩, rfl, hR1, hb1⟩, hs1⟩
  clear hr hs1
  obtain ⟨m1, rfl⟩ := Int.eq_ofNat_of_zero_le vl1
  have HR1 := Lib.hid hR1
  have HP1 := Lib.hid hb1
  have hz1 := hb1.size
  have HH1 := Lib.hid (H.out.pastR hg hi' hb1)
  clear hb1
  by_cases hm1 : m1 = 0
  · subst hm1
    go_wp2_with fail
    have hr := HR1.out
    refine (pk _ g (k + 1) _ (by repeat (first | assumption | (with_reducible refine RdLe.drew ?_) | (with_reducible refine RdLe.drewN ?_ _) | (with_reducible refine RdLe.alloc ?_ _) | (with_reducible refine RdLe.setC ?_ ?_ _; focus (first | (simp; done) | (simp; omega) | omega)))) (by omega) (by omega) (by omega)).mono ?_
    rintro e w2 ⟨⟨v2, ⟨vl2, vh2⟩, rfl, hR2, hb2⟩, hs2⟩
    clear hr hs2
    obtain ⟨m2, rfl⟩ := Int.eq_ofNat_of_zero_le vl2
    have HR2 := Lib.hid hR2
    have HP2 := Lib.hid (HP1.out.trans (hb2.mono hz1))
    clear hb2
    go_wp2_with fail
    go_ret
    exact ⟨_, rfl, HR2.out.mono (by omega), HP2.out⟩
  have hm1' : 0 < m1 := by omega
  go_wp2_with fail
  have hr := HR1.out
  refine (pk _ g (k + 1) _ (by repeat (first | assumption | (with_reducible refine RdLe.drew ?_) | (with_reducible refine RdLe.drewN ?_ _) | (with_reducible refine RdLe.alloc ?_ _) | (with_reducible refine RdLe.setC ?_ ?_ _; focus (first | (simp; done) | (simp; omega) | omega)))) (by omega) (by omega) (by omega)).mono ?_
  rintro e w2 ⟨⟨v2, ⟨vl2, vh2⟩, rfl, hR2, hb2⟩, hs2⟩
  clear hr hs2
  obtain ⟨m2, rfl⟩ := Int.eq_ofNat_of_zero_le vl2
  have HR2 := Lib.hid hR2
  have HP2 := Lib.hid (HP1.out.trans (hb2.mono hz1))
  have HH2 := Lib.hid (HH1.out.pastR hg (by omega) hb2)
  clear hb2
  have hm2 : m2 < n := by omega
  obtain ⟨b, off, rfl, -, -, hc⟩ := Mb_at0 HH2.out hn0'
  have c2 := hc m2 hm2
  clear hc
  go_wp2_with fail
  go_ret
  exact ⟨_, rfl, HR2.out.mono (by omega), HP2.out⟩
set_option maxRecDepth 100000 in
set_option maxHeartbeats 8000000 in
theorem draw_rmv (w : World) (A : Option Addr) (n c : Nat) (h : IsInts .u8 w A n c) (hn : n ≤ 1048576) :
    Calls Try.prog 16 #[.slice A n c] w (MadeRm (fun l v => v = l) w) := by
  have H := Lib.hid h
  clear h
  go_enter Try.func16, Try.ntmps16
  go_wp2_with fail
  refine (open_any _ A n c (H.out.below (by repeat (first | (with_reducible exact Below.refl _ _) | (with_reducible refine Bal ?_ _) | (with_reducible refine Below.drew ?_) | (with_reducible refine below_drewN ?_ _) | (with_reducible refine Bset ?_ ?_ _; focus (first | (with_reducible exact Nat.le_refl _) | (simp; done) | (simp; omega) | omega)) | (with_reducible refine Bt ?_ (by assumption)) | (with_reducible refine Bp (g := g) ?_ (by assumption) (by assumption))))) hn).mono ?_
  rintro e w0 ⟨g, rfl, hgo, hR0, hb0⟩
  obtain ⟨hc0, hf0⟩ := bcell hb0
  have hy0 := hb0.size
  try simp at hy0
  try simp at hgo
  have hgo2 : w.heap.size ≤ g := by omega
  have hgl := hR0.lt
  have HB0 := Lib.hid (show Below w.heap.size w w0 by repeat (first | (with_reducible exact Below.refl _ _) | (with_reducible refine Bal ?_ _) | (with_reducible refine Below.drew ?_) | (with_reducible refine below_drewN ?_ _) | (with_reducible refine Bset ?_ ?_ _; focus (first | (with_reducible exact Nat.le_refl _) | (simp; done) | (simp; omega) | omega)) | (with_reducible refine Bt ?_ (by assumption)) | (with_reducible refine Bp (g := g) ?_ (by assumption) (by assumption))))
  have hw0 := HB0.out.size
  go_wp2_with fail
  refine (room_draw _ g 0 (by repeat (first | assumption | (with_reducible refine RdLe.drew ?_) | (with_reducible refine RdLe.drewN ?_ _) | (with_reducible refine RdLe.alloc ?_ _) | (with_reducible refine RdLe.setC ?_ ?_ _; focus (first | (simp; done) | (simp; omega) | omega)))) (by omega)).mono ?_
  rintro e w1 ⟨B1, cb1, n1, M1, hO1, hn1, hN1, rfl, hR1, hb1⟩
  have HO1 := Lib.hid hO1
  have HN1 := Lib.hid hN1
  have HR1 := Lib.hid hR1
  have HB1 := Lib.hid (HB0.out.trans ((hb1.mono hw0).below hgo2))
  have hz1 := hb1.size
  clear hO1 hN1 hR1 hb1 HB0 hc0 hf0 hb0 hy0 hgo hR0
  go_wp2_with fail
  refine bodyPost_retE rfl ?_
  apply Exists.intro
  refine ⟨?_, ?_⟩
  · simp only [results, Try.results16]
    go_simp
    first | done | rfl
  go_light
  exact ⟨B1, cb1, n1, M1, _, HO1.out.wide hw0, hn1, HN1.out, rfl, rfl, HB1.out⟩
set_option maxRecDepth 100000 in
set_option maxHeartbeats 8000000 in
theorem draw_rmj (w : World) (A : Option Addr) (n c : Nat) (h : IsInts .u8 w A n c) (hn : n ≤ 1048576) :
    Calls Try.prog 19 #[.slice A n c] w (MadeRm (fun l v => ∃ (a : Int) (s : Bool), v = .tuple #[l, .int .i64 a, .bool s]) w) := by
  have H := Lib.hid h
  clear h
  go_enter Try.func19, Try.ntmps19
  go_wp2_with fail
  refine (open_any _ A n c (H.out.below (by repeat (first | (with_reducible exact Below.refl _ _) | (with_reducible refine Bal ?_ _) | (with_reducible refine Below.drew ?_) | (with_reducible refine below_drewN ?_ _) | (with_reducible refine Bset ?_ ?_ _; focus (first | (with_reducible exact Nat.le_refl _) | (simp; done) | (simp; omega) | omega)) | (with_reducible refine Bt ?_ (by assumption)) | (with_reducible refine Bp (g := g) ?_ (by assumption) (by assumption))))) hn).mono ?_
  rintro e w0 ⟨g, rfl, hgo, hR0, hb0⟩
  obtain ⟨hc0, hf0⟩ := bcell hb0
  have hy0 := hb0.size
  try simp at hy0
  try simp at hgo
  have hgo2 : w.heap.size ≤ g := by omega
  have hgl := hR0.lt
  have HB0 := Lib.hid (show Below w.heap.size w w0 by repeat (first | (with_reducible exact Below.refl _ _) | (with_reducible refine Bal ?_ _) | (with_reducible refine Below.drew ?_) | (with_reducible refine below_drewN ?_ _) | (with_reducible refine Bset ?_ ?_ _; focus (first | (with_reducible exact Nat.le_refl _) | (simp; done) | (simp; omega) | omega)) | (with_reducible refine Bt ?_ (by assumption)) | (with_reducible refine Bp (g := g) ?_ (by assumption) (by assumption))))
  have hw0 := HB0.out.size
  go_wp2_with fail
  refine (room_draw _ g 0 (by repeat (first | assumption | (with_reducible refine RdLe.drew ?_) | (with_reducible refine RdLe.drewN ?_ _) | (with_reducible refine RdLe.alloc ?_ _) | (with_reducible refine RdLe.setC ?_ ?_ _; focus (first | (simp; done) | (simp; omega) | omega)))) (by omega)).mono ?_
  rintro e w1 ⟨B1, cb1, n1, M1, hO1, hn1, hN1, rfl, hR1, hb1⟩
  have HO1 := Lib.hid hO1
  have HN1 := Lib.hid hN1
  have HR1 := Lib.hid hR1
  have HB1 := Lib.hid (HB0.out.trans ((hb1.mono hw0).below hgo2))
  have hz1 := hb1.size
  clear hO1 hN1 hR1 hb1 HB0 hc0 hf0 hb0 hy0 hgo hR0
  have hgl2 := hgl
  go_wp2_with fail
  have hr := HR1.out
  refine (pk _ g (0 + 60) _ (by repeat (first | assumption | (with_reducible refine RdLe.drew ?_) | (with_reducible refine RdLe.drewN ?_ _) | (with_reducible refine RdLe.alloc ?_ _) | (with_reducible refine RdLe.setC ?_ ?_ _; focus (first | (simp; done) | (simp; omega) | omega)))) (by omega) (by omega) (by omega)).mono ?_
  rintro e w2 ⟨⟨v2, ⟨vl2, vh2⟩, rfl, hR2, hb2⟩, hs2⟩
  clear hr hs2
  obtain ⟨m2, rfl⟩ := Int.eq_ofNat_of_zero_le vl2
  have HR2 := Lib.hid hR2
  have HO2 := Lib.hid (HO1.out.past hgl hb2)
  have hz2 : w0.heap.size ≤ w2.heap.size := Nat.le_trans hz1 hb2.size
  have HB2 := Lib.hid (HB1.out.trans ((hb2.mono (by omega)).below hgo2))
  clear hb2
  go_wp2_with fail
  have hr := HR2.out
  refine (pk _ g (0 + 60 + 1) _ (by repeat (first | assumption | (with_reducible refine RdLe.drew ?_) | (with_reducible refine RdLe.drewN ?_ _) | (with_reducible refine RdLe.alloc ?_ _) | (with_reducible refine RdLe.setC ?_ ?_ _; focus (first | (simp; done) | (simp; omega) | omega)))) (by omega) (by omega) (by omega)).mono ?_
  rintro e w3 ⟨⟨v3, ⟨vl3, vh3⟩, rfl, hR3, hb3⟩, hs3⟩
  clear hr hs3
  obtain ⟨m3, rfl⟩ := Int.eq_ofNat_of_zero_le vl3
  have HR3 := Lib.hid hR3
  have HO3 := Lib.hid (HO2.out.past hgl hb3)
  have hz3 : w0.heap.size ≤ w3.heap.size := Nat.le_trans hz2 hb3.size
  have HB3 := Lib.hid (HB2.out.trans ((hb3.mono (by omega)).below hgo2))
  clear hb3
  go_wp2_with fail
  have hr := HR3.out
  refine (pk _ g (0 + 60 + 1 + 1) _ (by repeat (first | assumption | (with_reducible refine RdLe.drew ?_) | (with_reducible refine RdLe.drewN ?_ _) | (with_reducible refine RdLe.alloc ?_ _) | (with_reducible refine RdLe.setC ?_ ?_ _; focus (first | (simp; done) | (simp; omega) | omega)))) (by omega) (by omega) (by omega)).mono ?_
  rintro e w4 ⟨⟨v4, ⟨vl4, vh4⟩, rfl, hR4, hb4⟩, hs4⟩
  clear hr hs4
  obtain ⟨m4, rfl⟩ := Int.eq_ofNat_of_zero_le vl4
  have HR4 := Lib.hid hR4
  have HO4 := Lib.hid (HO3.out.past hgl hb4)
  have hz4 : w0.heap.size ≤ w4.heap.size := Nat.le_trans hz3 hb4.size
  have HB4 := Lib.hid (HB3.out.trans ((hb4.mono (by omega)).below hgo2))
  clear hb4
  go_wp2_with fail
  refine bodyPost_retE rfl ?_
  apply Exists.intro
  refine ⟨?_, ?_⟩
  · simp only [results, Try.results19]
    go_simp
    first | done | rfl
  go_light
  exact ⟨B1, cb1, n1, M1, _, HO4.out.wide hw0, hn1, HN1.out, ⟨_, _, rfl⟩, rfl, HB4.out⟩
set_option maxRecDepth 100000 in
set_option maxHeartbeats 8000000 in
theorem draw_rml (w : World) (A : Option Addr) (n c : Nat) (h : IsInts .u8 w A n c) (hn : n ≤ 1048576) :
    Calls Try.prog 32 #[.slice A n c] w (MadeRm (fun l v => ∃ (a : Int), v = .tuple #[l, .int .i64 a]) w) := by
  have H := Lib.hid h
  clear h
  go_enter Try.func32, Try.ntmps32
  go_wp2_with fail
  refine (open_any _ A n c (H.out.below (by repeat (first | (with_reducible exact Below.refl _ _) | (with_reducible refine Bal ?_ _) | (with_reducible refine Below.drew ?_) | (with_reducible refine below_drewN ?_ _) | (with_reducible refine Bset ?_ ?_ _; focus (first | (with_reducible exact Nat.le_refl _) | (simp; done) | (simp; omega) | omega)) | (with_reducible refine Bt ?_ (by assumption)) | (with_reducible refine Bp (g := g) ?_ (by assumption) (by assumption))))) hn).mono ?_
  rintro e w0 ⟨g, rfl, hgo, hR0, hb0⟩
  obtain ⟨hc0, hf0⟩ := bcell hb0
  have hy0 := hb0.size
  try simp at hy0
  try simp at hgo
  have hgo2 : w.heap.size ≤ g := by omega
  have hgl := hR0.lt
  have HB0 := Lib.hid (show Below w.heap.size w w0 by repeat (first | (with_reducible exact Below.refl _ _) | (with_reducible refine Bal ?_ _) | (with_reducible refine Below.drew ?_) | (with_reducible refine below_drewN ?_ _) | (with_reducible refine Bset ?_ ?_ _; focus (first | (with_reducible exact Nat.le_refl _) | (simp; done) | (simp; omega) | omega)) | (with_reducible refine Bt ?_ (by assumption)) | (with_reducible refine Bp (g := g) ?_ (by assumption) (by assumption))))
  have hw0 := HB0.out.size
  go_wp2_with fail
  refine (room_draw _ g 0 (by repeat (first | assumption | (with_reducible refine RdLe.drew ?_) | (with_reducible refine RdLe.drewN ?_ _) | (with_reducible refine RdLe.alloc ?_ _) | (with_reducible refine RdLe.setC ?_ ?_ _; focus (first | (simp; done) | (simp; omega) | omega)))) (by omega)).mono ?_
  rintro e w1 ⟨B1, cb1, n1, M1, hO1, hn1, hN1, rfl, hR1, hb1⟩
  have HO1 := Lib.hid hO1
  have HN1 := Lib.hid hN1
  have HR1 := Lib.hid hR1
  have HB1 := Lib.hid (HB0.out.trans ((hb1.mono hw0).below hgo2))
  have hz1 := hb1.size
  clear hO1 hN1 hR1 hb1 HB0 hc0 hf0 hb0 hy0 hgo hR0
  go_wp2_with fail
  refine (id_draw w1 g (0 + 60) w0.heap.size w1.heap.size _ n1 cb1 M1 HO1.out.row.row (Nat.le_refl _) hgl (by omega) HR1.out (by omega)).mono ?_
  rintro e w2 ⟨a2, rfl, hR2, hb2⟩
  have HR2 := Lib.hid hR2
  clear hR2
  have HO2 := Lib.hid (HO1.out.past hgl hb2)
  have hz2 : w0.heap.size ≤ w2.heap.size := Nat.le_trans hz1 hb2.size
  have HB2 := Lib.hid (HB1.out.trans ((hb2.mono (by omega)).below hgo2))
  clear hb2
  go_wp2_with fail
  refine bodyPost_retE rfl ?_
  apply Exists.intro
  refine ⟨?_, ?_⟩
  · simp only [results, Try.results32]
    go_simp
    first | done | rfl
  go_light
  exact ⟨B1, cb1, n1, M1, _, HO2.out.wide hw0, hn1, HN1.out, ⟨_, rfl⟩, rfl, HB2.out⟩
set_option maxRecDepth 100000 in
set_option maxHeartbeats 8000000 in
theorem draw_rmh (w : World) (A : Option Addr) (n c : Nat) (h : IsInts .u8 w A n c) (hn : n ≤ 1048576) :
    Calls Try.prog 29 #[.slice A n c] w (MadeRm (fun l v => ∃ (a b : Int) (s : Bool), v = .tuple #[l, .int .i64 a, .int .i64 b, .bool s]) w) := by
  have H := Lib.hid h
  clear h
  go_enter Try.func29, Try.ntmps29
  go_wp2_with fail
  refine (open_any _ A n c (H.out.below (by repeat (first | (with_reducible exact Below.refl _ _) | (with_reducible refine Bal ?_ _) | (with_reducible refine Below.drew ?_) | (with_reducible refine below_drewN ?_ _) | (with_reducible refine Bset ?_ ?_ _; focus (first | (with_reducible exact Nat.le_refl _) | (simp; done) | (simp; omega) | omega)) | (with_reducible refine Bt ?_ (by assumption)) | (with_reducible refine Bp (g := g) ?_ (by assumption) (by assumption))))) hn).mono ?_
  rintro e w0 ⟨g, rfl, hgo, hR0, hb0⟩
  obtain ⟨hc0, hf0⟩ := bcell hb0
  have hy0 := hb0.size
  try simp at hy0
  try simp at hgo
  have hgo2 : w.heap.size ≤ g := by omega
  have hgl := hR0.lt
  have HB0 := Lib.hid (show Below w.heap.size w w0 by repeat (first | (with_reducible exact Below.refl _ _) | (with_reducible refine Bal ?_ _) | (with_reducible refine Below.drew ?_) | (with_reducible refine below_drewN ?_ _) | (with_reducible refine Bset ?_ ?_ _; focus (first | (with_reducible exact Nat.le_refl _) | (simp; done) | (simp; omega) | omega)) | (with_reducible refine Bt ?_ (by assumption)) | (with_reducible refine Bp (g := g) ?_ (by assumption) (by assumption))))
  have hw0 := HB0.out.size
  go_wp2_with fail
  refine (room_draw _ g 0 (by repeat (first | assumption | (with_reducible refine RdLe.drew ?_) | (with_reducible refine RdLe.drewN ?_ _) | (with_reducible refine RdLe.alloc ?_ _) | (with_reducible refine RdLe.setC ?_ ?_ _; focus (first | (simp; done) | (simp; omega) | omega)))) (by omega)).mono ?_
  rintro e w1 ⟨B1, cb1, n1, M1, hO1, hn1, hN1, rfl, hR1, hb1⟩
  have HO1 := Lib.hid hO1
  have HN1 := Lib.hid hN1
  have HR1 := Lib.hid hR1
  have HB1 := Lib.hid (HB0.out.trans ((hb1.mono hw0).below hgo2))
  have hz1 := hb1.size
  clear hO1 hN1 hR1 hb1 HB0 hc0 hf0 hb0 hy0 hgo hR0
  go_wp2_with fail
  refine (id_draw w1 g (0 + 60) w0.heap.size w1.heap.size _ n1 cb1 M1 HO1.out.row.row (Nat.le_refl _) hgl (by omega) HR1.out (by omega)).mono ?_
  rintro e w2 ⟨a2, rfl, hR2, hb2⟩
  have HR2 := Lib.hid hR2
  clear hR2
  have HO2 := Lib.hid (HO1.out.past hgl hb2)
  have hz2 : w0.heap.size ≤ w2.heap.size := Nat.le_trans hz1 hb2.size
  have HB2 := Lib.hid (HB1.out.trans ((hb2.mono (by omega)).below hgo2))
  clear hb2
  go_wp2_with fail
  refine (id_draw w2 g (0 + 60 + 2) w0.heap.size w2.heap.size _ n1 cb1 M1 HO2.out.row.row (Nat.le_refl _) hgl (by omega) HR2.out (by omega)).mono ?_
  rintro e w3 ⟨a3, rfl, hR3, hb3⟩
  have HR3 := Lib.hid hR3
  clear hR3
  have HO3 := Lib.hid (HO2.out.past hgl hb3)
  have hz3 : w0.heap.size ≤ w3.heap.size := Nat.le_trans hz2 hb3.size
  have HB3 := Lib.hid (HB2.out.trans ((hb3.mono (by omega)).below hgo2))
  clear hb3
  go_wp2_with fail
  have hr := HR3.out
  refine (pk _ g (0 + 60 + 2 + 2) _ (by repeat (first | assumption | (with_reducible refine RdLe.drew ?_) | (with_reducible refine RdLe.drewN ?_ _) | (with_reducible refine RdLe.alloc ?_ _) | (with_reducible refine RdLe.setC ?_ ?_ _; focus (first | (simp; done) | (simp; omega) | omega)))) (by omega) (by omega) (by omega)).mono ?_
  rintro e w4 ⟨⟨v4, ⟨vl4, vh4⟩, rfl, hR4, hb4⟩, hs4⟩
  clear hr hs4
  obtain ⟨m4, rfl⟩ := Int.eq_ofNat_of_zero_le vl4
  have HR4 := Lib.hid hR4
  have HO4 := Lib.hid (HO3.out.past hgl hb4)
  have hz4 : w0.heap.size ≤ w4.heap.size := Nat.le_trans hz3 hb4.size
  have HB4 := Lib.hid (HB3.out.trans ((hb4.mono (by omega)).below hgo2))
  clear hb4
  go_wp2_with fail
  refine bodyPost_retE rfl ?_
  apply Exists.intro
  refine ⟨?_, ?_⟩
  · simp only [results, Try.results29]
    go_simp
    first | done | rfl
  go_light
  exact ⟨B1, cb1, n1, M1, _, HO4.out.wide hw0, hn1, HN1.out, ⟨_, _, _, rfl⟩, rfl, HB4.out⟩
set_option maxRecDepth 100000 in
set_option maxHeartbeats 8000000 in
theorem draw_rmr (w : World) (A : Option Addr) (n c : Nat) (h : IsInts .u8 w A n c) (hn : n ≤ 1048576) :
    Calls Try.prog 24 #[.slice A n c] w (MadeRm (fun l v => ∃ (a : Int), v = .tuple #[l, .int .i64 a]) w) := by
  have H := Lib.hid h
  clear h
  go_enter Try.func24, Try.ntmps24
  go_wp2_with fail
  refine (open_any _ A n c (H.out.below (by repeat (first | (with_reducible exact Below.refl _ _) | (with_reducible refine Bal ?_ _) | (with_reducible refine Below.drew ?_) | (with_reducible refine below_drewN ?_ _) | (with_reducible refine Bset ?_ ?_ _; focus (first | (with_reducible exact Nat.le_refl _) | (simp; done) | (simp; omega) | omega)) | (with_reducible refine Bt ?_ (by assumption)) | (with_reducible refine Bp (g := g) ?_ (by assumption) (by assumption))))) hn).mono ?_
  rintro e w0 ⟨g, rfl, hgo, hR0, hb0⟩
  obtain ⟨hc0, hf0⟩ := bcell hb0
  have hy0 := hb0.size
  try simp at hy0
  try simp at hgo
  have hgo2 : w.heap.size ≤ g := by omega
  have hgl := hR0.lt
  have HB0 := Lib.hid (show Below w.heap.size w w0 by repeat (first | (with_reducible exact Below.refl _ _) | (with_reducible refine Bal ?_ _) | (with_reducible refine Below.drew ?_) | (with_reducible refine below_drewN ?_ _) | (with_reducible refine Bset ?_ ?_ _; focus (first | (with_reducible exact Nat.le_refl _) | (simp; done) | (simp; omega) | omega)) | (with_reducible refine Bt ?_ (by assumption)) | (with_reducible refine Bp (g := g) ?_ (by assumption) (by assumption))))
  have hw0 := HB0.out.size
  go_wp2_with fail
  refine (room_draw _ g 0 (by repeat (first | assumption | (with_reducible refine RdLe.drew ?_) | (with_reducible refine RdLe.drewN ?_ _) | (with_reducible refine RdLe.alloc ?_ _) | (with_reducible refine RdLe.setC ?_ ?_ _; focus (first | (simp; done) | (simp; omega) | omega)))) (by omega)).mono ?_
  rintro e w1 ⟨B1, cb1, n1, M1, hO1, hn1, hN1, rfl, hR1, hb1⟩
  have HO1 := Lib.hid hO1
  have HN1 := Lib.hid hN1
  have HR1 := Lib.hid hR1
  have HB1 := Lib.hid (HB0.out.trans ((hb1.mono hw0).below hgo2))
  have hz1 := hb1.size
  clear hO1 hN1 hR1 hb1 HB0 hc0 hf0 hb0 hy0 hgo hR0
  go_wp2_with fail
  go_loopw [5, 6] (fun s i wr => ∃ (j : Nat) (B : Option Addr) (cb n : Nat) (M : Nat → Mb), j ≤ 6 ∧ i = .int .i64 (j : Nat) ∧ s = .slice B n cb ∧ n ≤ 6 ∧ Hid (RmO w0.heap.size B n cb M wr) ∧ Hid (∀ i, i < n → (M i).p.n ≤ 100) ∧ Hid (RdLe wr g (0 + 60)) ∧ Hid (Below w.heap.size w wr) ∧ w0.heap.size ≤ wr.heap.size) (fun _ i _ => 6 - (intOf i).toNat)
  case atStart => exact ⟨0, _, cb1, n1, M1, Nat.zero_le _, rfl, rfl, hn1, HO1, HN1, HR1, HB1, hz1⟩
  clear HO1 HN1 HR1 HB1 hz1 hn1
  case round =>
    obtain ⟨j, B, cb, n, M, hj, rfl, rfl, hn6, HO, HN, HR, HB, hz⟩ := hrel
    by_cases hjn : j < n
    · have hRo := HO.out.row.row
      rcases RowOwn.cases HO.out.row with ⟨-, e, -⟩ | ⟨gL, rfl, hlo, -, hgl9, -, -, -⟩
      · omega
      have cp1 := Mb_id hRo (k := j) hjn
      have cp2 := Mb_id hRo (k := 0) (by omega)
      simp only [Nat.zero_mul] at cp2
      have hn0 : 0 < n := by omega
      have hng : ¬ gL = g := by omega
      clear hRo
      go_upto_region 6 with fail
      refine wp_region_mix (Exc (fun b => b = g) wr) (by kernel_rfl) (by kernel_rfl) (Exc.drew (Exc.refl _ _)) ?_
      repeat (first
        | (refine mix_skip rfl ?_; have e0 : True := trivial; clear e0; refine mix_putK ?_; intro K hK; go_simp; refine hK _ ?_; clear hK K)
        | (refine mix_readE rfl rfl rfl ?_; apply Exists.intro; refine ⟨fun w' hb' => ?_, ?_⟩; (focus (obtain ⟨hc', hf'⟩ := exc_cells hb'; clear hb'; go_simp; try exact rfl)); have e0 : True := trivial; clear e0; refine mix_putK ?_; intro K hK; go_simp; refine hK _ ?_; clear hK K)
        | (refine mix_pureE rfl rfl ?_; apply Exists.intro; refine ⟨fun w' => ?_, ?_⟩; (focus (first | (fail) | (go_simp; try exact rfl))); have e0 : True := trivial; clear e0; refine mix_putK ?_; intro K hK; go_simp; refine hK _ ?_; clear hK K)
        | (refine mix_eff rfl rfl ?_; go_wp2_with ((go_at_call 31; refine (shr_step _ w0.heap.size wr.heap.size (some ⟨gL, 0, none⟩) n cb M _ _ _ (Room.below (Nat.le_refl _) HO.out.room (by repeat (first | (with_reducible exact Below.refl _ _) | (with_reducible refine Bal ?_ _) | (with_reducible refine Below.drew ?_) | (with_reducible refine below_drewN ?_ _) | (with_reducible refine Bset ?_ ?_ _; focus (first | (with_reducible exact Nat.le_refl _) | (simp; done) | (simp; omega) | omega)) | (with_reducible refine Bt ?_ (by assumption)) | (with_reducible refine Bp (g := g) ?_ (by assumption) (by assumption))))) (by first | exact Nat.le_refl _ | (simp; done) | (simp; omega) | omega) hn6 HN.out).mono ?_; rintro e w6 ⟨B6, cb6, n6, M6, ok6, hO6, rfl, hb6, hk6⟩; have hE6 : Exc (fun b => b = g) wr w6 := Exc.trans (Exc.drew (Exc.refl _ _)) (Exc.of_belowR hb6))); refine then_mix rfl ?_ ?_; (focus (first | (intro h; have h2 : false = true := h; cases h2) | (intro _; assumption) | (intro _; repeat (first | assumption | (with_reducible exact Exc.refl _ _) | (with_reducible refine Exc.drew ?_) | (with_reducible refine Exc.alloc ?_ _) | (with_reducible refine Exc.setC ?_ ?_ _; focus (simp))))))))
      refine mix_nil ?_
      have hb6 : Below wr.heap.size wr w6 := Below.trans (Below.refl _ wr).drew hb6
      have HR6 := Lib.hid (HR.out.below hb6)
      have HB6 := Lib.hid (HB.out.trans (hb6.mono (by have := HB.out.size; omega)))
      have hz6 : w0.heap.size ≤ w6.heap.size := Nat.le_trans hz hb6.size
      have HK := Lib.hid hk6
      clear hk6 hE6 cp1 cp2
      cases ok6
      · have HO6 := Lib.hid (HO.out.below hb6)
        clear hO6 hb6 HO HK
        go_wp2_with fail
        go_roundw
        case rel => exact ⟨j + 1, _, cb, n, M, by omega, by go_num, rfl, hn6, HO6, HN, HR6, HB6, hz6⟩
        case measure => simp [intOf]; omega
      · have HO6 := Lib.hid (RmO.wide hO6 (show w0.heap.size ≤ wr.drew.heap.size from hz))
        have hn6b := (HK.out rfl).1
        have HN6 := Lib.hid (HK.out rfl).2
        clear hO6 hb6 HO HK HN
        go_wp2_with fail
        go_roundw
        case rel => exact ⟨j + 1, B6, cb6, n6, M6, by omega, by go_num, rfl, hn6b, HO6, HN6, HR6, HB6, hz6⟩
        case measure => simp [intOf]; omega
    by_cases hn0 : n = 0
    · subst hn0
      go_wp2_with fail
      refine (id_draw wr g (0 + 60) w0.heap.size wr.heap.size _ 0 cb M HO.out.row.row (Nat.le_refl _) hgl (by omega) HR.out (by omega)).mono ?_
      rintro e w2 ⟨a2, rfl, hR2, hb2⟩
      have HO2 := Lib.hid (HO.out.past hgl hb2)
      have HB2 := Lib.hid (HB.out.trans ((hb2.mono (by omega)).below hgo2))
      clear hR2 hb2
      go_wp2_with fail
      refine bodyPost_retE rfl ?_
      apply Exists.intro
      refine ⟨?_, ?_⟩
      · simp only [results, Try.results24]
        go_simp
        first | done | rfl
      go_light
      exact ⟨B, cb, 0, M, _, HO2.out.wide hw0, hn6, HN.out, ⟨_, rfl⟩, rfl, HB2.out⟩
    have hn0' : 0 < n := by omega
    go_wp2_with fail
    have hr := HR.out
    refine (pk _ g (0 + 60) _ (by repeat (first | assumption | (with_reducible refine RdLe.drew ?_) | (with_reducible refine RdLe.drewN ?_ _) | (with_reducible refine RdLe.alloc ?_ _) | (with_reducible refine RdLe.setC ?_ ?_ _; focus (first | (simp; done) | (simp; omega) | omega)))) (by omega) (by omega) (by omega)).mono ?_
    rintro e w2 ⟨⟨v2, ⟨vl2, vh2⟩, rfl, hR2, hb2⟩, hs2⟩
    clear hr hs2
    obtain ⟨m2, rfl⟩ := Int.eq_ofNat_of_zero_le vl2
    have HR2 := Lib.hid hR2
    have HO2 := Lib.hid (HO.out.past hgl hb2)
    have hz2 : w0.heap.size ≤ w2.heap.size := Nat.le_trans hz hb2.size
    have HB2 := Lib.hid (HB.out.trans ((hb2.mono (by omega)).below hgo2))
    clear hb2 HO HB HR
    by_cases hm2 : m2 = 0
    · subst hm2
      have hRo := HO2.out.row.row
      rcases RowOwn.cases HO2.out.row with ⟨-, e, -⟩ | ⟨gL, rfl, hlo, -, hgl9, -, -, -⟩
      · omega
      have cp2 := Mb_id hRo (k := 0) (by omega)
      simp only [Nat.zero_mul] at cp2
      have hng : ¬ gL = g := by omega
      clear hRo
      go_upto_region 10 with fail
      refine wp_region_mix (Exc (fun b => b = g) w2) (by kernel_rfl) (by kernel_rfl) (Exc.drew (Exc.refl _ _)) ?_
      repeat (first
        | (refine mix_skip rfl ?_; have e0 : True := trivial; clear e0; refine mix_putK ?_; intro K hK; go_simp; refine hK _ ?_; clear hK K)
        | (refine mix_readE rfl rfl rfl ?_; apply Exists.intro; refine ⟨fun w' hb' => ?_, ?_⟩; (focus (obtain ⟨hc', hf'⟩ := exc_cells hb'; clear hb'; go_simp; try exact rfl)); have e0 : True := trivial; clear e0; refine mix_putK ?_; intro K hK; go_simp; refine hK _ ?_; clear hK K)
        | (refine mix_pureE rfl rfl ?_; apply Exists.intro; refine ⟨fun w' => ?_, ?_⟩; (focus (first | (fail) | (go_simp; try exact rfl))); have e0 : True := trivial; clear e0; refine mix_putK ?_; intro K hK; go_simp; refine hK _ ?_; clear hK K)
        | (refine mix_eff rfl rfl ?_; go_wp2_with (fail); refine then_mix rfl ?_ ?_; (focus (first | (intro h; have h2 : false = true := h; cases h2) | (intro _; assumption) | (intro _; repeat (first | assumption | (with_reducible exact Exc.refl _ _) | (with_reducible refine Exc.drew ?_) | (with_reducible refine Exc.alloc ?_ _) | (with_reducible refine Exc.setC ?_ ?_ _; focus (simp))))))))
      refine mix_nil ?_
      go_wp2_with fail
      refine bodyPost_retE rfl ?_
      apply Exists.intro
      refine ⟨?_, ?_⟩
      · simp only [results, Try.results24]
        go_simp
        first | done | rfl
      go_light
      exact ⟨_, cb, n, M, _, (HO2.out.wide hw0).below (Below.refl _ _).drew, hn6, HN.out, ⟨_, rfl⟩, rfl, HB2.out.drew⟩
    have hm2b : ((m2 : Int) == 0) = false := by simpa using hm2
    go_wp2_with fail
    refine (id_draw w2 g (0 + 60 + 1) w0.heap.size w2.heap.size _ n cb M HO2.out.row.row (Nat.le_refl _) hgl (by omega) HR2.out (by omega)).mono ?_
    rintro e w3 ⟨a3, rfl, hR3, hb3⟩
    have HO3 := Lib.hid (HO2.out.past hgl hb3)
    have HB3 := Lib.hid (HB2.out.trans ((hb3.mono (by omega)).below hgo2))
    clear hR3 hb3
    go_wp2_with fail
    refine bodyPost_retE rfl ?_
    apply Exists.intro
    refine ⟨?_, ?_⟩
    · simp only [results, Try.results24]
      go_simp
      first | done | rfl
    go_light
    exact ⟨B, cb, n, M, _, HO3.out.wide hw0, hn6, HN.out, ⟨_, rfl⟩, rfl, HB3.out⟩
end Go.Proofs.Ytelcclhaepfmgaa
