/- Demands: what the laws' helpers do with them, and when they are valid. -/
import Derived.Test.YtmidpodoapggnaaInts
import Derived.Test.YtmidpodoapggnaaAny
namespace Go.Proofs.Ytmidpodoapggnaa
open Go Go.RowKit
set_option linter.unusedVariables false
set_option linter.unusedSimpArgs false

structure Dm where
  w : Int
  l : Int
  m : Int
  h : Int
def Dm0 : Dm := ⟨0, 0, 0, 0⟩
def DmC (d : Dm) : Nat → Value
  | 0 => .int .i64 d.w
  | 1 => .int .i64 d.l
  | 2 => .int .i64 d.m
  | _ => .int .i64 d.h
def DmF : (Nat → Dm) → Nat → Value := RowF 4 DmC
def DmOk (d : Dm) : Prop := (0 ≤ d.w ∧ d.w ≤ 9) ∧ 1 ≤ d.l ∧ d.l < d.m ∧ d.m < d.h ∧ d.h ≤ 9999
instance (d : Dm) : Decidable (DmOk d) := inferInstanceAs (Decidable (_ ∧ _))
def dmB (d : Dm) : Bool := decide (DmOk d)
def DmsOk (n : Nat) (p : Nat → Dm) : Prop := n ≤ 6 ∧ ∀ i, i < n → DmOk (p i)
instance (n : Nat) (p : Nat → Dm) : Decidable (DmsOk n p) := inferInstanceAs (Decidable (_ ∧ _))
def dmsB (n : Nat) (p : Nat → Dm) : Bool := decide (DmsOk n p)
theorem info_dm : (Try.prog.info? 53).map (fun i => (i.zero, i.size, i.bytes)) = some (some (.agg #[.int .i64 0, .int .i64 0, .int .i64 0, .int .i64 0]), 4, 32) := by kernel_rfl
theorem Dm_at {w : World} {lo hi : Nat} {A : Option Addr} {n : Nat} {p : Nat → Dm} (h : RowAt w lo hi A n 4 (DmF p)) {k : Nat} (hk : k < n) :
    ∃ b off, A = some ⟨b, off, none⟩ ∧ lo ≤ b ∧ b < hi ∧ w.cell? ⟨b, off + k * 4, none⟩ = some (.int .i64 (p k).w) ∧ w.cell? ⟨b, off + k * 4 + 1, none⟩ = some (.int .i64 (p k).l) ∧
      w.cell? ⟨b, off + k * 4 + 2, none⟩ = some (.int .i64 (p k).m) ∧ w.cell? ⟨b, off + k * 4 + 3, none⟩ = some (.int .i64 (p k).h) := by
  obtain ⟨b, off, h1, h2, h3, h4⟩ := RowAt.elem h hk
  exact ⟨b, off, h1, h2, h3, h4 0 (by decide), h4 1 (by decide), h4 2 (by decide), h4 3 (by decide)⟩

set_option maxHeartbeats 4000000 in
theorem dmv_any (a b c d : Int) (w : World) :
    Calls Try.prog 62 #[.agg #[.int .i64 a, .int .i64 b, .int .i64 c, .int .i64 d]] w fun e w' => e = .returned (.bool (dmB ⟨a, b, c, d⟩)) ∧ Below w.heap.size w w' := by
  by_cases h1 : 0 ≤ a
  · by_cases h2 : a ≤ 9
    · by_cases h3 : 1 ≤ b
      · by_cases h4 : b < c
        · by_cases h5 : c < d
          · by_cases h6 : d ≤ 9999
            · go_enter Try.func62, Try.ntmps62
              go_wp2
              go_ret
              go_light
              refine ⟨ret_bool ?_, Ba _ _⟩
              exact (decide_eq_true (show DmOk ⟨a, b, c, d⟩ from ⟨⟨h1, h2⟩, h3, h4, h5, h6⟩)).symm
            · go_enter Try.func62, Try.ntmps62
              go_wp2
              go_ret
              go_light
              refine ⟨ret_bool ?_, Ba _ _⟩
              exact (decide_eq_false (show ¬ DmOk ⟨a, b, c, d⟩ from fun ⟨⟨q1, q2⟩, q3, q4, q5, q6⟩ => by simp at q1 q2 q3 q4 q5 q6; omega)).symm
          · go_enter Try.func62, Try.ntmps62
            go_wp2
            go_ret
            go_light
            refine ⟨ret_bool ?_, Ba _ _⟩
            exact (decide_eq_false (show ¬ DmOk ⟨a, b, c, d⟩ from fun ⟨⟨q1, q2⟩, q3, q4, q5, q6⟩ => by simp at q1 q2 q3 q4 q5 q6; omega)).symm
        · go_enter Try.func62, Try.ntmps62
          go_wp2
          go_ret
          go_light
          refine ⟨ret_bool ?_, Ba _ _⟩
          exact (decide_eq_false (show ¬ DmOk ⟨a, b, c, d⟩ from fun ⟨⟨q1, q2⟩, q3, q4, q5, q6⟩ => by simp at q1 q2 q3 q4 q5 q6; omega)).symm
      · go_enter Try.func62, Try.ntmps62
        go_wp2
        go_ret
        go_light
        refine ⟨ret_bool ?_, Ba _ _⟩
        exact (decide_eq_false (show ¬ DmOk ⟨a, b, c, d⟩ from fun ⟨⟨q1, q2⟩, q3, q4, q5, q6⟩ => by simp at q1 q2 q3 q4 q5 q6; omega)).symm
    · go_enter Try.func62, Try.ntmps62
      go_wp2
      go_ret
      go_light
      refine ⟨ret_bool ?_, Ba _ _⟩
      exact (decide_eq_false (show ¬ DmOk ⟨a, b, c, d⟩ from fun ⟨⟨q1, q2⟩, q3, q4, q5, q6⟩ => by simp at q1 q2 q3 q4 q5 q6; omega)).symm
  · go_enter Try.func62, Try.ntmps62
    go_wp2
    go_ret
    go_light
    refine ⟨ret_bool ?_, Ba _ _⟩
    exact (decide_eq_false (show ¬ DmOk ⟨a, b, c, d⟩ from fun ⟨⟨q1, q2⟩, q3, q4, q5, q6⟩ => by simp at q1 q2 q3 q4 q5 q6; omega)).symm
set_option maxHeartbeats 2000000 in
theorem idms_any (w : World) (lo hi : Nat) (A : Option Addr) (n c : Nat) (p : Nat → Dm) (h : RowAt w lo hi A n 4 (DmF p)) (hi' : hi ≤ w.heap.size) (hn : n ≤ 1048576) :
    Calls Try.prog 35 #[.slice A n c] w fun e w' => e = .returned (.bool (dmsB n p)) ∧ Below w.heap.size w w' := by
  have H := Lib.hid h
  clear h
  by_cases h6 : n ≤ 6
  · go_enter Try.func35, Try.ntmps35
    go_wp2
    go_loopw [10] (fun i wr => ∃ k, k ≤ n ∧ i = .int .i64 k ∧ Hid (∀ j, j < k → DmOk (p j)) ∧ Below w.heap.size w wr) (fun i _ => n - (intOf i).toNat)
    case atStart => exact ⟨0, Nat.zero_le _, rfl, fun j hj => absurd hj (by omega), Below.refl _ _⟩
    case round =>
      obtain ⟨k, hk, rfl, hA, hB⟩ := hrel
      have hBs := hB.size
      by_cases hkn : k < n
      · obtain ⟨b, off, rfl, _, hb2, c0, c1, c2, c3⟩ := Dm_at (H.out.below hi' hB) hkn
        have hbw : b < wr.heap.size := by omega
        have hv := fun W : World => dmv_any (p k).w (p k).l (p k).m (p k).h W
        by_cases hd : DmOk (p k)
        · rw [show dmB ⟨(p k).w, (p k).l, (p k).m, (p k).h⟩ = true from decide_eq_true hd] at hv
          have HV := Lib.hid hv
          clear hv
          go_wp2_with fail
          refine (HV.out _).mono ?_
          rintro e w2 ⟨rfl, hbv⟩
          go_wp2
          go_roundw
          case rel =>
            refine ⟨k + 1, by omega, by go_num, fun j hj => ?_, ?_⟩
            · by_cases e : j = k
              · subst e; exact hd
              · exact hA.out j (by omega)
            · refine hB.trans (Below.mono (B := wr.heap.size) ?_ hB.size)
              repeat (first | (with_reducible exact Below.refl _ _) | (with_reducible refine Bal ?_ _) | (with_reducible refine Below.drew ?_) | (with_reducible refine below_drewN ?_ _) | (with_reducible refine Bset ?_ ?_ _; focus (first | (with_reducible exact Nat.le_refl _) | (simp; done) | (simp; omega) | omega)) | (with_reducible refine Bt ?_ (by assumption)) | (with_reducible refine Bp (g := g) ?_ (by assumption) (by assumption)))
          case measure => simp [intOf]; omega
        · rw [show dmB ⟨(p k).w, (p k).l, (p k).m, (p k).h⟩ = false from decide_eq_false hd] at hv
          have HV := Lib.hid hv
          clear hv
          go_wp2_with fail
          refine (HV.out _).mono ?_
          rintro e w2 ⟨rfl, hbv⟩
          go_wp2
          go_ret
          refine ⟨ret_bool (decide_eq_false fun h => hd (h.2 k hkn)).symm, ?_⟩
          refine hB.trans (Below.mono (B := wr.heap.size) ?_ hB.size)
          repeat (first | (with_reducible exact Below.refl _ _) | (with_reducible refine Bal ?_ _) | (with_reducible refine Below.drew ?_) | (with_reducible refine below_drewN ?_ _) | (with_reducible refine Bset ?_ ?_ _; focus (first | (with_reducible exact Nat.le_refl _) | (simp; done) | (simp; omega) | omega)) | (with_reducible refine Bt ?_ (by assumption)) | (with_reducible refine Bp (g := g) ?_ (by assumption) (by assumption)))
      · obtain rfl : k = n := by omega
        go_wp2
        go_ret
        exact ⟨ret_bool (decide_eq_true (show DmsOk k p from ⟨h6, fun j hj => hA.out j hj⟩)).symm, hB⟩
  · go_enter Try.func35, Try.ntmps35
    go_wp2
    go_ret
    exact ⟨ret_bool (decide_eq_false (show ¬ DmsOk n p from fun h => h6 h.1)).symm, Below.refl _ _⟩
set_option maxHeartbeats 4000000 in
theorem sdms_any (w : World) (lo hi : Nat) (A : Option Addr) (n c : Nat) (p : Nat → Dm) (h : RowAt w lo hi A n 4 (DmF p)) (hi' : hi ≤ w.heap.size) (hn : n ≤ 1048576) :
    Calls Try.prog 36 #[.slice A n c] w fun e w' => e = .returned (.bool (dmsB n p)) ∧ Below w.heap.size w w' := by
  have H := Lib.hid h
  clear h
  go_enter Try.func36, Try.ntmps36
  go_wp2
  go_loopw [3] (fun i wr => ∃ k, k ≤ n ∧ i = .int .i64 k ∧ Hid (∀ j, j < k → DmOk (p j)) ∧ Below w.heap.size w wr) (fun i _ => n - (intOf i).toNat)
  case atStart => exact ⟨0, Nat.zero_le _, rfl, fun j hj => absurd hj (by omega), Below.refl _ _⟩
  case round =>
    obtain ⟨k, hk, rfl, hA, hB⟩ := hrel
    have hBs := hB.size
    by_cases hkn : k < n
    · obtain ⟨b, off, rfl, _, hb2, c0, c1, c2, c3⟩ := Dm_at (H.out.below hi' hB) hkn
      have hbw : b < wr.heap.size := by omega
      by_cases i1 : inB (p k).w 0 9 = true
      · by_cases i2 : inB (p k).l 1 9999 = true
        · have l1 : 1 ≤ (p k).l ∧ (p k).l ≤ 9999 := by simpa [inB] using i2
          obtain ⟨l1, l2⟩ := l1
          by_cases i3 : inB (p k).m ((p k).l + 1) 9999 = true
          · have m1 : (p k).l + 1 ≤ (p k).m ∧ (p k).m ≤ 9999 := by simpa [inB] using i3
            obtain ⟨m1, m2⟩ := m1
            by_cases i4 : inB (p k).h ((p k).m + 1) 9999 = true
            · go_wp2_with (go_at_call 63; refine (l6In_any _ _ _ _).mono ?_; rintro e w' ⟨rfl, rfl⟩)
              go_roundw
              case rel =>
                refine ⟨k + 1, by omega, by go_num, fun j hj => ?_, ?_⟩
                · by_cases e : j = k
                  · subst e; simp [inB] at i1 i2 i3 i4; exact ⟨⟨by omega, by omega⟩, by omega, by omega, by omega, by omega⟩
                  · exact hA.out j (by omega)
                · refine hB.trans (Below.mono (B := wr.heap.size) ?_ hB.size)
                  repeat (first | (with_reducible exact Below.refl _ _) | (with_reducible refine Bal ?_ _) | (with_reducible refine Below.drew ?_) | (with_reducible refine below_drewN ?_ _) | (with_reducible refine Bset ?_ ?_ _; focus (first | (with_reducible exact Nat.le_refl _) | (simp; done) | (simp; omega) | omega)) | (with_reducible refine Bt ?_ (by assumption)) | (with_reducible refine Bp (g := g) ?_ (by assumption) (by assumption)))
              case measure => simp [intOf]; omega
            · have i4' : inB (p k).h ((p k).m + 1) 9999 = false := by simpa using i4
              clear i4
              go_wp2_with (go_at_call 63; refine (l6In_any _ _ _ _).mono ?_; rintro e w' ⟨rfl, rfl⟩)
              go_ret
              refine ⟨ret_bool (decide_eq_false fun h => by have := h.2 k hkn; unfold DmOk at this; simp [inB] at i4'; omega).symm, ?_⟩
              refine hB.trans (Below.mono (B := wr.heap.size) ?_ hB.size)
              repeat (first | (with_reducible exact Below.refl _ _) | (with_reducible refine Bal ?_ _) | (with_reducible refine Below.drew ?_) | (with_reducible refine below_drewN ?_ _) | (with_reducible refine Bset ?_ ?_ _; focus (first | (with_reducible exact Nat.le_refl _) | (simp; done) | (simp; omega) | omega)) | (with_reducible refine Bt ?_ (by assumption)) | (with_reducible refine Bp (g := g) ?_ (by assumption) (by assumption)))
          · have i3' : inB (p k).m ((p k).l + 1) 9999 = false := by simpa using i3
            clear i3
            go_wp2_with (go_at_call 63; refine (l6In_any _ _ _ _).mono ?_; rintro e w' ⟨rfl, rfl⟩)
            go_ret
            refine ⟨ret_bool (decide_eq_false fun h => by have := h.2 k hkn; unfold DmOk at this; simp [inB] at i3'; omega).symm, ?_⟩
            refine hB.trans (Below.mono (B := wr.heap.size) ?_ hB.size)
            repeat (first | (with_reducible exact Below.refl _ _) | (with_reducible refine Bal ?_ _) | (with_reducible refine Below.drew ?_) | (with_reducible refine below_drewN ?_ _) | (with_reducible refine Bset ?_ ?_ _; focus (first | (with_reducible exact Nat.le_refl _) | (simp; done) | (simp; omega) | omega)) | (with_reducible refine Bt ?_ (by assumption)) | (with_reducible refine Bp (g := g) ?_ (by assumption) (by assumption)))
        · have i2' : inB (p k).l 1 9999 = false := by simpa using i2
          clear i2
          go_wp2_with (go_at_call 63; refine (l6In_any _ _ _ _).mono ?_; rintro e w' ⟨rfl, rfl⟩)
          go_ret
          refine ⟨ret_bool (decide_eq_false fun h => by have := h.2 k hkn; unfold DmOk at this; simp [inB] at i2'; omega).symm, ?_⟩
          refine hB.trans (Below.mono (B := wr.heap.size) ?_ hB.size)
          repeat (first | (with_reducible exact Below.refl _ _) | (with_reducible refine Bal ?_ _) | (with_reducible refine Below.drew ?_) | (with_reducible refine below_drewN ?_ _) | (with_reducible refine Bset ?_ ?_ _; focus (first | (with_reducible exact Nat.le_refl _) | (simp; done) | (simp; omega) | omega)) | (with_reducible refine Bt ?_ (by assumption)) | (with_reducible refine Bp (g := g) ?_ (by assumption) (by assumption)))
      · have i1' : inB (p k).w 0 9 = false := by simpa using i1
        clear i1
        go_wp2_with (go_at_call 63; refine (l6In_any _ _ _ _).mono ?_; rintro e w' ⟨rfl, rfl⟩)
        go_ret
        refine ⟨ret_bool (decide_eq_false fun h => by have := h.2 k hkn; unfold DmOk at this; simp [inB] at i1'; omega).symm, ?_⟩
        refine hB.trans (Below.mono (B := wr.heap.size) ?_ hB.size)
        repeat (first | (with_reducible exact Below.refl _ _) | (with_reducible refine Bal ?_ _) | (with_reducible refine Below.drew ?_) | (with_reducible refine below_drewN ?_ _) | (with_reducible refine Bset ?_ ?_ _; focus (first | (with_reducible exact Nat.le_refl _) | (simp; done) | (simp; omega) | omega)) | (with_reducible refine Bt ?_ (by assumption)) | (with_reducible refine Bp (g := g) ?_ (by assumption) (by assumption)))
    · obtain rfl : k = n := by omega
      go_wp2
      go_ret
      refine ⟨ret_bool ?_, hB⟩
      by_cases h6 : k ≤ 6
      · rw [show dmsB k p = true from decide_eq_true ⟨h6, fun j hj => hA.out j hj⟩]; simp; omega
      · rw [show dmsB k p = false from decide_eq_false fun h => h6 h.1]; simp; omega
end Go.Proofs.Ytmidpodoapggnaa
