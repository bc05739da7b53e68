/- Rows of packets that are held, and buffers: all is marked; the marks are read (printed by gen_hxm.py). -/
import Derived.Test.YtegdogamenoaiaaHxr
namespace Go.Proofs.Ytegdogamenoaiaa
open Go Go.RowKit
set_option linter.unusedVariables false
set_option linter.unusedSimpArgs false

/-- What stands at place i behind the marking. -/
def mkB (x : Int) : Bool := x % 3 == 0
def mkH (q : Nat) (i : Nat) : Hd := ⟨⟨(q : Int) + 7 * i, (q : Int) + 7 * i + 1, (q : Int) + 7 * i + 2, (q : Int) + 7 * i + 3, mkB ((q : Int) + 7 * i + 4), mkB ((q : Int) + 7 * i + 5)⟩, (q : Int) + 7 * i + 6⟩
set_option maxRecDepth 100000 in
set_option maxHeartbeats 8000000 in
theorem markHdS_any (w : World) {lo hi : Nat} {A : Option Addr} {n c : Nat} {p : Nat → Hd} (q : Nat) (h : RowOwn 54 w lo hi A n c 7 (HdF p)) (hn : n ≤ 1048576) (hq : q ≤ 1000000000) :
    Calls Try.prog 51 #[.slice A n c, .int .i64 q] w fun e w' => RowOwn 54 w' lo hi A n c 7 (HdF (mkH q)) ∧ e = .returned (.int .i64 ((q : Int) + 7 * n)) ∧ w.grownBy w' (Value.slice A n c).ownBlock ∧ w'.heap.size = w.heap.size := by
  have H := Lib.hid h
  clear h
  go_enter Try.func51, Try.ntmps51
  go_wp2
  go_loopw [1, 5] (fun q' i wr => ∃ k, k ≤ n ∧ i = .int .i64 (k : Nat) ∧ q' = .int .i64 ((q : Int) + 7 * k) ∧ RowOwn 54 wr lo hi A n c 7 (HdF fun j => if j < k then mkH q j else p j) ∧ w.grownBy wr (Value.slice A n c).ownBlock ∧ wr.heap.size = w.heap.size) (fun _ i _ => n - (intOf i).toNat)
  case atStart => exact ⟨0, Nat.zero_le _, rfl, by go_num, H.out.congr (RowF_congr (n := n) (by decide) fun i hi => by simp), World.grownBy.refl _ _, rfl⟩
  case round =>
    obtain ⟨k, hk, rfl, rfl, hO, hG, hs⟩ := hrel
    by_cases hkn : k < n
    · rcases hO.cases with ⟨_, e, _⟩ | ⟨g, rfl, hlo, _, hgl, _, hfz, hcl⟩
      · omega
      · skip
        have d0 := hcl (k * 7) (by omega)
        have d1 := hcl (k * 7 + 1) (by omega)
        have d2 := hcl (k * 7 + 2) (by omega)
        have d3 := hcl (k * 7 + 3) (by omega)
        have d4 := hcl (k * 7 + 4) (by omega)
        have d5 := hcl (k * 7 + 5) (by omega)
        have d6 := hcl (k * 7 + 6) (by omega)
        generalize HdF (fun j => if j < k then mkH q j else p j) (k * 7) = y0 at d0
        generalize HdF (fun j => if j < k then mkH q j else p j) (k * 7 + 1) = y1 at d1
        generalize HdF (fun j => if j < k then mkH q j else p j) (k * 7 + 2) = y2 at d2
        generalize HdF (fun j => if j < k then mkH q j else p j) (k * 7 + 3) = y3 at d3
        generalize HdF (fun j => if j < k then mkH q j else p j) (k * 7 + 4) = y4 at d4
        generalize HdF (fun j => if j < k then mkH q j else p j) (k * 7 + 5) = y5 at d5
        generalize HdF (fun j => if j < k then mkH q j else p j) (k * 7 + 6) = y6 at d6
        have f0 := hfz (k * 7)
        have f1 := hfz (k * 7 + 1)
        have f2 := hfz (k * 7 + 2)
        have f3 := hfz (k * 7 + 3)
        have f4 := hfz (k * 7 + 4)
        have f5 := hfz (k * 7 + 5)
        have f6 := hfz (k * 7 + 6)
        clear hcl hfz
        have HS := Lib.hid hs
        clear hs
        go_wp2
        go_roundw
        case rel =>
          refine ⟨k + 1, by omega, by go_num, by go_num, (seven_put hO).congr (RowF_congr (n := n) (by decide) fun i hi => ?_), seven_grown rfl hG, by simpa [World.setCell] using HS.out⟩
          unfold updE
          by_cases e : i = k
          · subst e
            simp only [if_pos, Nat.lt_succ_self]
            unfold mkH mkB
            simp
            refine ⟨⟨by omega, by omega, ?_, ?_⟩, by omega⟩
            · rw [show (q : Int) + 7 * i + 1 + 1 + 1 + 1 = (q : Int) + 7 * i + 4 by omega]
            · rw [show (q : Int) + 7 * i + 1 + 1 + 1 + 1 + 1 = (q : Int) + 7 * i + 5 by omega]
          · by_cases e2 : i < k
            · simp [e, e2, show i < k + 1 by omega]
            · simp [e, e2, show ¬ i < k + 1 by omega]
        case measure => simp [intOf]; omega
    · obtain rfl : k = n := by omega
      have HS := Lib.hid hs
      clear hs
      go_wp2
      go_ret
      exact ⟨hO.congr (RowF_congr (n := k) (by decide) fun i hi => by simp [hi]), rfl, hG, HS.out⟩
set_option maxRecDepth 100000 in
set_option maxHeartbeats 8000000 in
theorem heldHdS_any (w : World) {lo hi : Nat} {A : Option Addr} {n c : Nat} (q : Nat) (h : RowAt w lo hi A n 7 (HdF (mkH q))) (hn : n ≤ 1048576) (hq : q ≤ 1000000000) :
    Calls Try.prog 52 #[.slice A n c, .int .i64 q] w fun e w' => e = .returned (.int .i64 ((q : Int) + 7 * n)) ∧ w = w' := by
  have H := Lib.hid h
  clear h
  go_enter Try.func52, Try.ntmps52
  go_wp2
  go_loopw [1, 5] (fun q' i wr => ∃ k, k ≤ n ∧ i = .int .i64 (k : Nat) ∧ q' = .int .i64 ((q : Int) + 7 * k) ∧ w = wr) (fun _ i _ => n - (intOf i).toNat)
  case atStart => exact ⟨0, Nat.zero_le _, rfl, by go_num, rfl⟩
  case round =>
    obtain ⟨k, hk, rfl, rfl, rfl⟩ := hrel
    by_cases hkn : k < n
    · obtain ⟨b, off, rfl, _, hb2, c0, c1, c2, c3, c4, c5, c6⟩ := Hd_at H.out hkn
      unfold mkH mkB at c0 c1 c2 c3 c4 c5 c6
      simp only [show (q : Int) + 7 * k + 2 = (q : Int) + 7 * k + 1 + 1 by omega, show (q : Int) + 7 * k + 3 = (q : Int) + 7 * k + 1 + 1 + 1 by omega, show (q : Int) + 7 * k + 4 = (q : Int) + 7 * k + 1 + 1 + 1 + 1 by omega, show (q : Int) + 7 * k + 5 = (q : Int) + 7 * k + 1 + 1 + 1 + 1 + 1 by omega, show (q : Int) + 7 * k + 6 = (q : Int) + 7 * k + 1 + 1 + 1 + 1 + 1 + 1 by omega] at c0 c1 c2 c3 c4 c5 c6
      go_wp2
      go_roundw
      case rel => exact ⟨k + 1, by omega, by go_num, by go_num, by first | rfl | trivial⟩
      case measure => simp [intOf]; omega
    · obtain rfl : k = n := by omega
      go_wp2
      go_ret
      exact ⟨rfl, rfl⟩
set_option maxHeartbeats 4000000 in
theorem markBf_any (w : World) {lo hi : Nat} {A : Option Addr} {n c : Nat} {y d : Int} {p : Nat → Hd} (q : Nat) (h : RowOwn 54 w lo hi A n c 7 (HdF p)) (hi' : hi ≤ w.heap.size) (hn : n ≤ 1048576) (hq : q ≤ 1000000000) :
    Calls Try.prog 22 #[.agg #[.int .i64 y, .int .i64 d, .slice A n c], .int .i64 q] w fun e w' => RowOwn 54 w' lo hi A n c 7 (HdF (mkH q)) ∧ e = .returned (.int .i64 ((q : Int) + 7 * n)) ∧ w.grownBy w' (Value.slice A n c).ownBlock := by
  have HM := Lib.hid (fun W (hb : Below w.heap.size w W) => markHdS_any W (A := A) (n := n) (c := c) (p := p) q (h.below hi' hb) hn hq)
  clear h
  go_enter Try.func22, Try.ntmps22
  go_wp2_with fail
  refine (HM.out _ ?_).mono ?_
  focus (repeat (first | (with_reducible exact Below.refl _ _) | (with_reducible refine Bal ?_ _) | (with_reducible refine Below.drew ?_) | (with_reducible refine below_drewN ?_ _) | (with_reducible refine Bset ?_ ?_ _; focus (first | (with_reducible exact Nat.le_refl _) | (simp; done) | (simp; omega) | omega)) | (with_reducible refine Bt ?_ (by assumption)) | (with_reducible refine Bp (g := g) ?_ (by assumption) (by assumption))))
  rintro e w1 ⟨hO1, rfl, hG1, hs1⟩
  have HO := Lib.hid hO1
  have HG := Lib.hid hG1
  clear hO1 hG1 hs1
  go_wp2_with fail
  go_ret
  exact ⟨HO.out, rfl, (World.grownBy_alloc w _ _).trans HG.out⟩
set_option maxHeartbeats 4000000 in
theorem heldBf_any (w : World) {lo hi : Nat} {A : Option Addr} {n c : Nat} {y d : Int} (q : Nat) (h : RowAt w lo hi A n 7 (HdF (mkH q))) (hi' : hi ≤ w.heap.size) (hn : n ≤ 1048576) (hq : q ≤ 1000000000) :
    Calls Try.prog 23 #[.agg #[.int .i64 y, .int .i64 d, .slice A n c], .int .i64 q] w fun e w' => e = .returned (.int .i64 ((q : Int) + 7 * n)) ∧ Below w.heap.size w w' := by
  have HM := Lib.hid (fun W (hb : Below w.heap.size w W) => heldHdS_any W (A := A) (n := n) (c := c) q (h.below hi' hb) hn hq)
  clear h
  have hx : ¬ (q : Int) + 7 * n < 0 := by omega
  go_enter Try.func23, Try.ntmps23
  go_wp2_with fail
  refine (HM.out _ ?_).mono ?_
  focus (repeat (first | (with_reducible exact Below.refl _ _) | (with_reducible refine Bal ?_ _) | (with_reducible refine Below.drew ?_) | (with_reducible refine below_drewN ?_ _) | (with_reducible refine Bset ?_ ?_ _; focus (first | (with_reducible exact Nat.le_refl _) | (simp; done) | (simp; omega) | omega)) | (with_reducible refine Bt ?_ (by assumption)) | (with_reducible refine Bp (g := g) ?_ (by assumption) (by assumption))))
  rintro e w' ⟨rfl, rfl⟩
  go_wp2_with fail
  go_ret
  go_light
  refine ⟨rfl, ?_⟩
  repeat (first | (with_reducible exact Below.refl _ _) | (with_reducible refine Bal ?_ _) | (with_reducible refine Below.drew ?_) | (with_reducible refine below_drewN ?_ _) | (with_reducible refine Bset ?_ ?_ _; focus (first | (with_reducible exact Nat.le_refl _) | (simp; done) | (simp; omega) | omega)) | (with_reducible refine Bt ?_ (by assumption)) | (with_reducible refine Bp (g := g) ?_ (by assumption) (by assumption)))
end Go.Proofs.Ytegdogamenoaiaa
