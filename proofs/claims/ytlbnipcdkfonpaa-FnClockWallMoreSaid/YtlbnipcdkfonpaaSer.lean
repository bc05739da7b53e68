/- The serial numbers, the stats and the clocks: each function of the program and of the reference returns what one plain Lean function says, and leaves the world as it was. -/
import Derived.Test.YtlbnipcdkfonpaaRows
import Derived.WalkKit
import Derived.ProofKit
import Derived.BigQuiet
import Derived.Deep.QuietTactic
import Derived.Outline
import Derived.Lib.Hide
namespace Go.Proofs.Ytlbnipcdkfonpaa
open Go.RowKit
set_option linter.unusedVariables false
set_option linter.unusedSimpArgs false

def inB (n lo hi : Int) : Bool := decide (lo ≤ n) && decide (n ≤ hi)
theorem inB_t {n lo hi : Int} (h1 : lo ≤ n) (h2 : n ≤ hi) : inB n lo hi = true := by simp [inB, h1, h2]
theorem inB_f1 {n lo hi : Int} (h1 : n < lo) : inB n lo hi = false := by simp [inB]; omega
theorem inB_f2 {n lo hi : Int} (h2 : hi < n) : inB n lo hi = false := by simp [inB]; omega
theorem ret_bool {a b : Bool} (h : a = b) : Ending.returned (.bool a) = .returned (.bool b) := by rw [h]
theorem ret_int {k : IntKind} {a b : Int} (h : a = b) : Ending.returned (.int k a) = .returned (.int k b) := by rw [h]
theorem ret_ib {k : IntKind} {a b : Int} {x y : Bool} (h : a = b) (h2 : x = y) : Ending.returned (.tuple #[.int k a, .bool x]) = .returned (.tuple #[.int k b, .bool y]) := by rw [h, h2]

theorem bcell {W w1 : World} (hb : Below W.heap.size W w1) : (∀ b o, b < W.heap.size → w1.cell? ⟨b, o, none⟩ = W.cell? ⟨b, o, none⟩) ∧ (∀ b o, b < W.heap.size → w1.frozen? ⟨b, o, none⟩ = W.frozen? ⟨b, o, none⟩) :=
  ⟨fun b o h => hb.cell (p := ⟨b, o, none⟩) h, fun b o h => hb.frozen (p := ⟨b, o, none⟩) h⟩

theorem Bt {a b c : World} (h : Below a.heap.size a b) (k : Below b.heap.size b c) : Below a.heap.size a c := h.trans (k.mono h.size)
theorem Ba (w : World) (o : Obj) : Below w.heap.size w (w.alloc o) := (Below.refl _ _).alloc (Nat.le_refl _) _
theorem Bal {a w : World} (h : Below a.heap.size a w) (o : Obj) : Below a.heap.size a (w.alloc o) := h.alloc h.size o
theorem Bset {a w : World} {p : Addr} (hp : a.heap.size ≤ p.block) (h : Below a.heap.size a w) (u : Value) : Below a.heap.size a (w.setCell p u) := h.setCell hp u
theorem below_drewN {B : Nat} {a w : World} (h : Below B a w) (n : Nat) : Below B a (w.drewN n) := ⟨h.os, h.tape, h.output, h.size, h.block⟩
theorem in64 {n : Int} (h : (Lit.int .i64 n).wf = true) : -9223372036854775808 ≤ n ∧ n ≤ 9223372036854775807 := by
  simpa [Lit.wf, IntKind.min, IntKind.max, IntKind.signed, IntKind.bits] using h

theorem l6In_any (n lo hi : Int) (w : World) : Calls Try.prog 53 #[.int .i64 n, .int .i64 lo, .int .i64 hi] w fun e w' => e = .returned (.bool (inB n lo hi)) ∧ w = w' := by
  by_cases h1 : lo ≤ n
  · by_cases h2 : n ≤ hi
    · go_enter Try.func53, Try.ntmps53
      go_wp2
      go_ret
      exact ⟨ret_bool (inB_t h1 h2).symm, rfl⟩
    · go_enter Try.func53, Try.ntmps53
      go_wp2
      go_ret
      exact ⟨ret_bool (inB_f2 (by omega)).symm, rfl⟩
  · go_enter Try.func53, Try.ntmps53
    go_wp2
    go_ret
    exact ⟨ret_bool (inB_f1 (by omega)).symm, rfl⟩

/-! ### serial numbers -/
def OkS (a : Int) : Prop := 0 ≤ a ∧ a ≤ 65535
instance (a : Int) : Decidable (OkS a) := inferInstanceAs (Decidable (_ ∧ _))
def addF (a n : Int) : Int := if OkS a then (a + n) % 65536 else -1
def diffF (a b : Int) : Int := (a - b + 98304) % 65536 - 32768
def diffV (a b : Int) : Int := if OkS a ∧ OkS b then diffF a b else 0
def diffO (a b : Int) : Bool := decide (OkS a ∧ OkS b)
def lessO (a b : Int) : Bool := decide (OkS a ∧ OkS b) && decide (diffF a b < 0)
theorem diffF_bd (a b : Int) : -32768 ≤ diffF a b ∧ diffF a b ≤ 32767 := by unfold diffF; omega
def In64 (n : Int) : Prop := -9223372036854775808 ≤ n ∧ n ≤ 9223372036854775807

theorem rest_add (a n : Int) (h0 : 0 ≤ a) (h1 : a ≤ 65535) : (a + n.tmod 65536 + 65536).tmod 65536 = (a + n) % 65536 := by
  have := Int.tmod_lt_of_pos n (b := 65536) (by omega)
  have := Int.lt_tmod_of_pos n (b := 65536) (by omega)
  rw [Int.tmod_eq_emod_of_nonneg (by omega)]
  have e : n.tmod 65536 = n % 65536 ∨ n.tmod 65536 = n % 65536 - 65536 := by rw [Int.tmod_eq_emod]; split <;> simp
  omega
theorem tmod_bd (n : Int) : -65536 < n.tmod 65536 ∧ n.tmod 65536 < 65536 :=
  ⟨Int.lt_tmod_of_pos n (by omega), Int.tmod_lt_of_pos n (by omega)⟩

theorem addF_yes {a n : Int} (h0 : 0 ≤ a) (h1 : a < 65536) : addF a n = (a + n) % 65536 := by unfold addF; rw [if_pos (show OkS a by unfold OkS; omega)]
theorem addF_no {a n : Int} (h : ¬ (0 ≤ a ∧ a < 65536)) : addF a n = -1 := by unfold addF; rw [if_neg]; unfold OkS; omega
theorem tmod_emod (n : Int) : n.tmod 65536 = n % 65536 ∨ n.tmod 65536 = n % 65536 - 65536 := by rw [Int.tmod_eq_emod]; split <;> simp
theorem l1Rest_eq (n : Int) : (n.tmod 65536 + 65536).tmod 65536 = n % 65536 := by
  have := tmod_bd n
  have := tmod_emod n
  rw [Int.tmod_eq_emod_of_nonneg (by omega)]
  omega

theorem iadd_any (a n : Int) (w : World) (hn : In64 n) :
    Calls Try.prog 17 #[.int .i64 a, .int .i64 n] w fun e w' => e = .returned (.int .i64 (addF a n)) ∧ w = w' := by
  obtain ⟨b1, b2⟩ := tmod_bd n
  obtain ⟨n1, n2⟩ := hn
  by_cases h0 : 0 ≤ a
  · by_cases h1 : a < 65536
    · have H := (rest_add a n h0 (by omega)).trans (addF_yes h0 h1).symm
      go_enter Try.func17, Try.ntmps17
      go_wp2
      go_ret
      exact ⟨rfl, rfl⟩
    · go_enter Try.func17, Try.ntmps17
      go_wp2
      go_ret
      exact ⟨ret_int (addF_no (by omega)).symm, rfl⟩
  · go_enter Try.func17, Try.ntmps17
    go_wp2
    go_ret
    exact ⟨ret_int (addF_no (by omega)).symm, rfl⟩

theorem l1Rest_any (n : Int) (w : World) :
    Calls Try.prog 48 #[.int .i64 n] w fun e w' => e = .returned (.int .i64 (n % 65536)) ∧ w = w' := by
  obtain ⟨b1, b2⟩ := tmod_bd n
  have H := l1Rest_eq n
  go_enter Try.func48, Try.ntmps48
  go_wp2
  go_ret
  exact ⟨rfl, rfl⟩
theorem l1Serial_any (a : Int) (w : World) :
    Calls Try.prog 47 #[.int .i64 a] w fun e w' => e = .returned (.bool (inB a 0 65535)) ∧ w = w' := by
  go_enter Try.func47, Try.ntmps47
  go_wp2_with (go_at_call 53; refine (l6In_any _ _ _ _).mono ?_; rintro e w' ⟨rfl, rfl⟩)
  go_ret
  exact ⟨rfl, rfl⟩
theorem sadd_any (a n : Int) (w : World) :
    Calls Try.prog 18 #[.int .i64 a, .int .i64 n] w fun e w' => e = .returned (.int .i64 (addF a n)) ∧ w = w' := by
  by_cases h : 0 ≤ a ∧ a < 65536
  · have hb := inB_t h.1 (show a ≤ 65535 by omega)
    have e1 : (a + n % 65536) % 65536 = addF a n := by rw [addF_yes h.1 h.2]; omega
    obtain ⟨g1, g2⟩ := h
    go_enter Try.func18, Try.ntmps18
    go_wp2_with (first
      | (go_at_call 47; refine (l1Serial_any _ _).mono ?_; rintro e w' ⟨rfl, rfl⟩)
      | (go_at_call 48; refine (l1Rest_any _ _).mono ?_; rintro e w' ⟨rfl, rfl⟩))
    go_ret
    exact ⟨rfl, rfl⟩
  · have hb : inB a 0 65535 = false := by simp [inB]; omega
    go_enter Try.func18, Try.ntmps18
    go_wp2_with (go_at_call 47; refine (l1Serial_any _ _).mono ?_; rintro e w' ⟨rfl, rfl⟩)
    go_ret
    exact ⟨ret_int (addF_no h).symm, rfl⟩

theorem diff_tmod (a b : Int) (h0 : 0 ≤ a) (h1 : a < 65536) (g0 : 0 ≤ b) (g1 : b < 65536) : (a - b + 65536 + 32768) % 65536 - 32768 = diffF a b := by unfold diffF; omega
theorem diffV_yes {a b : Int} (h0 : 0 ≤ a) (h1 : a < 65536) (g0 : 0 ≤ b) (g1 : b < 65536) : diffV a b = diffF a b ∧ diffO a b = true := by
  have h : OkS a ∧ OkS b := by unfold OkS; omega
  unfold diffV diffO
  rw [if_pos h]
  exact ⟨rfl, decide_eq_true h⟩
theorem diffV_no {a b : Int} (h : ¬ ((0 ≤ a ∧ a < 65536) ∧ 0 ≤ b ∧ b < 65536)) : diffV a b = 0 ∧ diffO a b = false := by
  have h : ¬ (OkS a ∧ OkS b) := by unfold OkS; omega
  unfold diffV diffO
  rw [if_neg h]
  exact ⟨rfl, decide_eq_false h⟩
theorem ret_ib' {k : IntKind} {a b : Int} {x y : Bool} (h : a = b ∧ x = y) : Ending.returned (.tuple #[.int k b, .bool y]) = .returned (.tuple #[.int k a, .bool x]) := by rw [h.1, h.2]

theorem idiff_any (a b : Int) (w : World) :
    Calls Try.prog 20 #[.int .i64 a, .int .i64 b] w fun e w' => e = .returned (.tuple #[.int .i64 (diffV a b), .bool (diffO a b)]) ∧ w = w' := by
  by_cases h0 : 0 ≤ a
  · by_cases h1 : a < 65536
    · by_cases g0 : 0 ≤ b
      · by_cases g1 : b < 65536
        · have H := diff_tmod a b h0 h1 g0 g1
          have H2 : (a - b + 65536 + 32768).tmod 65536 = (a - b + 65536 + 32768) % 65536 := Int.tmod_eq_emod_of_nonneg (by omega)
          go_enter Try.func20, Try.ntmps20
          go_wp2
          go_ret2
          exact ⟨ret_ib' (diffV_yes h0 h1 g0 g1), rfl⟩
        · go_enter Try.func20, Try.ntmps20
          go_wp2
          go_ret2
          exact ⟨ret_ib' (diffV_no (by omega)), rfl⟩
      · go_enter Try.func20, Try.ntmps20
        go_wp2
        go_ret2
        exact ⟨ret_ib' (diffV_no (by omega)), rfl⟩
    · go_enter Try.func20, Try.ntmps20
      go_wp2
      go_ret2
      exact ⟨ret_ib' (diffV_no (by omega)), rfl⟩
  · go_enter Try.func20, Try.ntmps20
    go_wp2
    go_ret2
    exact ⟨ret_ib' (diffV_no (by omega)), rfl⟩
theorem l1Diff_lo (a b : Int) (h0 : 0 ≤ a) (h1 : a < 65536) (g0 : 0 ≤ b) (g1 : b < 65536) (h : (a - b) % 65536 < 32768) : (a - b) % 65536 = diffF a b := by unfold diffF; omega
theorem l1Diff_hi (a b : Int) (h0 : 0 ≤ a) (h1 : a < 65536) (g0 : 0 ≤ b) (g1 : b < 65536) (h : 32768 ≤ (a - b) % 65536) : (a - b) % 65536 - 65536 = diffF a b := by unfold diffF; omega

theorem l1Diff_any (a b : Int) (w : World) (h0 : 0 ≤ a) (h1 : a < 65536) (g0 : 0 ≤ b) (g1 : b < 65536) :
    Calls Try.prog 51 #[.int .i64 a, .int .i64 b] w fun e w' => e = .returned (.int .i64 (diffF a b)) ∧ w = w' := by
  by_cases h : (a - b) % 65536 < 32768
  · go_enter Try.func51, Try.ntmps51
    go_wp2_with (go_at_call 48; refine (l1Rest_any _ _).mono ?_; rintro e w' ⟨rfl, rfl⟩)
    go_ret
    exact ⟨ret_int (l1Diff_lo a b h0 h1 g0 g1 h), rfl⟩
  · have h' : 32768 ≤ (a - b) % 65536 := by omega
    clear h
    go_enter Try.func51, Try.ntmps51
    go_wp2_with (go_at_call 48; refine (l1Rest_any _ _).mono ?_; rintro e w' ⟨rfl, rfl⟩)
    go_ret
    exact ⟨ret_int (l1Diff_hi a b h0 h1 g0 g1 h'), rfl⟩
theorem sdiff_any (a b : Int) (w : World) :
    Calls Try.prog 21 #[.int .i64 a, .int .i64 b] w fun e w' => e = .returned (.tuple #[.int .i64 (diffV a b), .bool (diffO a b)]) ∧ w = w' := by
  by_cases h : 0 ≤ a ∧ a < 65536
  · have hb := inB_t h.1 (show a ≤ 65535 by omega)
    by_cases g : 0 ≤ b ∧ b < 65536
    · have gb := inB_t g.1 (show b ≤ 65535 by omega)
      go_enter Try.func21, Try.ntmps21
      go_wp2_with (first
        | (go_at_call 47; refine (l1Serial_any _ _).mono ?_; rintro e w' ⟨rfl, rfl⟩)
        | (go_at_call 51; refine (l1Diff_any _ _ _ h.1 h.2 g.1 g.2).mono ?_; rintro e w' ⟨rfl, rfl⟩))
      go_ret2
      exact ⟨ret_ib' (diffV_yes h.1 h.2 g.1 g.2), rfl⟩
    · have gb : inB b 0 65535 = false := by simp [inB]; omega
      go_enter Try.func21, Try.ntmps21
      go_wp2_with (go_at_call 47; refine (l1Serial_any _ _).mono ?_; rintro e w' ⟨rfl, rfl⟩)
      go_ret2
      exact ⟨ret_ib' (diffV_no (fun x => g x.2)), rfl⟩
  · have hb : inB a 0 65535 = false := by simp [inB]; omega
    go_enter Try.func21, Try.ntmps21
    go_wp2_with (go_at_call 47; refine (l1Serial_any _ _).mono ?_; rintro e w' ⟨rfl, rfl⟩)
    go_ret2
    exact ⟨ret_ib' (diffV_no (fun x => h x.1)), rfl⟩

theorem lessO_yes {a b : Int} (h0 : 0 ≤ a) (h1 : a < 65536) (g0 : 0 ≤ b) (g1 : b < 65536) : lessO a b = decide (diffF a b < 0) := by
  have h : OkS a ∧ OkS b := by unfold OkS; omega
  unfold lessO
  rw [decide_eq_true h, Bool.true_and]
theorem lessO_no {a b : Int} (h : ¬ ((0 ≤ a ∧ a < 65536) ∧ 0 ≤ b ∧ b < 65536)) : lessO a b = false := by
  have h : ¬ (OkS a ∧ OkS b) := by unfold OkS; omega
  unfold lessO
  rw [decide_eq_false h, Bool.false_and]

theorem iless_any (a b : Int) (w : World) :
    Calls Try.prog 23 #[.int .i64 a, .int .i64 b] w fun e w' => e = .returned (.bool (lessO a b)) ∧ w = w' := by
  by_cases h : (0 ≤ a ∧ a < 65536) ∧ 0 ≤ b ∧ b < 65536
  · obtain ⟨h1, h2⟩ := diffV_yes h.1.1 h.1.2 h.2.1 h.2.2
    by_cases hn : diffF a b < 0
    · go_enter Try.func23, Try.ntmps23
      go_wp2_with (go_at_call 20; refine (idiff_any _ _ _).mono ?_; rintro e w' ⟨rfl, rfl⟩)
      go_ret
      exact ⟨ret_bool (by first | exact (lessO_yes h.1.1 h.1.2 h.2.1 h.2.2).symm | (rw [lessO_yes h.1.1 h.1.2 h.2.1 h.2.2]; simp; omega)), rfl⟩
    · go_enter Try.func23, Try.ntmps23
      go_wp2_with (go_at_call 20; refine (idiff_any _ _ _).mono ?_; rintro e w' ⟨rfl, rfl⟩)
      go_ret
      exact ⟨ret_bool (by first | exact (lessO_yes h.1.1 h.1.2 h.2.1 h.2.2).symm | (rw [lessO_yes h.1.1 h.1.2 h.2.1 h.2.2]; simp; omega)), rfl⟩
  · obtain ⟨h1, h2⟩ := diffV_no h
    go_enter Try.func23, Try.ntmps23
    go_wp2_with (go_at_call 20; refine (idiff_any _ _ _).mono ?_; rintro e w' ⟨rfl, rfl⟩)
    go_ret
    exact ⟨ret_bool (lessO_no h).symm, rfl⟩
theorem sless_any (a b : Int) (w : World) :
    Calls Try.prog 24 #[.int .i64 a, .int .i64 b] w fun e w' => e = .returned (.bool (lessO a b)) ∧ w = w' := by
  by_cases h : 0 ≤ a ∧ a < 65536
  · have hb := inB_t h.1 (show a ≤ 65535 by omega)
    by_cases g : 0 ≤ b ∧ b < 65536
    · have gb := inB_t g.1 (show b ≤ 65535 by omega)
      by_cases hn : diffF a b < 0
      all_goals
        go_enter Try.func24, Try.ntmps24
        go_wp2_with (first
          | (go_at_call 47; refine (l1Serial_any _ _).mono ?_; rintro e w' ⟨rfl, rfl⟩)
          | (go_at_call 51; refine (l1Diff_any _ _ _ h.1 h.2 g.1 g.2).mono ?_; rintro e w' ⟨rfl, rfl⟩))
        go_ret
        exact ⟨ret_bool (by first | exact (lessO_yes h.1 h.2 g.1 g.2).symm | (rw [lessO_yes h.1 h.2 g.1 g.2]; simp; omega)), rfl⟩
    · have gb : inB b 0 65535 = false := by simp [inB]; omega
      go_enter Try.func24, Try.ntmps24
      go_wp2_with (go_at_call 47; refine (l1Serial_any _ _).mono ?_; rintro e w' ⟨rfl, rfl⟩)
      go_ret
      exact ⟨ret_bool (lessO_no (fun x => g x.2)).symm, rfl⟩
  · have hb : inB a 0 65535 = false := by simp [inB]; omega
    go_enter Try.func24, Try.ntmps24
    go_wp2_with (go_at_call 47; refine (l1Serial_any _ _).mono ?_; rintro e w' ⟨rfl, rfl⟩)
    go_ret
    exact ⟨ret_bool (lessO_no (fun x => h x.1)).symm, rfl⟩

/-! ### wide numbers -/
def wideC (near a : Int) : Int := near + diffF a (near % 65536)
def OkWide (near a : Int) : Prop := (0 ≤ near ∧ near ≤ 999999) ∧ (0 ≤ a ∧ a < 65536) ∧ 0 ≤ wideC near a ∧ wideC near a ≤ 999999
instance (near a : Int) : Decidable (OkWide near a) := inferInstanceAs (Decidable (_ ∧ _))
def wideV (near a : Int) : Int := if OkWide near a then wideC near a else 0
def wideO (near a : Int) : Bool := decide (OkWide near a)
theorem wideV_yes {near a : Int} (h : OkWide near a) : wideV near a = wideC near a ∧ wideO near a = true := by
  unfold wideV wideO; rw [if_pos h]; exact ⟨rfl, decide_eq_true h⟩
theorem wideV_no {near a : Int} (h : ¬ OkWide near a) : wideV near a = 0 ∧ wideO near a = false := by
  unfold wideV wideO; rw [if_neg h]; exact ⟨rfl, decide_eq_false h⟩

theorem wideValid_any (n : Int) (w : World) : Calls Try.prog 52 #[.int .i64 n] w fun e w' => e = .returned (.bool (inB n 0 999999)) ∧ w = w' := by
  by_cases h1 : 0 ≤ n
  · by_cases h2 : n ≤ 999999
    · go_enter Try.func52, Try.ntmps52
      go_wp2
      go_ret
      exact ⟨ret_bool (inB_t h1 h2).symm, rfl⟩
    · go_enter Try.func52, Try.ntmps52
      go_wp2
      go_ret
      exact ⟨ret_bool (inB_f2 (by omega)).symm, rfl⟩
  · go_enter Try.func52, Try.ntmps52
    go_wp2
    go_ret
    exact ⟨ret_bool (inB_f1 (by omega)).symm, rfl⟩
theorem svalid_any (n : Int) (w : World) : Calls Try.prog 45 #[.int .i64 n] w fun e w' => e = .returned (.bool (inB n 0 65535)) ∧ w = w' := by
  by_cases h1 : 0 ≤ n
  · by_cases h2 : n < 65536
    · go_enter Try.func45, Try.ntmps45
      go_wp2
      go_ret
      exact ⟨ret_bool (inB_t h1 (by omega)).symm, rfl⟩
    · go_enter Try.func45, Try.ntmps45
      go_wp2
      go_ret
      exact ⟨ret_bool (inB_f2 (by omega)).symm, rfl⟩
  · go_enter Try.func45, Try.ntmps45
    go_wp2
    go_ret
    exact ⟨ret_bool (inB_f1 (by omega)).symm, rfl⟩
theorem since_any (a b : Int) (w : World) (h0 : 0 ≤ a) (h1 : a < 65536) (g0 : 0 ≤ b) (g1 : b < 65536) :
    Calls Try.prog 50 #[.int .i64 a, .int .i64 b] w fun e w' => e = .returned (.int .i64 (diffF a b)) ∧ w = w' := by
  have H := diff_tmod a b h0 h1 g0 g1
  have H2 : (a - b + 65536 + 32768).tmod 65536 = (a - b + 65536 + 32768) % 65536 := Int.tmod_eq_emod_of_nonneg (by omega)
  go_enter Try.func50, Try.ntmps50
  go_wp2
  go_ret
  exact ⟨rfl, rfl⟩
theorem iwide_any (near a : Int) (w : World) :
    Calls Try.prog 26 #[.int .i64 near, .int .i64 a] w fun e w' => e = .returned (.tuple #[.int .i64 (wideV near a), .bool (wideO near a)]) ∧ w = w' := by
  by_cases hn : 0 ≤ near ∧ near ≤ 999999
  · have hb := inB_t hn.1 hn.2
    by_cases h : 0 ≤ a ∧ a < 65536
    · have gb := inB_t h.1 (show a ≤ 65535 by omega)
      have m0 : 0 ≤ near % 65536 := by omega
      have m1 : near % 65536 < 65536 := by omega
      have d := diffF_bd a (near % 65536)
      have ho : inB (near + diffF a (near % 65536)) 0 999999 = wideO near a := by
        unfold wideO OkWide wideC inB
        simp [hn.1, hn.2, h.1, h.2]
      by_cases hw : OkWide near a
      · obtain ⟨r1, r2⟩ := wideV_yes hw
        rw [r2] at ho
        have R := Lib.hid (wideV_yes hw)
        clear r1 r2
        obtain ⟨n1, n2⟩ := hn
        go_enter Try.func26, Try.ntmps26
        go_wp2_with (first
          | (go_at_call 52; refine (wideValid_any _ _).mono ?_; rintro e w' ⟨rfl, rfl⟩)
          | (go_at_call 45; refine (svalid_any _ _).mono ?_; rintro e w' ⟨rfl, rfl⟩)
          | (go_at_call 50; refine (since_any _ _ _ h.1 h.2 m0 m1).mono ?_; rintro e w' ⟨rfl, rfl⟩))
        go_ret2
        exact ⟨ret_ib' R.out, rfl⟩
      · obtain ⟨r1, r2⟩ := wideV_no hw
        rw [r2] at ho
        have R := Lib.hid (wideV_no hw)
        clear r1 r2
        obtain ⟨n1, n2⟩ := hn
        go_enter Try.func26, Try.ntmps26
        go_wp2_with (first
          | (go_at_call 52; refine (wideValid_any _ _).mono ?_; rintro e w' ⟨rfl, rfl⟩)
          | (go_at_call 45; refine (svalid_any _ _).mono ?_; rintro e w' ⟨rfl, rfl⟩)
          | (go_at_call 50; refine (since_any _ _ _ h.1 h.2 m0 m1).mono ?_; rintro e w' ⟨rfl, rfl⟩))
        go_ret2
        exact ⟨ret_ib' R.out, rfl⟩
    · have gb : inB a 0 65535 = false := by simp [inB]; omega
      go_enter Try.func26, Try.ntmps26
      go_wp2_with (first
        | (go_at_call 52; refine (wideValid_any _ _).mono ?_; rintro e w' ⟨rfl, rfl⟩)
        | (go_at_call 45; refine (svalid_any _ _).mono ?_; rintro e w' ⟨rfl, rfl⟩))
      go_ret2
      exact ⟨ret_ib' (wideV_no (fun x => h x.2.1)), rfl⟩
  · have hb : inB near 0 999999 = false := by simp [inB]; omega
    go_enter Try.func26, Try.ntmps26
    go_wp2_with (first
      | (go_at_call 52; refine (wideValid_any _ _).mono ?_; rintro e w' ⟨rfl, rfl⟩)
      | (go_at_call 45; refine (svalid_any _ _).mono ?_; rintro e w' ⟨rfl, rfl⟩))
    go_ret2
    exact ⟨ret_ib' (wideV_no (fun x => hn x.1)), rfl⟩
theorem swide_any (near a : Int) (w : World) :
    Calls Try.prog 27 #[.int .i64 near, .int .i64 a] w fun e w' => e = .returned (.tuple #[.int .i64 (wideV near a), .bool (wideO near a)]) ∧ w = w' := by
  by_cases hn : 0 ≤ near ∧ near ≤ 999999
  · have hb := inB_t hn.1 hn.2
    by_cases h : 0 ≤ a ∧ a < 65536
    · have gb := inB_t h.1 (show a ≤ 65535 by omega)
      have m0 : 0 ≤ near % 65536 := by omega
      have m1 : near % 65536 < 65536 := by omega
      have d := diffF_bd a (near % 65536)
      have ho : inB (near + diffF a (near % 65536)) 0 999999 = wideO near a := by
        unfold wideO OkWide wideC inB
        simp [hn.1, hn.2, h.1, h.2]
      by_cases hw : OkWide near a
      · obtain ⟨r1, r2⟩ := wideV_yes hw
        rw [r2] at ho
        have R := Lib.hid (wideV_yes hw)
        clear r1 r2
        obtain ⟨n1, n2⟩ := hn
        go_enter Try.func27, Try.ntmps27
        go_wp2_with (first
          | (go_at_call 53; refine (l6In_any _ _ _ _).mono ?_; rintro e w' ⟨rfl, rfl⟩)
          | (go_at_call 47; refine (l1Serial_any _ _).mono ?_; rintro e w' ⟨rfl, rfl⟩)
          | (go_at_call 48; refine (l1Rest_any _ _).mono ?_; rintro e w' ⟨rfl, rfl⟩)
          | (go_at_call 51; refine (l1Diff_any _ _ _ h.1 h.2 m0 m1).mono ?_; rintro e w' ⟨rfl, rfl⟩))
        go_ret2
        exact ⟨ret_ib' R.out, rfl⟩
      · obtain ⟨r1, r2⟩ := wideV_no hw
        rw [r2] at ho
        have R := Lib.hid (wideV_no hw)
        clear r1 r2
        obtain ⟨n1, n2⟩ := hn
        go_enter Try.func27, Try.ntmps27
        go_wp2_with (first
          | (go_at_call 53; refine (l6In_any _ _ _ _).mono ?_; rintro e w' ⟨rfl, rfl⟩)
          | (go_at_call 47; refine (l1Serial_any _ _).mono ?_; rintro e w' ⟨rfl, rfl⟩)
          | (go_at_call 48; refine (l1Rest_any _ _).mono ?_; rintro e w' ⟨rfl, rfl⟩)
          | (go_at_call 51; refine (l1Diff_any _ _ _ h.1 h.2 m0 m1).mono ?_; rintro e w' ⟨rfl, rfl⟩))
        go_ret2
        exact ⟨ret_ib' R.out, rfl⟩
    · have gb : inB a 0 65535 = false := by simp [inB]; omega
      go_enter Try.func27, Try.ntmps27
      go_wp2_with (first
        | (go_at_call 53; refine (l6In_any _ _ _ _).mono ?_; rintro e w' ⟨rfl, rfl⟩)
        | (go_at_call 47; refine (l1Serial_any _ _).mono ?_; rintro e w' ⟨rfl, rfl⟩))
      go_ret2
      exact ⟨ret_ib' (wideV_no (fun x => h x.2.1)), rfl⟩
  · have hb : inB near 0 999999 = false := by simp [inB]; omega
    go_enter Try.func27, Try.ntmps27
    go_wp2_with (first
      | (go_at_call 53; refine (l6In_any _ _ _ _).mono ?_; rintro e w' ⟨rfl, rfl⟩)
      | (go_at_call 47; refine (l1Serial_any _ _).mono ?_; rintro e w' ⟨rfl, rfl⟩))
    go_ret2
    exact ⟨ret_ib' (wideV_no (fun x => hn x.1)), rfl⟩
end Go.Proofs.Ytlbnipcdkfonpaa
