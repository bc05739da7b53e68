/- The serial numbers, the stats and the clocks: each function of the program and of the reference returns what one plain Lean function says, and leaves the world as it was. -/
import Derived.Test.YtcdpalpoanlbmaaRows
import Derived.WalkKit
import Derived.ProofKit
import Derived.BigQuiet
import Derived.Deep.QuietTactic
import Derived.Outline
import Derived.Lib.Hide
namespace Go.Proofs.Ytcdpalpoanlbmaa
open Go.RowKit
set_option linter.unusedVariables false
set_option linter.unusedSimpArgs false

def inB (n lo hi : Int) : Bool := decide (lo ≤ n) && decide (n ≤ hi)
theorem inB_t {n lo hi : Int} (h1 : lo ≤ n) (h2 : n ≤ hi) : inB n lo hi = true := by simp [inB, h1, h2]
theorem inB_f1 {n lo hi : Int} (h1 : n < lo) : inB n lo hi = false := by simp [inB]; omega
theorem inB_f2 {n lo hi : Int} (h2 : hi < n) : inB n lo hi = false := by simp [inB]; omega
theorem ret_bool {a b : Bool} (h : a = b) : Ending.returned (.bool a) = .returned (.bool b) := by rw [h]
theorem ret_int {k : IntKind} {a b : Int} (h : a = b) : Ending.returned (.int k a) = .returned (.int k b) := by rw [h]
theorem ret_ib {k : IntKind} {a b : Int} {x y : Bool} (h : a = b) (h2 : x = y) : Ending.returned (.tuple #[.int k a, .bool x]) = .returned (.tuple #[.int k b, .bool y]) := by rw [h, h2]

theorem bcell {W w1 : World} (hb : Below W.heap.size W w1) : (∀ b o, b < W.heap.size → w1.cell? ⟨b, o, none⟩ = W.cell? ⟨b, o, none⟩) ∧ (∀ b o, b < W.heap.size → w1.frozen? ⟨b, o, none⟩ = W.frozen? ⟨b, o, none⟩) :=
  ⟨fun b o h => hb.cell (p := ⟨b, o, none⟩) h, fun b o h => hb.frozen (p := ⟨b, o, none⟩) h⟩

theorem Bt {a b c : World} (h : Below a.heap.size a b) (k : Below b.heap.size b c) : Below a.heap.size a c := h.trans (k.mono h.size)
theorem Ba (w : World) (o : Obj) : Below w.heap.size w (w.alloc o) := (Below.refl _ _).alloc (Nat.le_refl _) _
theorem Bal {a w : World} (h : Below a.heap.size a w) (o : Obj) : Below a.heap.size a (w.alloc o) := h.alloc h.size o
theorem Bset {a w : World} {p : Addr} (hp : a.heap.size ≤ p.block) (h : Below a.heap.size a w) (u : Value) : Below a.heap.size a (w.setCell p u) := h.setCell hp u
theorem below_drewN {B : Nat} {a w : World} (h : Below B a w) (n : Nat) : Below B a (w.drewN n) := ⟨h.os, h.tape, h.output, h.size, h.block⟩
theorem in64 {n : Int} (h : (Lit.int .i64 n).wf = true) : -9223372036854775808 ≤ n ∧ n ≤ 9223372036854775807 := by
  simpa [Lit.wf, IntKind.min, IntKind.max, IntKind.signed, IntKind.bits] using h

theorem l6In_any (n lo hi : Int) (w : World) : Calls Try.prog 28 #[.int .i64 n, .int .i64 lo, .int .i64 hi] w fun e w' => e = .returned (.bool (inB n lo hi)) ∧ w = w' := by
  by_cases h1 : lo ≤ n
  · by_cases h2 : n ≤ hi
    · go_enter Try.func28, Try.ntmps28
      go_wp2
      go_ret
      exact ⟨ret_bool (inB_t h1 h2).symm, rfl⟩
    · go_enter Try.func28, Try.ntmps28
      go_wp2
      go_ret
      exact ⟨ret_bool (inB_f2 (by omega)).symm, rfl⟩
  · go_enter Try.func28, Try.ntmps28
    go_wp2
    go_ret
    exact ⟨ret_bool (inB_f1 (by omega)).symm, rfl⟩

/-! ### serial numbers -/
def OkS (a : Int) : Prop := 0 ≤ a ∧ a ≤ 65535
instance (a : Int) : Decidable (OkS a) := inferInstanceAs (Decidable (_ ∧ _))
def addF (a n : Int) : Int := if OkS a then (a + n) % 65536 else -1
def diffF (a b : Int) : Int := (a - b + 98304) % 65536 - 32768
def diffV (a b : Int) : Int := if OkS a ∧ OkS b then diffF a b else 0
def diffO (a b : Int) : Bool := decide (OkS a ∧ OkS b)
def lessO (a b : Int) : Bool := decide (OkS a ∧ OkS b) && decide (diffF a b < 0)
theorem diffF_bd (a b : Int) : -32768 ≤ diffF a b ∧ diffF a b ≤ 32767 := by unfold diffF; omega
def In64 (n : Int) : Prop := -9223372036854775808 ≤ n ∧ n ≤ 9223372036854775807

theorem rest_add (a n : Int) (h0 : 0 ≤ a) (h1 : a ≤ 65535) : (a + n.tmod 65536 + 65536).tmod 65536 = (a + n) % 65536 := by
  have := Int.tmod_lt_of_pos n (b := 65536) (by omega)
  have := Int.lt_tmod_of_pos n (b := 65536) (by omega)
  rw [Int.tmod_eq_emod_of_nonneg (by omega)]
  have e : n.tmod 65536 = n % 65536 ∨ n.tmod 65536 = n % 65536 - 65536 := by rw [Int.tmod_eq_emod]; split <;> simp
  omega
theorem tmod_bd (n : Int) : -65536 < n.tmod 65536 ∧ n.tmod 65536 < 65536 :=
  ⟨Int.lt_tmod_of_pos n (by omega), Int.tmod_lt_of_pos n (by omega)⟩

theorem addF_yes {a n : Int} (h0 : 0 ≤ a) (h1 : a < 65536) : addF a n = (a + n) % 65536 := by unfold addF; rw [if_pos (show OkS a by unfold OkS; omega)]
theorem addF_no {a n : Int} (h : ¬ (0 ≤ a ∧ a < 65536)) : addF a n = -1 := by unfold addF; rw [if_neg]; unfold OkS; omega
theorem tmod_emod (n : Int) : n.tmod 65536 = n % 65536 ∨ n.tmod 65536 = n % 65536 - 65536 := by rw [Int.tmod_eq_emod]; split <;> simp
theorem l1Rest_eq (n : Int) : (n.tmod 65536 + 65536).tmod 65536 = n % 65536 := by
  have := tmod_bd n
  have := tmod_emod n
  rw [Int.tmod_eq_emod_of_nonneg (by omega)]
  omega



theorem diff_tmod (a b : Int) (h0 : 0 ≤ a) (h1 : a < 65536) (g0 : 0 ≤ b) (g1 : b < 65536) : (a - b + 65536 + 32768) % 65536 - 32768 = diffF a b := by unfold diffF; omega
theorem diffV_yes {a b : Int} (h0 : 0 ≤ a) (h1 : a < 65536) (g0 : 0 ≤ b) (g1 : b < 65536) : diffV a b = diffF a b ∧ diffO a b = true := by
  have h : OkS a ∧ OkS b := by unfold OkS; omega
  unfold diffV diffO
  rw [if_pos h]
  exact ⟨rfl, decide_eq_true h⟩
theorem diffV_no {a b : Int} (h : ¬ ((0 ≤ a ∧ a < 65536) ∧ 0 ≤ b ∧ b < 65536)) : diffV a b = 0 ∧ diffO a b = false := by
  have h : ¬ (OkS a ∧ OkS b) := by unfold OkS; omega
  unfold diffV diffO
  rw [if_neg h]
  exact ⟨rfl, decide_eq_false h⟩
theorem ret_ib' {k : IntKind} {a b : Int} {x y : Bool} (h : a = b ∧ x = y) : Ending.returned (.tuple #[.int k b, .bool y]) = .returned (.tuple #[.int k a, .bool x]) := by rw [h.1, h.2]

theorem l1Diff_lo (a b : Int) (h0 : 0 ≤ a) (h1 : a < 65536) (g0 : 0 ≤ b) (g1 : b < 65536) (h : (a - b) % 65536 < 32768) : (a - b) % 65536 = diffF a b := by unfold diffF; omega
theorem l1Diff_hi (a b : Int) (h0 : 0 ≤ a) (h1 : a < 65536) (g0 : 0 ≤ b) (g1 : b < 65536) (h : 32768 ≤ (a - b) % 65536) : (a - b) % 65536 - 65536 = diffF a b := by unfold diffF; omega


theorem lessO_yes {a b : Int} (h0 : 0 ≤ a) (h1 : a < 65536) (g0 : 0 ≤ b) (g1 : b < 65536) : lessO a b = decide (diffF a b < 0) := by
  have h : OkS a ∧ OkS b := by unfold OkS; omega
  unfold lessO
  rw [decide_eq_true h, Bool.true_and]
theorem lessO_no {a b : Int} (h : ¬ ((0 ≤ a ∧ a < 65536) ∧ 0 ≤ b ∧ b < 65536)) : lessO a b = false := by
  have h : ¬ (OkS a ∧ OkS b) := by unfold OkS; omega
  unfold lessO
  rw [decide_eq_false h, Bool.false_and]


/-! ### wide numbers -/
def wideC (near a : Int) : Int := near + diffF a (near % 65536)
def OkWide (near a : Int) : Prop := (0 ≤ near ∧ near ≤ 999999) ∧ (0 ≤ a ∧ a < 65536) ∧ 0 ≤ wideC near a ∧ wideC near a ≤ 999999
instance (near a : Int) : Decidable (OkWide near a) := inferInstanceAs (Decidable (_ ∧ _))
def wideV (near a : Int) : Int := if OkWide near a then wideC near a else 0
def wideO (near a : Int) : Bool := decide (OkWide near a)
theorem wideV_yes {near a : Int} (h : OkWide near a) : wideV near a = wideC near a ∧ wideO near a = true := by
  unfold wideV wideO; rw [if_pos h]; exact ⟨rfl, decide_eq_true h⟩
theorem wideV_no {near a : Int} (h : ¬ OkWide near a) : wideV near a = 0 ∧ wideO near a = false := by
  unfold wideV wideO; rw [if_neg h]; exact ⟨rfl, decide_eq_false h⟩

end Go.Proofs.Ytcdpalpoanlbmaa
