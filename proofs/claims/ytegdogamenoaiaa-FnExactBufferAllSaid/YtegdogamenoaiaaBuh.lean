/- A buffer: what is due, what it holds; what put and take leave (plain). -/
import Derived.Test.YtegdogamenoaiaaBuu
namespace Go.Proofs.Ytegdogamenoaiaa
open Go Go.RowKit
set_option linter.unusedVariables false
set_option linter.unusedSimpArgs false
def dueB (y d : Int) (h : Hd) (now : Int) : Bool := decide (h.p.w = y ∨ d ≤ now - h.c)
set_option maxHeartbeats 2000000 in
theorem due_any (w : World) (y d now : Int) (A : Option Addr) (n c : Nat) (h : Hd) (h1 : 0 ≤ h.c ∧ h.c ≤ 99999) (h2 : 0 ≤ now ∧ now ≤ 100998) :
    Calls Try.prog 46 #[.agg #[.int .i64 y, .int .i64 d, .slice A n c], HdV h, .int .i64 now] w fun e w' => e = .returned (.bool (dueB y d h now)) ∧ Below w.heap.size w w' := by
  have wr : IntKind.i64.wrap (now - h.c) = now - h.c := IntWalk.i64_in _ (by omega)
  by_cases he : h.p.w = y
  · have HN := Lib.hid (show true = dueB y d h now from (decide_eq_true (Or.inl he)).symm)
    go_enter Try.func46, Try.ntmps46
    unfold HdV
    go_wp2_with fail
    go_ret
    go_light
    refine ⟨ret_bool HN.out, ?_⟩
    repeat (first | (with_reducible exact Below.refl _ _) | (with_reducible refine Bal ?_ _) | (with_reducible refine Below.drew ?_) | (with_reducible refine below_drewN ?_ _) | (with_reducible refine Bset ?_ ?_ _; focus (first | (with_reducible exact Nat.le_refl _) | (simp; done) | (simp; omega) | omega)) | (with_reducible refine Bt ?_ (by assumption)) | (with_reducible refine Bp (g := g) ?_ (by assumption) (by assumption)))
  · by_cases hd : d ≤ now - h.c
    · have HN := Lib.hid (show true = dueB y d h now from (decide_eq_true (Or.inr hd)).symm)
      go_enter Try.func46, Try.ntmps46
      unfold HdV
      go_wp2_with fail
      go_ret
      go_light
      refine ⟨ret_bool HN.out, ?_⟩
      repeat (first | (with_reducible exact Below.refl _ _) | (with_reducible refine Bal ?_ _) | (with_reducible refine Below.drew ?_) | (with_reducible refine below_drewN ?_ _) | (with_reducible refine Bset ?_ ?_ _; focus (first | (with_reducible exact Nat.le_refl _) | (simp; done) | (simp; omega) | omega)) | (with_reducible refine Bt ?_ (by assumption)) | (with_reducible refine Bp (g := g) ?_ (by assumption) (by assumption)))
    · have HN := Lib.hid (show false = dueB y d h now from (decide_eq_false (fun h => h.elim he hd)).symm)
      have hd' : now - h.c < d := by omega
      go_enter Try.func46, Try.ntmps46
      unfold HdV
      go_wp2_with fail
      go_ret
      go_light
      refine ⟨ret_bool ((show (h.p.w == y) = false by simpa using he).trans HN.out), ?_⟩
      repeat (first | (with_reducible exact Below.refl _ _) | (with_reducible refine Bal ?_ _) | (with_reducible refine Below.drew ?_) | (with_reducible refine below_drewN ?_ _) | (with_reducible refine Bset ?_ ?_ _; focus (first | (with_reducible exact Nat.le_refl _) | (simp; done) | (simp; omega) | omega)) | (with_reducible refine Bt ?_ (by assumption)) | (with_reducible refine Bp (g := g) ?_ (by assumption) (by assumption)))
def holdsB (n : Nat) (q : Nat → Hd) (v : Int) : Bool := decide (∃ i, i < n ∧ (q i).p.w = v)
set_option maxHeartbeats 4000000 in
theorem holds_any (w : World) (lo hi : Nat) (A : Option Addr) (n c : Nat) (y d v : Int) (q : Nat → Hd) (h : RowAt w lo hi A n 7 (HdF q)) (hi' : hi ≤ w.heap.size) (hn : n ≤ 1048576) :
    Calls Try.prog 58 #[.agg #[.int .i64 y, .int .i64 d, .slice A n c], .int .i64 v] w fun e w' => e = .returned (.bool (holdsB n q v)) ∧ Below w.heap.size w w' := by
  have H := Lib.hid h
  clear h
  go_enter Try.func58, Try.ntmps58
  go_wp2_with fail
  have HW := Lib.hid (RowAt.alloc hi' H.out (.cells #[.int .i64 y, .int .i64 d, .slice A n c] 28))
  go_loopw [10] (fun i wr => ∃ k, k ≤ n ∧ i = .int .i64 k ∧ Hid (∀ i, i < k → (q i).p.w ≠ v) ∧ Hid (Below (w.heap.size + 1) (w.alloc (.cells #[.int .i64 y, .int .i64 d, .slice A n c] 28)) wr)) (fun i _ => n - (intOf i).toNat)
  case atStart => exact ⟨0, Nat.zero_le _, rfl, Lib.hid (fun i h => absurd h (by omega)), Lib.hid (Below.refl _ _)⟩
  case round =>
    obtain ⟨k, hk, rfl, hA, hB⟩ := hrel
    have hBs : w.heap.size + 1 ≤ wr.heap.size := by have := hB.out.size; simpa using this
    have hws : w.heap.size < wr.heap.size := by omega
    have e0 : wr.cell? ⟨w.heap.size, 0, none⟩ = some (.int .i64 y) := (hB.out.cell (p := ⟨w.heap.size, 0, none⟩) (Nat.lt_succ_self _)).trans (by go_simp)
    have e1 : wr.cell? ⟨w.heap.size, 1, none⟩ = some (.int .i64 d) := (hB.out.cell (p := ⟨w.heap.size, 1, none⟩) (Nat.lt_succ_self _)).trans (by go_simp)
    have e2 : wr.cell? ⟨w.heap.size, 2, none⟩ = some (.slice A n c) := (hB.out.cell (p := ⟨w.heap.size, 2, none⟩) (Nat.lt_succ_self _)).trans (by go_simp)
    have HR := Lib.hid (HW.out.below (show hi ≤ w.heap.size + 1 by omega) hB.out)
    by_cases hkn : k < n
    rotate_left
    · obtain rfl : k = n := by omega
      go_wp2_with fail
      go_ret
      exact ⟨ret_bool (decide_eq_false (fun ⟨i, hi, e⟩ => hA.out i hi e)).symm, (Below.alloc (Below.refl w.heap.size w) (Nat.le_refl _) _).trans (Below.mono hB.out (Nat.le_succ _))⟩
    obtain ⟨b, off, rfl, _, hb2, c0, c1, c2, c3, c4, c5, c6⟩ := Hd_at HR.out hkn
    have hbw : b < wr.heap.size := by omega
    by_cases he : (q k).p.w = v
    · have HN := Lib.hid (show true = holdsB n q v from (decide_eq_true ⟨k, hkn, he⟩).symm)
      go_wp2_with fail
      go_ret
      go_light
      refine ⟨ret_bool HN.out, ?_⟩
      refine ((Below.alloc (Below.refl w.heap.size w) (Nat.le_refl _) _).trans (Below.mono hB.out (Nat.le_succ _))).trans (Below.mono (B := wr.heap.size) ?_ (Nat.le_of_lt hws))
      repeat (first | (with_reducible exact Below.refl _ _) | (with_reducible refine Bal ?_ _) | (with_reducible refine Below.drew ?_) | (with_reducible refine below_drewN ?_ _) | (with_reducible refine Bset ?_ ?_ _; focus (first | (with_reducible exact Nat.le_refl _) | (simp; done) | (simp; omega) | omega)) | (with_reducible refine Bt ?_ (by assumption)) | (with_reducible refine Bp (g := g) ?_ (by assumption) (by assumption)))
    · have HQ := Lib.hid he
      go_wp2_with fail
      go_roundw
      case rel =>
        refine ⟨k + 1, by omega, by go_num, Lib.hid (fun i hi => ?_), Lib.hid (hB.out.trans (Below.mono (B := wr.heap.size) ?_ hBs))⟩
        · by_cases e : i = k
          · subst e; exact HQ.out
          · exact hA.out i (by omega)
        repeat (first | (with_reducible exact Below.refl _ _) | (with_reducible refine Bal ?_ _) | (with_reducible refine Below.drew ?_) | (with_reducible refine below_drewN ?_ _) | (with_reducible refine Bset ?_ ?_ _; focus (first | (with_reducible exact Nat.le_refl _) | (simp; done) | (simp; omega) | omega)) | (with_reducible refine Bt ?_ (by assumption)) | (with_reducible refine Bp (g := g) ?_ (by assumption) (by assumption)))
      case measure => simp [intOf]; omega
end Go.Proofs.Ytegdogamenoaiaa
