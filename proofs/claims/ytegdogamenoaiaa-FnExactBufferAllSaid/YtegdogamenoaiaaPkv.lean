/- Rows of packets: all is marked; the marks are read; two rows apart (printed by gen_pkv.py). -/
import Derived.Test.YtegdogamenoaiaaHxw
import Derived.Test.YtegdogamenoaiaaPkm
namespace Go.Proofs.Ytegdogamenoaiaa
open Go Go.RowKit
set_option linter.unusedVariables false
set_option linter.unusedSimpArgs false
def mkP (q : Int) (i : Nat) : Pk := ⟨q + 6 * i, q + 6 * i + 1, q + 6 * i + 2, q + 6 * i + 3, mkB (q + 6 * i + 4), mkB (q + 6 * i + 5)⟩
theorem RowOwn.apart {e : TypeId} {w w' : World} {lo hi n c sz : Nat} {A : Option Addr} {f : Nat → Value} {r : Option Nat} (hne : (Value.slice A n c).ownBlock = none ∨ (Value.slice A n c).ownBlock ≠ r) (h : RowOwn e w lo hi A n c sz f) (hg : w.grownBy w' r) : RowOwn e w' lo hi A n c sz f :=
  ⟨h.1.kept hg hne, h.2⟩
theorem dis_one {a b : Option Nat} (h : ∀ g, b = some g → a ≠ some g) : b = none ∨ b ≠ a := by
  cases b with
  | none => exact Or.inl rfl
  | some g => exact Or.inr fun e => h g rfl e.symm
theorem dis_two {a b : Option Nat} (h : ∀ g, b = some g → a ≠ some g) : a = none ∨ a ≠ b := by
  cases a with
  | none => exact Or.inl rfl
  | some g => exact Or.inr fun e => h g e.symm rfl
set_option maxRecDepth 100000 in
set_option maxHeartbeats 8000000 in
theorem markPkV_any (w : World) {lo hi : Nat} {A : Option Addr} {n c : Nat} {p : Nat → Pk} (q : Int) (h : RowOwn 30 w lo hi A n c 6 (PkF p)) (hn : n ≤ 1048576) (hq0 : 0 ≤ q) (hq : q ≤ 1000000000) :
    Calls Try.prog 30 #[.slice A n c, .int .i64 q] w fun e w' => RowOwn 30 w' lo hi A n c 6 (PkF (mkP q)) ∧ e = .returned (.int .i64 (q + 6 * n)) ∧ w.grownBy w' (Value.slice A n c).ownBlock := by
  have H := Lib.hid h
  clear h
  go_enter Try.func30, Try.ntmps30
  go_wp2
  go_loopw [1, 5] (fun q' i wr => ∃ k, k ≤ n ∧ i = .int .i64 (k : Nat) ∧ q' = .int .i64 (q + 6 * k) ∧ RowOwn 30 wr lo hi A n c 6 (PkF fun j => if j < k then mkP q j else p j) ∧ w.grownBy wr (Value.slice A n c).ownBlock) (fun _ i _ => n - (intOf i).toNat)
  case atStart => exact ⟨0, Nat.zero_le _, rfl, by go_num, H.out.congr (RowF_congr (n := n) (by decide) fun i hi => by simp), World.grownBy.refl _ _⟩
  case round =>
    obtain ⟨k, hk, rfl, rfl, hO, hG⟩ := hrel
    by_cases hkn : k < n
    · rcases hO.cases with ⟨_, e, _⟩ | ⟨g, rfl, hlo, _, hgl, _, hfz, hcl⟩
      · omega
      · skip
        have d0 := hcl (k * 6) (by omega)
        have d1 := hcl (k * 6 + 1) (by omega)
        have d2 := hcl (k * 6 + 2) (by omega)
        have d3 := hcl (k * 6 + 3) (by omega)
        have d4 := hcl (k * 6 + 4) (by omega)
        have d5 := hcl (k * 6 + 5) (by omega)
        generalize PkF (fun j => if j < k then mkP q j else p j) (k * 6) = y0 at d0
        generalize PkF (fun j => if j < k then mkP q j else p j) (k * 6 + 1) = y1 at d1
        generalize PkF (fun j => if j < k then mkP q j else p j) (k * 6 + 2) = y2 at d2
        generalize PkF (fun j => if j < k then mkP q j else p j) (k * 6 + 3) = y3 at d3
        generalize PkF (fun j => if j < k then mkP q j else p j) (k * 6 + 4) = y4 at d4
        generalize PkF (fun j => if j < k then mkP q j else p j) (k * 6 + 5) = y5 at d5
        have f0 := hfz (k * 6)
        have f1 := hfz (k * 6 + 1)
        have f2 := hfz (k * 6 + 2)
        have f3 := hfz (k * 6 + 3)
        have f4 := hfz (k * 6 + 4)
        have f5 := hfz (k * 6 + 5)
        clear hcl hfz
        go_wp2
        go_roundw
        case rel =>
          refine ⟨k + 1, by omega, by go_num, by go_num, (six_put hO).congr (RowF_congr (n := n) (by decide) fun i hi => ?_), ?_⟩
          · unfold updE
            by_cases e : i = k
            · subst e
              simp only [if_pos, Nat.lt_succ_self]
              unfold mkP mkB
              simp
              refine ⟨by omega, by omega, ?_, ?_⟩
              · rw [show q + 6 * i + 1 + 1 + 1 + 1 = q + 6 * i + 4 by omega]
              · rw [show q + 6 * i + 1 + 1 + 1 + 1 + 1 = q + 6 * i + 5 by omega]
            · by_cases e2 : i < k
              · simp [e, e2, show i < k + 1 by omega]
              · simp [e, e2, show ¬ i < k + 1 by omega]
          · exact (((((hG.trans (grown_setCell _ ⟨g, k * 6, none⟩ _)).trans (grown_setCell _ ⟨g, k * 6 + 1, none⟩ _)).trans (grown_setCell _ ⟨g, k * 6 + 2, none⟩ _)).trans (grown_setCell _ ⟨g, k * 6 + 3, none⟩ _)).trans (grown_setCell _ ⟨g, k * 6 + 4, none⟩ _)).trans (grown_setCell _ ⟨g, k * 6 + 5, none⟩ _)
        case measure => simp [intOf]; omega
    · obtain rfl : k = n := by omega
      go_wp2
      go_ret
      exact ⟨hO.congr (RowF_congr (n := k) (by decide) fun i hi => by simp [hi]), rfl, hG⟩
set_option maxRecDepth 100000 in
set_option maxHeartbeats 8000000 in
theorem heldPkV_any (w : World) {lo hi : Nat} {A : Option Addr} {n c : Nat} (q : Int) (h : RowAt w lo hi A n 6 (PkF (mkP q))) (hn : n ≤ 1048576) (hq0 : 0 ≤ q) (hq : q ≤ 1000000000) :
    Calls Try.prog 31 #[.slice A n c, .int .i64 q] w fun e w' => e = .returned (.int .i64 (q + 6 * n)) ∧ w = w' := by
  have H := Lib.hid h
  clear h
  go_enter Try.func31, Try.ntmps31
  go_wp2
  go_loopw [1, 5] (fun q' i wr => ∃ k, k ≤ n ∧ i = .int .i64 (k : Nat) ∧ q' = .int .i64 (q + 6 * k) ∧ w = wr) (fun _ i _ => n - (intOf i).toNat)
  case atStart => exact ⟨0, Nat.zero_le _, rfl, by go_num, rfl⟩
  case round =>
    obtain ⟨k, hk, rfl, rfl, rfl⟩ := hrel
    by_cases hkn : k < n
    · obtain ⟨b, off, rfl, _, hb2, c0, c1, c2, c3, c4, c5⟩ := Pk_at H.out hkn
      unfold mkP mkB at c0 c1 c2 c3 c4 c5
      simp only [show q + 6 * k + 2 = q + 6 * k + 1 + 1 by omega, show q + 6 * k + 3 = q + 6 * k + 1 + 1 + 1 by omega, show q + 6 * k + 4 = q + 6 * k + 1 + 1 + 1 + 1 by omega, show q + 6 * k + 5 = q + 6 * k + 1 + 1 + 1 + 1 + 1 by omega] at c0 c1 c2 c3 c4 c5
      go_wp2
      go_roundw
      case rel => exact ⟨k + 1, by omega, by go_num, by go_num, by first | rfl | trivial⟩
      case measure => simp [intOf]; omega
    · obtain rfl : k = n := by omega
      go_wp2
      go_ret
      exact ⟨rfl, rfl⟩
end Go.Proofs.Ytegdogamenoaiaa
