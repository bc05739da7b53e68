/- Headers: the bytes of a number, one behind the other. -/
import Derived.Test.YtmidpodoapggnaaPkt
import Derived.Test.YtmidpodoapggnaaDro
namespace Go.Proofs.Ytmidpodoapggnaa
open Go Go.RowKit
set_option linter.unusedVariables false
set_option linter.unusedSimpArgs false
theorem OwnI.here {w : World} {lo hi n c : Nat} {A : Option Addr} {z : Nat → Int} (h : OwnI w lo hi A n c z) : OwnI w lo w.heap.size A n c z := RowOwn.made h.1
/-- What the row's growth leaves: only its own block, and what is new, has turned; and it lies in the one or the other. -/
def Grew (w w' : World) (v v' : Value) : Prop := w.grownBy w' v.ownBlock ∧ ∀ g, v'.ownBlock = some g → v.ownBlock = some g ∨ w.heap.size ≤ g
theorem Grew.refl (w : World) (v : Value) : Grew w w v v := ⟨World.grownBy.refl _ _, fun _ h => .inl h⟩
theorem Grew.step {w w1 w2 : World} {v v1 v2 : Value} (h : Grew w w1 v v1) (k : w1.grownBy w2 v1.ownBlock) (hl : v2.ownBlock = v1.ownBlock ∨ ∃ g, v2.ownBlock = some g ∧ w1.heap.size ≤ g) : Grew w w2 v v2 := by
  refine ⟨⟨k.os.trans h.1.os, k.tape.trans h.1.tape, k.output.trans h.1.output, Nat.le_trans h.1.size k.size, fun i hi hne => ?_⟩, fun g hg => ?_⟩
  · rw [k.block i (Nat.lt_of_lt_of_le hi h.1.size) (fun e => by
      rcases h.2 i e.symm with h1 | h1
      · exact hne h1.symm
      · omega)]
    exact h.1.block i hi hne
  · rcases hl with e | ⟨g', e, hg'⟩
    · exact h.2 g (e ▸ hg)
    · rw [e] at hg
      obtain rfl : g' = g := by injection hg
      exact .inr (Nat.le_trans h.1.size hg')
theorem Grew.trans {w w1 w2 : World} {v v1 v2 : Value} (h : Grew w w1 v v1) (k : Grew w1 w2 v1 v2) : Grew w w2 v v2 := by
  refine ⟨⟨k.1.os.trans h.1.os, k.1.tape.trans h.1.tape, k.1.output.trans h.1.output, Nat.le_trans h.1.size k.1.size, fun i hi hne => ?_⟩, fun g hg => ?_⟩
  · rw [k.1.block i (Nat.lt_of_lt_of_le hi h.1.size) (fun e => by
      rcases h.2 i e.symm with h1 | h1
      · exact hne h1.symm
      · omega)]
    exact h.1.block i hi hne
  · rcases k.2 g hg with h1 | h1
    · exact h.2 g h1
    · exact .inr (Nat.le_trans h.1.size h1)
theorem Grew.below {w w' : World} {v v' : Value} {lo : Nat} (h : Grew w w' v v') (hlo : lo ≤ w.heap.size) (ho : ∀ g, v.ownBlock = some g → lo ≤ g) : Below lo w w' :=
  ⟨h.1.os, h.1.tape, h.1.output, h.1.size, fun k hk => h.1.block k (by omega) (fun e => by have := ho k e.symm; omega)⟩
def byt2 (z : Nat → Int) (m : Nat) (n : Int) : Nat → Nat → Int
  | 0 => z
  | 1 => snocI z m (n / 256 % 256)
  | _ => snocI (snocI z m (n / 256 % 256)) (m + 1) (n % 256)
set_option maxHeartbeats 4000000 in
theorem app2 (w : World) {lo hi : Nat} {A₀ : Option Addr} {m c₀ : Nat} {z : Nat → Int} (n : Int) (h : OwnI w lo hi A₀ m c₀ z) (hlo : lo ≤ w.heap.size) (hm : m ≤ 1048576) (h0 : 0 ≤ n) (h1 : n ≤ 16777215) :
    Calls Try.prog 75 #[.slice A₀ m c₀, .int .i64 n, .int .i64 2] w fun e w' => ∃ A' c', OwnI w' lo w'.heap.size A' (m + 2) c' (byt2 z m n 2) ∧ e = .returned (.slice A' (m + 2) c') ∧ Grew w w' (.slice A₀ m c₀) (.slice A' (m + 2) c') := by
  obtain ⟨i0, q1, q2, q3, q4⟩ := info_parts info_int
  have hst := h.here
  clear h
  go_enter Try.func75, Try.ntmps75
  go_wp2
  go_loopw [0, 7] (fun b s wr => ∃ k A c, k ≤ 2 ∧ s = .int .i64 (8 - 8 * (k : Nat)) ∧ b = .slice A (m + k) c ∧ OwnI wr lo wr.heap.size A (m + k) c (byt2 z m n k) ∧ Grew w wr (.slice A₀ m c₀) (.slice A (m + k) c)) (fun _ s _ => (intOf s + 8).toNat)
  case atStart => exact ⟨0, A₀, c₀, by omega, rfl, rfl, hst, Grew.refl _ _⟩
  case round =>
    obtain ⟨k, A, c, hk, rfl, rfl, hO, hB⟩ := hrel
    have hBs := hB.1.size
    rcases (by omega : k = 0 ∨ k = 1 ∨ k = 2) with rfl | rfl | rfl
    · go_wp2_with (at_builtin; refine wpList_rowAppend _ rfl (.tmp 15) (.tmp 20) _ rfl 3 i0 _ 1 8 Try.underlying34 q1 q2 q3 q4 rfl (by decide) lo _ A (m + 0) c (intV (byt2 z m n 0)) rfl (RowOwn.alloc hO _) _ _ _ 1 1 _ rfl (one_row _ _ _) ?_ (by unfold maxLen; omega) (by omega) (by simp; omega) ?_; (focus (intro _ _; rfl)); intro A' c' w4 hO4 hG4 hL4)
      have hO5 := snoc_row hO4
      have hB4 := hB.step ((grown_alloc wr _ _).trans hG4) (hL4.imp id fun h => ⟨_, h, by simp⟩)
      clear hO4 hG4 hL4 hO hB
      go_wp2
      go_roundw
      case rel => exact ⟨1, A', c', by omega, by first | rfl | go_num, by first | rfl | go_num, hO5, hB4⟩
      case measure => simp [intOf]
    · go_wp2_with (at_builtin; refine wpList_rowAppend _ rfl (.tmp 15) (.tmp 20) _ rfl 3 i0 _ 1 8 Try.underlying34 q1 q2 q3 q4 rfl (by decide) lo _ A (m + 1) c (intV (byt2 z m n 1)) rfl (RowOwn.alloc hO _) _ _ _ 1 1 _ rfl (one_row _ _ _) ?_ (by unfold maxLen; omega) (by omega) (by simp; omega) ?_; (focus (intro _ _; rfl)); intro A' c' w4 hO4 hG4 hL4)
      have hO5 := snoc_row hO4
      have hB4 := hB.step ((grown_alloc wr _ _).trans hG4) (hL4.imp id fun h => ⟨_, h, by simp⟩)
      clear hO4 hG4 hL4 hO hB
      go_wp2
      go_roundw
      case rel => exact ⟨2, A', c', by omega, by first | rfl | go_num, by first | rfl | go_num, hO5, hB4⟩
      case measure => simp [intOf]
    · go_wp2
      go_ret
      exact ⟨_, _, hO, rfl, hB⟩
def byt3 (z : Nat → Int) (m : Nat) (n : Int) : Nat → Nat → Int
  | 0 => z
  | 1 => snocI z m (n / 65536 % 256)
  | 2 => snocI (snocI z m (n / 65536 % 256)) (m + 1) (n / 256 % 256)
  | _ => snocI (snocI (snocI z m (n / 65536 % 256)) (m + 1) (n / 256 % 256)) (m + 2) (n % 256)
set_option maxHeartbeats 4000000 in
theorem app3 (w : World) {lo hi : Nat} {A₀ : Option Addr} {m c₀ : Nat} {z : Nat → Int} (n : Int) (h : OwnI w lo hi A₀ m c₀ z) (hlo : lo ≤ w.heap.size) (hm : m ≤ 1048576) (h0 : 0 ≤ n) (h1 : n ≤ 16777215) :
    Calls Try.prog 75 #[.slice A₀ m c₀, .int .i64 n, .int .i64 3] w fun e w' => ∃ A' c', OwnI w' lo w'.heap.size A' (m + 3) c' (byt3 z m n 3) ∧ e = .returned (.slice A' (m + 3) c') ∧ Grew w w' (.slice A₀ m c₀) (.slice A' (m + 3) c') := by
  obtain ⟨i0, q1, q2, q3, q4⟩ := info_parts info_int
  have hst := h.here
  clear h
  go_enter Try.func75, Try.ntmps75
  go_wp2
  go_loopw [0, 7] (fun b s wr => ∃ k A c, k ≤ 3 ∧ s = .int .i64 (16 - 8 * (k : Nat)) ∧ b = .slice A (m + k) c ∧ OwnI wr lo wr.heap.size A (m + k) c (byt3 z m n k) ∧ Grew w wr (.slice A₀ m c₀) (.slice A (m + k) c)) (fun _ s _ => (intOf s + 8).toNat)
  case atStart => exact ⟨0, A₀, c₀, by omega, rfl, rfl, hst, Grew.refl _ _⟩
  case round =>
    obtain ⟨k, A, c, hk, rfl, rfl, hO, hB⟩ := hrel
    have hBs := hB.1.size
    rcases (by omega : k = 0 ∨ k = 1 ∨ k = 2 ∨ k = 3) with rfl | rfl | rfl | rfl
    · go_wp2_with (at_builtin; refine wpList_rowAppend _ rfl (.tmp 15) (.tmp 20) _ rfl 3 i0 _ 1 8 Try.underlying34 q1 q2 q3 q4 rfl (by decide) lo _ A (m + 0) c (intV (byt3 z m n 0)) rfl (RowOwn.alloc hO _) _ _ _ 1 1 _ rfl (one_row _ _ _) ?_ (by unfold maxLen; omega) (by omega) (by simp; omega) ?_; (focus (intro _ _; rfl)); intro A' c' w4 hO4 hG4 hL4)
      have hO5 := snoc_row hO4
      have hB4 := hB.step ((grown_alloc wr _ _).trans hG4) (hL4.imp id fun h => ⟨_, h, by simp⟩)
      clear hO4 hG4 hL4 hO hB
      go_wp2
      go_roundw
      case rel => exact ⟨1, A', c', by omega, by first | rfl | go_num, by first | rfl | go_num, hO5, hB4⟩
      case measure => simp [intOf]
    · go_wp2_with (at_builtin; refine wpList_rowAppend _ rfl (.tmp 15) (.tmp 20) _ rfl 3 i0 _ 1 8 Try.underlying34 q1 q2 q3 q4 rfl (by decide) lo _ A (m + 1) c (intV (byt3 z m n 1)) rfl (RowOwn.alloc hO _) _ _ _ 1 1 _ rfl (one_row _ _ _) ?_ (by unfold maxLen; omega) (by omega) (by simp; omega) ?_; (focus (intro _ _; rfl)); intro A' c' w4 hO4 hG4 hL4)
      have hO5 := snoc_row hO4
      have hB4 := hB.step ((grown_alloc wr _ _).trans hG4) (hL4.imp id fun h => ⟨_, h, by simp⟩)
      clear hO4 hG4 hL4 hO hB
      go_wp2
      go_roundw
      case rel => exact ⟨2, A', c', by omega, by first | rfl | go_num, by first | rfl | go_num, hO5, hB4⟩
      case measure => simp [intOf]
    · go_wp2_with (at_builtin; refine wpList_rowAppend _ rfl (.tmp 15) (.tmp 20) _ rfl 3 i0 _ 1 8 Try.underlying34 q1 q2 q3 q4 rfl (by decide) lo _ A (m + 2) c (intV (byt3 z m n 2)) rfl (RowOwn.alloc hO _) _ _ _ 1 1 _ rfl (one_row _ _ _) ?_ (by unfold maxLen; omega) (by omega) (by simp; omega) ?_; (focus (intro _ _; rfl)); intro A' c' w4 hO4 hG4 hL4)
      have hO5 := snoc_row hO4
      have hB4 := hB.step ((grown_alloc wr _ _).trans hG4) (hL4.imp id fun h => ⟨_, h, by simp⟩)
      clear hO4 hG4 hL4 hO hB
      go_wp2
      go_roundw
      case rel => exact ⟨3, A', c', by omega, by first | rfl | go_num, by first | rfl | go_num, hO5, hB4⟩
      case measure => simp [intOf]
    · go_wp2
      go_ret
      exact ⟨_, _, hO, rfl, hB⟩
end Go.Proofs.Ytmidpodoapggnaa
