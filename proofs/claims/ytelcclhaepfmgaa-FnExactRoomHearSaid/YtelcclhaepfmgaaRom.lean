/- Rooms: rows of members, each with a slice of ints. -/
import Derived.Test.YtelcclhaepfmgaaInts
import Derived.Test.YtelcclhaepfmgaaAny
import Derived.Test.YtelcclhaepfmgaaFad
import Derived.IntWalk
namespace Go.Proofs.Ytelcclhaepfmgaa
open Go Go.RowKit
set_option linter.unusedVariables false
set_option linter.unusedSimpArgs false
/-- A member: what it says. -/
structure Mm where
  id : Int
  s : Bool
  n : Nat
  z : Nat → Int
/-- .. and where its slice lies. -/
structure Mb where
  p : Mm
  A : Option Addr
  c : Nat
def Mb0 : Mb := ⟨⟨0, false, 0, fun _ => 0⟩, none, 0⟩
def MbC (m : Mb) : Nat → Value
  | 0 => .int .i64 m.p.id
  | 1 => .bool m.p.s
  | _ => .slice m.A m.p.n m.c
def MbF : (Nat → Mb) → Nat → Value := RowF 3 MbC
theorem mb_one (m : Mb) (r : Nat) : (MbC m r).oneCell' = true := by
  match r with
  | 0 => rfl
  | 1 => rfl
  | _ + 2 => rfl
theorem info_mb : (Try.prog.info? 28).map (fun i => (i.zero, i.size, i.bytes)) = some (some (.agg #[.int .i64 0, .bool false, .slice none 0 0]), 3, 40) := by kernel_rfl
def Room (w : World) (lo hi : Nat) (A : Option Addr) (n : Nat) (M : Nat → Mb) : Prop := RowAt w lo hi A n 3 (MbF M) ∧ ∀ i, i < n → Ints w lo hi (M i).A (M i).p.n (M i).p.z
theorem Room.below {w w' : World} {lo hi n B : Nat} {A : Option Addr} {M : Nat → Mb} (hB : hi ≤ B) (h : Room w lo hi A n M) (hb : Below B w w') : Room w' lo hi A n M := ⟨h.1.below hB hb, fun i hi' => (h.2 i hi').below hB hb⟩
theorem Room.wide {w : World} {lo hi lo' hi' n : Nat} {A : Option Addr} {M : Nat → Mb} (h : Room w lo hi A n M) (h1 : lo' ≤ lo) (h2 : hi ≤ hi') : Room w lo' hi' A n M := ⟨h.1.wide h1 h2, fun i hi' => (h.2 i hi').wide h1 h2⟩
theorem Mb_at {w : World} {lo hi : Nat} {A : Option Addr} {n : Nat} {M : Nat → Mb} (h : RowAt w lo hi A n 3 (MbF M)) {k : Nat} (hk : k < n) :
    ∃ b off, A = some ⟨b, off, none⟩ ∧ lo ≤ b ∧ b < hi ∧ w.cell? ⟨b, off + k * 3, none⟩ = some (.int .i64 (M k).p.id) ∧ w.cell? ⟨b, off + k * 3 + 1, none⟩ = some (.bool (M k).p.s) ∧ w.cell? ⟨b, off + k * 3 + 2, none⟩ = some (.slice (M k).A (M k).p.n (M k).c) := by
  obtain ⟨b, off, h1, h2, h3, h4⟩ := RowAt.elem h hk
  exact ⟨b, off, h1, h2, h3, h4 0 (by decide), h4 1 (by decide), h4 2 (by decide)⟩
/-- The first place of a number, or n. -/
def atR (r : Nat → Mm) (v : Int) : Nat → Nat
  | 0 => 0
  | n + 1 => if atR r v n < n then atR r v n else if (r n).id = v then n else n + 1
theorem atR_le (r : Nat → Mm) (v : Int) : ∀ n, atR r v n ≤ n
  | 0 => Nat.le_refl _
  | n + 1 => by unfold atR; split; (have := atR_le r v n; omega); split <;> omega
theorem atR_miss {r : Nat → Mm} {v : Int} : ∀ n, (∀ i, i < n → (r i).id ≠ v) → atR r v n = n
  | 0, _ => rfl
  | n + 1, h => by
    unfold atR
    rw [atR_miss n fun i hi => h i (by omega), if_neg (Nat.lt_irrefl n), if_neg (h n (by omega))]
theorem atR_hit {r : Nat → Mm} {v : Int} {k : Nat} (h1 : ∀ i, i < k → (r i).id ≠ v) (h2 : (r k).id = v) : ∀ n, k < n → atR r v n = k
  | 0, h => absurd h (by omega)
  | n + 1, h => by
    unfold atR
    by_cases e : k = n
    · subst e
      rw [atR_miss k h1, if_neg (Nat.lt_irrefl k), if_pos h2]
    · rw [atR_hit h1 h2 n (by omega), if_pos (by omega)]
/-- What both codes hand back. -/
def placeI (n : Nat) (r : Nat → Mm) (v : Int) : Int := if atR r v n < n then (atR r v n : Nat) else -1
theorem placeI_hit {r : Nat → Mm} {v : Int} {k n : Nat} (h1 : ∀ i, i < k → (r i).id ≠ v) (h2 : (r k).id = v) (hk : k < n) : placeI n r v = k := by
  unfold placeI; rw [atR_hit h1 h2 n hk, if_pos hk]
theorem placeI_miss {r : Nat → Mm} {v : Int} {n : Nat} (h1 : ∀ i, i < n → (r i).id ≠ v) : placeI n r v = -1 := by
  unfold placeI; rw [atR_miss n h1, if_neg (Nat.lt_irrefl n)]
theorem placeI_neg {r : Nat → Mm} {v : Int} {n : Nat} : placeI n r v < 0 ↔ ∀ i, i < n → (r i).id ≠ v := by
  constructor
  · intro h i hi e
    have h1 : ∃ k, k ≤ i ∧ (r k).id = v ∧ ∀ j, j < k → (r j).id ≠ v := by
      clear h hi
      induction i using Nat.strongRecOn with
      | _ i ih =>
        by_cases h2 : ∃ j, j < i ∧ (r j).id = v
        · obtain ⟨j, h3, h4⟩ := h2
          obtain ⟨k, h5, h6⟩ := ih j h3 h4
          exact ⟨k, by omega, h6⟩
        · exact ⟨i, Nat.le_refl _, e, fun j hj e2 => h2 ⟨j, hj, e2⟩⟩
    obtain ⟨k, h2, h3, h4⟩ := h1
    rw [placeI_hit h4 h3 (by omega)] at h
    omega
  · intro h
    rw [placeI_miss h]
    decide
/-- What a member hears is fine. -/
def HearsUp (k n : Nat) (r : Nat → Mm) (m : Mm) : Prop := ∀ j, j < k → m.z j ≠ m.id ∧ (∃ i, i < n ∧ (r i).id = m.z j) ∧ (0 < j → m.z (j - 1) < m.z j)
instance (k n : Nat) (r : Nat → Mm) (m : Mm) : Decidable (HearsUp k n r m) := inferInstanceAs (Decidable (∀ j, j < k → _))
def MbrUp (k n : Nat) (r : Nat → Mm) : Prop := ∀ i, i < k → (0 ≤ (r i).id ∧ (r i).id ≤ 99) ∧ HearsUp (r i).n n r (r i) ∧ (0 < i → (r (i - 1)).id < (r i).id)
instance (k n : Nat) (r : Nat → Mm) : Decidable (MbrUp k n r) := inferInstanceAs (Decidable (∀ i, i < k → _))
def RmOk (n : Nat) (r : Nat → Mm) : Prop := n ≤ 6 ∧ MbrUp n n r
instance (n : Nat) (r : Nat → Mm) : Decidable (RmOk n r) := inferInstanceAs (Decidable (_ ∧ _))
def rmB (n : Nat) (r : Nat → Mm) : Bool := decide (RmOk n r)
end Go.Proofs.Ytelcclhaepfmgaa
