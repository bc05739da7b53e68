/- Slices of integers: the laws' own helpers over them. -/
import Derived.Test.YtegdogamenoaiaaSer
import Derived.Test.YtegdogamenoaiaaMix
import Derived.Test.YtegdogamenoaiaaRow
import Derived.Deep.Light
namespace Go.Proofs.Ytegdogamenoaiaa
open Go Go.RowKit
set_option linter.unusedVariables false
set_option linter.unusedSimpArgs false

def intV (z : Nat → Int) : Nat → Value := fun j => .int .i64 (z j)
/-- The slice at A of n places holds the numbers z. -/
def Ints (w : World) (lo hi : Nat) (A : Option Addr) (n : Nat) (z : Nat → Int) : Prop := RowAt w lo hi A n 1 (intV z)
def OwnI (w : World) (lo hi : Nat) (A : Option Addr) (n c : Nat) (z : Nat → Int) : Prop := RowOwn 3 w lo hi A n c 1 (intV z)
theorem info_int : (Try.prog.info? 3).map (fun i => (i.zero, i.size, i.bytes)) = some (some (.int .i64 0), 1, 8) := by kernel_rfl
section
variable {w w' : World} {lo hi : Nat} {A : Option Addr} {n c : Nat} {z : Nat → Int}
theorem Ints.wide (h : Ints w lo hi A n z) {lo' hi' : Nat} (h1 : lo' ≤ lo) (h2 : hi ≤ hi') : Ints w lo' hi' A n z := RowAt.wide h h1 h2
theorem Ints.below {B : Nat} (hB : hi ≤ B) (h : Ints w lo hi A n z) (hb : Below B w w') : Ints w' lo hi A n z := RowAt.below hB h hb
theorem Ints.only {r : Option Nat} (hw : hi ≤ w.heap.size) (hne : ∀ g, r = some g → g < lo ∨ hi ≤ g) (h : Ints w lo hi A n z) (hg : w.grownBy w' r) : Ints w' lo hi A n z := RowAt.only hw hne h hg
theorem Ints.alloc (hw : hi ≤ w.heap.size) (h : Ints w lo hi A n z) (o : Obj) : Ints (w.alloc o) lo hi A n z := RowAt.alloc hw h o
theorem Ints.drew (h : Ints w lo hi A n z) : Ints w.drew lo hi A n z := h
theorem Ints.drewN (h : Ints w lo hi A n z) (k : Nat) : Ints (w.drewN k) lo hi A n z := h
theorem Ints.setC {p : Addr} (hp : p.block < lo ∨ hi ≤ p.block) (h : Ints w lo hi A n z) (u : Value) : Ints (w.setCell p u) lo hi A n z := RowAt.setC hp h u
theorem Ints.congr {y : Nat → Int} (h : Ints w lo hi A n z) (e : ∀ j, j < n → z j = y j) : Ints w lo hi A n y := RowAt.congr h fun j hj => by unfold intV; rw [e j (by omega)]
theorem Ints.nil (w : World) (lo hi : Nat) (A : Option Addr) (z : Nat → Int) : Ints w lo hi A 0 z := RowAt.nil _ _ _ _ _ _
/-- What place k holds. -/
theorem Ints.at_ (h : Ints w lo hi A n z) {k : Nat} (hk : k < n) : ∃ b off, A = some ⟨b, off, none⟩ ∧ lo ≤ b ∧ b < hi ∧ w.cell? ⟨b, off + k, none⟩ = some (.int .i64 (z k)) := by
  obtain ⟨b, off, h1, h2⟩ := h
  obtain ⟨e, h3, h4⟩ := h1 (by omega)
  exact ⟨b, off, e, h3, h4, h2 k (by omega)⟩
theorem Ints.cell {b off : Nat} (h : Ints w lo hi (some ⟨b, off, none⟩) n z) {k : Nat} (hk : k < n) : w.cell? ⟨b, off + k, none⟩ = some (.int .i64 (z k)) := RowAt.cells h rfl k (by omega)
theorem OwnI.ints (h : OwnI w lo hi A n c z) : Ints w lo hi A n z := RowOwn.row h
theorem OwnI.below {B : Nat} (hB : hi ≤ B) (h : OwnI w lo hi A n c z) (hb : Below B w w') : OwnI w' lo hi A n c z := RowOwn.below hB h hb
theorem OwnI.only {r : Option Nat} (hne : ∀ g, r = some g → g < lo ∨ hi ≤ g) (h : OwnI w lo hi A n c z) (hg : w.grownBy w' r) : OwnI w' lo hi A n c z := RowOwn.only hne h hg
theorem OwnI.alloc (h : OwnI w lo hi A n c z) (o : Obj) : OwnI (w.alloc o) lo hi A n c z := RowOwn.alloc h o
theorem OwnI.drew (h : OwnI w lo hi A n c z) : OwnI w.drew lo hi A n c z := h
theorem OwnI.drewN (h : OwnI w lo hi A n c z) (k : Nat) : OwnI (w.drewN k) lo hi A n c z := h
theorem OwnI.setC {p : Addr} (hp : p.block < lo ∨ hi ≤ p.block) (h : OwnI w lo hi A n c z) (u : Value) : OwnI (w.setCell p u) lo hi A n c z := RowOwn.setC hp h u
theorem OwnI.wide (h : OwnI w lo hi A n c z) {lo' hi' : Nat} (h1 : lo' ≤ lo) (h2 : hi ≤ hi') : OwnI w lo' hi' A n c z := RowOwn.wide h h1 h2
theorem OwnI.congr {y : Nat → Int} (h : OwnI w lo hi A n c z) (e : ∀ j, j < n → z j = y j) : OwnI w lo hi A n c y := RowOwn.congr h fun j hj => by unfold intV; rw [e j (by omega)]
end

def updI (z : Nat → Int) (k : Nat) (x : Int) : Nat → Int := fun j => if j = k then x else z j
theorem OwnI.storeI {w : World} {lo hi n c g : Nat} {z : Nat → Int} (h : OwnI w lo hi (some ⟨g, 0, none⟩) n c z) (k : Nat) (x : Int) : OwnI (w.setCell ⟨g, k, none⟩ (.int .i64 x)) lo hi (some ⟨g, 0, none⟩) n c (updI z k x) :=
  (RowOwn.store h k (.int .i64 x)).congr fun j _ => by
    show (if j = k then Value.int .i64 x else .int .i64 (z j)) = .int .i64 (if j = k then x else z j)
    split <;> rfl
theorem OwnI.cases {w : World} {lo hi n c : Nat} {A : Option Addr} {z : Nat → Int} (h : OwnI w lo hi A n c z) : (A = none ∧ n = 0 ∧ c = 0) ∨ ∃ g, A = some ⟨g, 0, none⟩ ∧ lo ≤ g ∧ g < hi ∧ g < w.heap.size ∧ n ≤ c ∧ (∀ j, w.frozen? ⟨g, j, none⟩ = false) ∧ ∀ j, j < n → w.cell? ⟨g, j, none⟩ = some (.int .i64 (z j)) := by
  rcases RowOwn.cases h with h | ⟨g, h1, h2, h3, h4, h5, h6, h7⟩
  · exact .inl h
  · exact .inr ⟨g, h1, h2, h3, h4, h5, h6, fun j hj => h7 j (by omega)⟩
theorem zero_row {e : TypeId} {w : World} {lo : Nat} {A : Option Addr} {n c : Nat} {z : Nat → Int} (h : w.ownsRow lo e 1 (.slice A n c) n (madeCells (Value.int .i64 0).cells (n * 1)).toList) :
    w.ownsRow lo e 1 (.slice A n c) n ((List.range (n * 1)).map (intV fun j => if j < 0 then z j else 0)) := by
  have : (madeCells (Value.int .i64 0).cells (n * 1)).toList = (List.range (n * 1)).map (intV fun j => if j < 0 then z j else 0) := by
    apply List.ext_getElem?
    intro i
    by_cases h2 : i < n
    · simp [madeCells, Value.cells, intV, h2, Nat.mod_one]
    · simp [madeCells, Value.cells, intV, h2]
  rw [← this]; exact h
/-- A call that hands back new numbers. -/
def GivesI (w : World) (n : Nat) (z : Nat → Int) (e : Ending) (w' : World) : Prop :=
  ∃ A c, OwnI w' w.heap.size w'.heap.size A n c z ∧ e = .returned (.slice A n c) ∧ Below w.heap.size w w'

end Go.Proofs.Ytegdogamenoaiaa
