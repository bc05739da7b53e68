/- Slices of slices of ints: read, and of the call's own; what the steps of a run say. -/
import Derived.Test.YtcdpalpoanlbmaaSpw
import Derived.Test.YtcdpalpoanlbmaaDro
import Derived.Test.YtcdpalpoanlbmaaFad
namespace Go.Proofs.Ytcdpalpoanlbmaa
open Go Go.RowKit
set_option linter.unusedVariables false
set_option linter.unusedSimpArgs false
/-- Where a list lies, and what it says. -/
structure Sr where
  A : Option Addr
  n : Nat
  c : Nat
  z : Nat → Int
def Sr0 : Sr := ⟨none, 0, 0, fun _ => 0⟩
def srV (s : Sr) : Value := .slice s.A s.n s.c
def srF (S : Nat → Sr) : Nat → Value := fun i => srV (S i)
theorem info_sr : (Try.prog.info? 25).map (fun i => (i.zero, i.size, i.bytes)) = some (some (.slice none 0 0), 1, 24) := by kernel_rfl
def Mtx (w : World) (lo hi : Nat) (A : Option Addr) (n : Nat) (S : Nat → Sr) : Prop := RowAt w lo hi A n 1 (srF S) ∧ ∀ i, i < n → Ints w lo hi (S i).A (S i).n (S i).z
theorem Mtx.below {w w' : World} {lo hi n B : Nat} {A : Option Addr} {S : Nat → Sr} (hB : hi ≤ B) (h : Mtx w lo hi A n S) (hb : Below B w w') : Mtx w' lo hi A n S := ⟨h.1.below hB hb, fun i hi' => (h.2 i hi').below hB hb⟩
theorem Mtx.wide {w : World} {lo hi lo' hi' n : Nat} {A : Option Addr} {S : Nat → Sr} (h : Mtx w lo hi A n S) (h1 : lo' ≤ lo) (h2 : hi ≤ hi') : Mtx w lo' hi' A n S := ⟨h.1.wide h1 h2, fun i hi' => (h.2 i hi').wide h1 h2⟩
theorem Sr_at {w : World} {lo hi : Nat} {A : Option Addr} {n : Nat} {S : Nat → Sr} (h : RowAt w lo hi A n 1 (srF S)) {k : Nat} (hk : k < n) :
    ∃ b off, A = some ⟨b, off, none⟩ ∧ lo ≤ b ∧ b < hi ∧ w.cell? ⟨b, off + k, none⟩ = some (.slice (S k).A (S k).n (S k).c) := by
  obtain ⟨b, off, h1, h2⟩ := h
  obtain ⟨e, h3, h4⟩ := h1 (by omega)
  exact ⟨b, off, e, h3, h4, h2 k (by omega)⟩
/-- All cells of a row, at one address. -/
theorem Sr_all {w : World} {lo hi : Nat} {A : Option Addr} {n : Nat} {S : Nat → Sr} (h : RowAt w lo hi A n 1 (srF S)) (hn : 0 < n) :
    ∃ b off, A = some ⟨b, off, none⟩ ∧ lo ≤ b ∧ b < hi ∧ ∀ k, k < n → w.cell? ⟨b, off + k, none⟩ = some (.slice (S k).A (S k).n (S k).c) := by
  obtain ⟨b, off, h1, h2⟩ := h
  obtain ⟨e, h3, h4⟩ := h1 hn
  exact ⟨b, off, e, h3, h4, fun k hk => h2 k (by omega)⟩
/-- A valid run. -/
def RunOk (n : Nat) (S : Nat → Sr) : Prop := n ≤ 20 ∧ ∀ i, i < n → LoudOk (S i).n (S i).z ∧ (S i).n = (S 0).n
instance (n : Nat) (S : Nat → Sr) : Decidable (RunOk n S) := inferInstanceAs (Decidable (_ ∧ _))
/-- Who speaks, who is next, for how many steps: behind k steps. -/
def runT (S : Nat → Sr) : Nat → Int × Int × Int
  | 0 => (-1, -1, 0)
  | k + 1 => let t := runT S k; (stN t.1 t.2.1 t.2.2 (S k).n (S k).z, stX t.1 t.2.1 t.2.2 (S k).n (S k).z, stW t.1 t.2.1 t.2.2 (S k).n (S k).z)
theorem runT_ok {n : Nat} {S : Nat → Sr} (h : RunOk n S) : ∀ k, k < n → OkStep (runT S k).1 (runT S k).2.1 (runT S k).2.2 (S k).n (S k).z
  | 0, hk => by
    obtain ⟨h1, h2⟩ := h.2 0 hk
    refine ⟨⟨(by decide : (-1 : Int) ≤ -1 ∧ (-1 : Int) ≤ 5 ∧ (-1 : Int) ≤ -1 ∧ (-1 : Int) ≤ 5), .inl ⟨rfl, rfl⟩⟩, h1, ?_, ?_⟩
    · show (-1 : Int) < (S 0).n; omega
    · show (-1 : Int) < (S 0).n; omega
  | k + 1, hk => by
    have h1 := st_ok (runT_ok h k (by omega))
    obtain ⟨h2, h3⟩ := h.2 (k + 1) hk
    have h4 := (h.2 k (by omega)).2
    refine ⟨h1.1, h2, ?_, ?_⟩
    · rw [h3, ← h4]; exact h1.2.2.1
    · rw [h3, ← h4]; exact h1.2.2.2
/-- Who speaks in each of the first k steps. -/
def runL (S : Nat → Sr) : Nat → List Int
  | 0 => []
  | k + 1 => runL S k ++ [(runT S (k + 1)).1]
theorem runL_len (S : Nat → Sr) : ∀ k, (runL S k).length = k
  | 0 => rfl
  | k + 1 => by unfold runL; rw [List.length_append, runL_len S k]; rfl
def atLS (l : List Int) : Nat → Int := fun i => l.getD i 0
theorem runL_at {S : Nat → Sr} : ∀ {n k : Nat}, k < n → atLS (runL S n) k = (runT S (k + 1)).1
  | n + 1, k, h => by
    have hl := runL_len S n
    unfold atLS runL
    by_cases e : k < n
    · rw [List.getD_eq_getElem?_getD, List.getElem?_append_left (by omega), ← List.getD_eq_getElem?_getD]
      exact runL_at e
    · obtain rfl : k = n := by omega
      rw [List.getD_eq_getElem?_getD, List.getElem?_append_right (by omega), hl]
      simp
def runR (n : Nat) (S : Nat → Sr) : List Int := if RunOk n S then runL S n else []
theorem runR_len {n : Nat} {S : Nat → Sr} : (runR n S).length ≤ 20 := by
  unfold runR
  split
  · rename_i h; rw [runL_len]; exact h.1
  · exact Nat.zero_le _
theorem snoc_LS {w : World} {lo hi c : Nat} {A : Option Addr} {l : List Int} {x : Int} {N : Nat} (hN : l.length = N) (h : RowOwn 3 w lo hi A (N + 1) c 1 (catF (N * 1) (intV (atLS l)) (fun _ => .int .i64 x))) : OwnI w lo hi A (N + 1) c (atLS (l ++ [x])) := by
  subst hN
  refine RowOwn.congr h fun j hj => ?_
  show (if j < l.length * 1 then Value.int .i64 (l.getD j 0) else .int .i64 x) = .int .i64 ((l ++ [x]).getD j 0)
  by_cases e : j < l.length
  · rw [if_pos (by omega)]; simp [List.getD, List.getElem?_append, e]
  · have : j = l.length := by omega
    subst this
    rw [if_neg (by omega)]; simp [List.getD]
/-- Numbers of the call's own. -/
def GivesL (n : Nat) (l : List Int) (w : World) (e : Ending) (w' : World) : Prop := ∃ B cb, OwnI w' w.heap.size w'.heap.size B n cb (atLS l) ∧ e = .returned (.slice B n cb) ∧ Below w.heap.size w w'
end Go.Proofs.Ytcdpalpoanlbmaa
