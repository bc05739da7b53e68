/- What is put, for the laws: the draw and both calls with the code by name. -/
import Derived.Test.YtegdogamenoaiaaBsk
import Derived.Test.YtegdogamenoaiaaBdw
namespace Go.Proofs.Ytegdogamenoaiaa
open Go Go.RowKit
set_option linter.unusedVariables false
set_option linter.unusedSimpArgs false
def MadeBQ (w : World) (e : Ending) (w' : World) : Prop :=
  ∃ (y d : Int) (A : Option Addr) (n c : Nat) (q : Nat → Hd) (a1 a2 a3 a4 : Int) (a5 a6 : Bool) (now : Int), RowAt w' 0 w'.heap.size A n 7 (HdF q) ∧ n ≤ c ∧ n ≤ 14 ∧ e = .returned (.tuple #[.agg #[.int .i64 y, .int .i64 d, .slice A n c], .agg #[.int .i64 a1, .int .i64 a2, .int .i64 a3, .int .i64 a4, .bool a5, .bool a6], .int .i64 now]) ∧ Below w.heap.size w w'
/-- What both calls hand back. -/
def PutW (yy dd k : Int) (nn : Nat) (qq : Nat → Hd) (w : World) (e : Ending) (w' : World) : Prop :=
  ∃ A5 c5, RowAt w' 0 w'.heap.size A5 nn 7 (HdF qq) ∧ e = .returned (.tuple #[.agg #[.int .i64 yy, .int .i64 dd, .slice A5 nn c5], .int .i64 k]) ∧ Below w.heap.size w w'
theorem put_w {y d now k : Int} {n : Nat} {q : Nat → Hd} {x : Pk} {w : World} {e : Ending} {w' : World} (hk : ptCode y d n q x now = k) (h : PutRet y d n q x now w e w') : PutW (ptY k y) (ptY k d) k (ptN k n) (ptQ k n q x now) w e w' := by
  obtain ⟨A, c, he, hr, hb⟩ := h
  rw [hk] at he hr
  exact ⟨A, c, hr.row.wide (Nat.zero_le _) (Nat.le_refl _), he, hb⟩
/-- The code and what it says. -/
inductive PtIs (y d : Int) (n : Nat) (q : Nat → Hd) (x : Pk) (now : Int) : Int → Prop
  | bad : PtIs y d n q x now 4
  | late : x.w < y → PtIs y d n q x now 1
  | twice : ¬ x.w < y → PtIs y d n q x now 2
  | full : ¬ x.w < y → (∀ i, i < n → (q i).p.w ≠ x.w) → n = 10 → PtIs y d n q x now 3
  | fine : ptOk y d n q x now → ¬ x.w < y → (∀ i, i < n → (q i).p.w ≠ x.w) → n < 10 → PtIs y d n q x now 0
theorem pt_is (y d : Int) (n : Nat) (q : Nat → Hd) (x : Pk) (now : Int) : PtIs y d n q x now (ptCode y d n q x now) := by
  by_cases h : ptOk y d n q x now
  · by_cases h1 : x.w < y
    · rw [pt_late h h1]; exact .late h1
    · by_cases h2 : holdsB n q x.w = true
      · rw [pt_twice h h1 h2]; exact .twice h1
      · have h4 : ∀ i, i < n → (q i).p.w ≠ x.w := fun i hi e => h2 (decide_eq_true ⟨i, hi, e⟩)
        by_cases h3 : 10 ≤ n
        · rw [pt_full h h1 h2 h3]; exact .full h1 h4 (by have := h.1.2.2.1; omega)
        · rw [pt_fine h h1 h2 h3]; exact .fine h h1 h4 (by omega)
  · rw [pt_bad h]; exact .bad
theorem insH_at (q : Nat → Hd) (a : Nat) (x : Hd) : insH q a x a = x := by unfold insH; rw [if_neg (Nat.lt_irrefl a), if_pos rfl]
theorem bf_ins {y d : Int} {n : Nat} {q : Nat → Hd} {x : Pk} {now : Int} (h : ptOk y d n q x now) (h1 : ¬ x.w < y) (h2 : ∀ i, i < n → (q i).p.w ≠ x.w) (h3 : n < 10) : BfOk y d (n + 1) (insH q (ptAt q x.w n) ⟨x, now⟩) := by
  obtain ⟨hB, hX, hT1, hT2⟩ := h
  have ha := ptAt_le q x.w n
  obtain ⟨s1, s2⟩ := ptAt_spec (v := x.w) n hB.2.2.2.asc
  have hA : EAsc (n + 1) (insH q (ptAt q x.w n) ⟨x, now⟩) := hB.2.2.2.asc.ins ha s1 fun i h3 h4 => by
    have h5 := s2 i h3 h4
    have h6 := h2 i h4
    show x.w < (q i).p.w
    omega
  refine ⟨hB.1, hB.2.1, by omega, fun i hi => ?_⟩
  have hstep : 0 < i → (insH q (ptAt q x.w n) ⟨x, now⟩ (i - 1)).p.w < (insH q (ptAt q x.w n) ⟨x, now⟩ i).p.w := fun h0 => hA (i - 1) i (by omega) hi
  refine ⟨?_, ?_, ?_, hstep⟩
  all_goals unfold insH
  · split
    · exact (hB.2.2.2 i (by omega)).1
    · split
      · exact hX
      · exact (hB.2.2.2 (i - 1) (by omega)).1
  · split
    · exact (hB.2.2.2 i (by omega)).2.1
    · split
      · exact ⟨hT1, hT2⟩
      · exact (hB.2.2.2 (i - 1) (by omega)).2.1
  · split
    · exact (hB.2.2.2 i (by omega)).2.2.1
    · split
      · show y ≤ x.w; omega
      · exact (hB.2.2.2 (i - 1) (by omega)).2.2.1
theorem pt_again {y d : Int} {n : Nat} {q : Nat → Hd} {x : Pk} {now : Int} (h : ptOk y d n q x now) (h1 : ¬ x.w < y) (h2 : ∀ i, i < n → (q i).p.w ≠ x.w) (h3 : n < 10) : ptCode y d (n + 1) (insH q (ptAt q x.w n) ⟨x, now⟩) x now = 2 :=
  pt_twice ⟨bf_ins h h1 h2 h3, h.2⟩ h1 (decide_eq_true ⟨ptAt q x.w n, by have := ptAt_le q x.w n; omega, by rw [insH_at]⟩)
theorem draw_bputQ (w : World) (A : Option Addr) (n c : Nat) (h : IsInts .u8 w A n c) (hn : n ≤ 1048576) :
    Calls Try.prog 39 #[.slice A n c] w (MadeBQ w) :=
  (draw_bput w A n c h hn).mono fun e w' ⟨y, d, A, n, c, q, x, now, hr, h1, h2, he, hb⟩ => ⟨y, d, A, n, c, q, x.w, x.t, x.l, x.s, x.k, x.z, now, hr.wide (Nat.zero_le _) (Nat.le_refl _), h1, h2, he, hb⟩
theorem iput_w (w : World) (lo hi : Nat) (A : Option Addr) (n c : Nat) (y d now k : Int) (q : Nat → Hd) (a1 a2 a3 a4 : Int) (a5 a6 : Bool) (hk : ptCode y d n q ⟨a1, a2, a3, a4, a5, a6⟩ now = k) (h : RowAt w lo hi A n 7 (HdF q)) (hi' : hi ≤ w.heap.size) (hn : n ≤ 1048576) :
    Calls Try.prog 26 #[.agg #[.int .i64 y, .int .i64 d, .slice A n c], .agg #[.int .i64 a1, .int .i64 a2, .int .i64 a3, .int .i64 a4, .bool a5, .bool a6], .int .i64 now] w (PutW (ptY k y) (ptY k d) k (ptN k n) (ptQ k n q ⟨a1, a2, a3, a4, a5, a6⟩ now) w) :=
  (ibp_any w lo hi A n c y d now q ⟨a1, a2, a3, a4, a5, a6⟩ h hi' hn).mono fun e w' hr => put_w hk hr
theorem sput_w (w : World) (lo hi : Nat) (A : Option Addr) (n c : Nat) (y d now k : Int) (q : Nat → Hd) (a1 a2 a3 a4 : Int) (a5 a6 : Bool) (hk : ptCode y d n q ⟨a1, a2, a3, a4, a5, a6⟩ now = k) (h : RowAt w lo hi A n 7 (HdF q)) (hi' : hi ≤ w.heap.size) (hn : n ≤ 1048576) (hnc : n ≤ c) :
    Calls Try.prog 24 #[.agg #[.int .i64 y, .int .i64 d, .slice A n c], .agg #[.int .i64 a1, .int .i64 a2, .int .i64 a3, .int .i64 a4, .bool a5, .bool a6], .int .i64 now] w (PutW (ptY k y) (ptY k d) k (ptN k n) (ptQ k n q ⟨a1, a2, a3, a4, a5, a6⟩ now) w) :=
  (sbp_any w lo hi A n c y d now q ⟨a1, a2, a3, a4, a5, a6⟩ h hi' hn hnc).mono fun e w' hr => put_w hk hr
end Go.Proofs.Ytegdogamenoaiaa
