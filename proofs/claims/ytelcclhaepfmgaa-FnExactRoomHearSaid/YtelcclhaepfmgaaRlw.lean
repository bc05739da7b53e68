/- Rooms: what both codes answer, by one rule each; for the laws. -/
import Derived.Test.YtelcclhaepfmgaaRij
import Derived.Test.YtelcclhaepfmgaaRir
import Derived.Test.YtelcclhaepfmgaaRdn
namespace Go.Proofs.Ytelcclhaepfmgaa
open Go Go.RowKit Go.Maps
set_option linter.unusedVariables false
set_option linter.unusedSimpArgs false
theorem RmO.congr {lo n c : Nat} {B : Option Addr} {M M' : Nat → Mb} {w : World} (h : RmO lo B n c M w) (e : ∀ i, i < n → M i = M' i) : RmO lo B n c M' w :=
  ⟨h.row.congr (RowF_congr (by decide) e), fun i hi => by rw [← e i hi]; exact h.hears i hi, fun i hi => by rw [← e i hi]; exact h.dis i hi, fun i j hij hj => by rw [← e i (by omega), ← e j hj]; exact h.two i j hij hj⟩
/-- The same, and the members beyond the end as well. -/
def RmFull (k : Nat) (f : Nat → Mm) (ok : Bool) (w : World) (e : Ending) (w' : World) : Prop :=
  ∃ B cb M', plain M' = f ∧ RmO w.heap.size B k cb M' w' ∧ e = .returned (.tuple #[.slice B k cb, .bool ok]) ∧ Below w.heap.size w w'
theorem RmGives.full {k : Nat} {f : Nat → Mm} {ok : Bool} {w w' : World} {e : Ending} (h : RmGives k f ok w e w') : RmFull k f ok w e w' := by
  obtain ⟨B, cb, M', h1, h2, h3, h4⟩ := h
  refine ⟨B, cb, fun i => if i < k then M' i else ⟨f i, none, 0⟩, funext fun i => ?_, h1.congr fun i hi => (if_pos hi).symm, h3, h4⟩
  unfold plain
  by_cases e : i < k
  · simp only [if_pos e]; exact h2 i e
  · simp only [if_neg e]
noncomputable def jpos (r : Nat → Mm) (id : Int) (n : Nat) : Nat := Classical.choose (exists_jat r id n)
theorem jpos_at (r : Nat → Mm) (id : Int) (n : Nat) : JAt n r id (jpos r id n) := Classical.choose_spec (exists_jat r id n)
noncomputable def joinF (n : Nat) (r : Nat → Mm) (id : Int) (s : Bool) : Nat → Mm := fun i => nm (insR r (jpos r id n) ⟨id, s, 0, fun _ => 0⟩ i)
def leaveF (n : Nat) (r : Nat → Mm) (id : Int) : Nat → Mm := fun i => nm (delR r (atR r id n) id i)
def hearF (n : Nat) (r : Nat → Mm) (id other : Int) (on : Bool) : Nat → Mm := fun i => nm (putR r (atR r id n) (hrL r (r (atR r id n)) other on n) i)
section
variable {w : World} {lo hi n c : Nat} {A : Option Addr} {M : Nat → Mb}
theorem ijn_g (id : Int) (s : Bool) (h : Room w lo hi A n M) (hi' : hi ≤ w.heap.size) (hn : n ≤ 1048576) (hnc : n ≤ c) (hb : ∀ i, i < n → (M i).p.n ≤ 1048576) :
    Calls Try.prog 20 #[.slice A n c, .int .i64 id, .bool s] w (RmFull (if joinOk n (plain M) id then n + 1 else 0) (joinF n (plain M) id s) (decide (joinOk n (plain M) id)) w) := by
  by_cases hok : joinOk n (plain M) id
  · rw [if_pos hok, decide_eq_true hok]
    exact (ijn_ok w lo hi A n c M id s _ h hi' hn hnc hb hok (jpos_at _ _ _)).mono fun e w' hr => hr.full
  · rw [if_neg hok, decide_eq_false hok]
    exact (ijn_no w lo hi A n c M id s h hi' hn hb hok).mono fun e w' hr => hr.gives.full
theorem sjn_g (id : Int) (s : Bool) (h : Room w lo hi A n M) (hi' : hi ≤ w.heap.size) (hn : n ≤ 1048576) (hb : ∀ i, i < n → (M i).p.n ≤ 1048576) :
    Calls Try.prog 21 #[.slice A n c, .int .i64 id, .bool s] w (RmFull (if joinOk n (plain M) id then n + 1 else 0) (joinF n (plain M) id s) (decide (joinOk n (plain M) id)) w) := by
  by_cases hok : joinOk n (plain M) id
  · rw [if_pos hok, decide_eq_true hok]
    exact (sjn_ok w lo hi A n c M id s _ h hi' hn hb hok (jpos_at _ _ _)).mono fun e w' hr => hr.gives.full
  · rw [if_neg hok, decide_eq_false hok]
    exact (sjn_no w lo hi A n c M id s h hi' hn hb hok).mono fun e w' hr => hr.gives.full
theorem ilv_g (id : Int) (h : Room w lo hi A n M) (hi' : hi ≤ w.heap.size) (hn : n ≤ 1048576) (hb : ∀ i, i < n → (M i).p.n ≤ 1048576) :
    Calls Try.prog 23 #[.slice A n c, .int .i64 id] w (RmFull (if leaveOk n (plain M) id then n - 1 else 0) (leaveF n (plain M) id) (decide (leaveOk n (plain M) id)) w) := by
  by_cases hok : leaveOk n (plain M) id
  · rw [if_pos hok, decide_eq_true hok]
    exact (ilv_ok w lo hi A n c M id _ h hi' hn hb hok rfl).mono fun e w' hr => hr.full
  · rw [if_neg hok, decide_eq_false hok]
    exact (ilv_no w lo hi A n c M id h hi' hn hb hok).mono fun e w' hr => hr.gives.full
theorem slv_g (id : Int) (h : Room w lo hi A n M) (hi' : hi ≤ w.heap.size) (hn : n ≤ 1048576) (hb : ∀ i, i < n → (M i).p.n ≤ 1048576) :
    Calls Try.prog 33 #[.slice A n c, .int .i64 id] w (RmFull (if leaveOk n (plain M) id then n - 1 else 0) (leaveF n (plain M) id) (decide (leaveOk n (plain M) id)) w) := by
  by_cases hok : leaveOk n (plain M) id
  · rw [if_pos hok, decide_eq_true hok]
    have he := lvL_eq (okM_iff.1 hok.1) (atR_lt hok.2) (atR_spec (atR_lt hok.2))
    exact (slv_ok w lo hi A n c M id h hi' hn hb hok).mono fun e w' hr => (RmRet.gives (by rw [← he]; exact hr)).full
  · rw [if_neg hok, decide_eq_false hok]
    exact (slv_no w lo hi A n c M id h hi' hn hb hok).mono fun e w' hr => hr.gives.full
theorem ihr_g (id other : Int) (on : Bool) (h : Room w lo hi A n M) (hi' : hi ≤ w.heap.size) (hn : n ≤ 1048576) (hb : ∀ i, i < n → (M i).p.n ≤ 1048576) :
    Calls Try.prog 30 #[.slice A n c, .int .i64 id, .int .i64 other, .bool on] w (RmFull (if hearOk n (plain M) id other on then n else 0) (hearF n (plain M) id other on) (decide (hearOk n (plain M) id other on)) w) := by
  by_cases hok : hearOk n (plain M) id other on
  · rw [if_pos hok, decide_eq_true hok]
    exact (ihr_ok w lo hi A n c M id other on _ h hi' hn hb rfl hok).mono fun e w' hr => hr.full
  · rw [if_neg hok, decide_eq_false hok]
    exact (ihr_no w lo hi A n c M id other on h hi' hn hb hok).mono fun e w' hr => hr.gives.full
theorem shr_g (id other : Int) (on : Bool) (h : Room w lo hi A n M) (hi' : hi ≤ w.heap.size) (hn : n ≤ 1048576) (hb : ∀ i, i < n → (M i).p.n ≤ 1048576) :
    Calls Try.prog 31 #[.slice A n c, .int .i64 id, .int .i64 other, .bool on] w (RmFull (if hearOk n (plain M) id other on then n else 0) (hearF n (plain M) id other on) (decide (hearOk n (plain M) id other on)) w) := by
  by_cases hok : hearOk n (plain M) id other on
  · rw [if_pos hok, decide_eq_true hok]
    exact (shr_ok w lo hi A n c M id other on _ h hi' hn hb rfl hok).mono fun e w' hr => (HearRet.gives hr).full
  · rw [if_neg hok, decide_eq_false hok]
    exact (shr_no w lo hi A n c M id other on h hi' hn hb hok).mono fun e w' hr => hr.gives.full
end
theorem MadeRm.norm {V : Value → Value → Prop} {w w' : World} {e : Ending} (h : MadeRm V w e w') : ∃ B cb n M v, (∀ i, nm (M i).p = (M i).p) ∧ RmO w.heap.size B n cb M w' ∧ n ≤ 6 ∧ (∀ i, i < n → (M i).p.n ≤ 1048576) ∧ V (.slice B n cb) v ∧ e = .returned v ∧ Below w.heap.size w w' := by
  obtain ⟨B, cb, n, M, v, h1, h2, h3, h4, h5, h6⟩ := h
  refine ⟨B, cb, n, fun i => nmB (M i), v, fun i => nm_nm _, h1.norm, h2, fun i hi => ?_, h4, h5, h6⟩
  show (nm (M i).p).n ≤ _
  rw [nm_n]
  have := h3 i hi
  omega
theorem few_ok {n : Nat} {M : Nat → Mb} {f : Nat → Mm} (he : plain M = f) (h : OkM n f) : ∀ i, i < n → (M i).p.n ≤ 1048576 := fun i hi => by
  have h1 := h.few hi
  rw [← he] at h1
  have h2 : (plain M i).n = (M i).p.n := rfl
  omega
/-- A row that is copied whole. -/
theorem cat0 {w : World} {e : TypeId} {lo hi n c sz : Nat} {A : Option Addr} {f0 f : Nat → Value} (h : RowOwn e w lo hi A n c sz (catF (0 * sz) f0 f)) : RowOwn e w lo hi A n c sz f := by
  refine RowOwn.congr h fun j hj => ?_
  unfold catF
  rw [if_neg (by omega), Nat.zero_mul, Nat.sub_zero]
end Go.Proofs.Ytelcclhaepfmgaa
