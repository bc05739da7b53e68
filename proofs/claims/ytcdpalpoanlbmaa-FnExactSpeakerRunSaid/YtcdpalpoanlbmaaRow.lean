/- Slices as rows of cells: what is read of one, what the call owns, what append, make and a store leave. Nothing here speaks of the program. -/
import Derived.WalkKit
import Derived.ProofKit
import Derived.OwnWalk
import Derived.Laws.OwnMore
import Derived.Maps.AppendAt
import Derived.Deep.Draws
namespace Go.Proofs.Ytcdpalpoanlbmaa
open Go Go.RowKit
set_option linter.unusedVariables false
set_option linter.unusedSimpArgs false

/-- The slice at A of n places of sz cells holds the cells f; its block lies from lo on, below hi. -/
def RowAt (w : World) (lo hi : Nat) (A : Option Addr) (n sz : Nat) (f : Nat → Value) : Prop :=
  ∃ b off, (0 < n → A = some ⟨b, off, none⟩ ∧ lo ≤ b ∧ b < hi) ∧ ∀ j, j < n * sz → w.cell? ⟨b, off + j, none⟩ = some (f j)
/-- The call's own row. -/
def RowOwn (e : TypeId) (w : World) (lo hi : Nat) (A : Option Addr) (n c sz : Nat) (f : Nat → Value) : Prop :=
  w.ownsRow lo e sz (.slice A n c) n ((List.range (n * sz)).map f) ∧ ∀ g, (Value.slice A n c).ownBlock = some g → g < hi

section
variable {w w' : World} {lo hi : Nat} {A : Option Addr} {n sz : Nat} {f : Nat → Value}
theorem mul_pos' {n sz j : Nat} (h : j < n * sz) : 0 < n := Nat.pos_of_ne_zero fun e => by subst e; simp at h
theorem RowAt.keep (h : RowAt w lo hi A n sz f) (hk : ∀ b o, lo ≤ b → b < hi → w'.cell? ⟨b, o, none⟩ = w.cell? ⟨b, o, none⟩) : RowAt w' lo hi A n sz f := by
  obtain ⟨b, off, h1, h2⟩ := h
  refine ⟨b, off, h1, fun j hj => ?_⟩
  obtain ⟨_, h3, h4⟩ := h1 (mul_pos' hj)
  exact (hk b _ h3 h4).trans (h2 j hj)
theorem RowAt.wide (h : RowAt w lo hi A n sz f) {lo' hi' : Nat} (h1 : lo' ≤ lo) (h2 : hi ≤ hi') : RowAt w lo' hi' A n sz f := by
  obtain ⟨b, off, h3, h4⟩ := h
  exact ⟨b, off, fun h0 => ⟨(h3 h0).1, Nat.le_trans h1 (h3 h0).2.1, Nat.lt_of_lt_of_le (h3 h0).2.2 h2⟩, h4⟩
theorem RowAt.below {B : Nat} (hB : hi ≤ B) (h : RowAt w lo hi A n sz f) (hb : Below B w w') : RowAt w' lo hi A n sz f :=
  h.keep fun b o _ h2 => hb.cell (p := ⟨b, o, none⟩) (by show b < B; omega)
theorem RowAt.only {r : Option Nat} (hw : hi ≤ w.heap.size) (hne : ∀ g, r = some g → g < lo ∨ hi ≤ g) (h : RowAt w lo hi A n sz f) (hg : w.grownBy w' r) : RowAt w' lo hi A n sz f :=
  h.keep fun b o h1 h2 => World.cell?_of_block (hg.block b (by omega) (fun e => by have := hne b e.symm; omega))
theorem RowAt.alloc (hw : hi ≤ w.heap.size) (h : RowAt w lo hi A n sz f) (o : Obj) : RowAt (w.alloc o) lo hi A n sz f := h.below hw ((Below.refl _ _).alloc (Nat.le_refl _) o)
theorem RowAt.drew (h : RowAt w lo hi A n sz f) : RowAt w.drew lo hi A n sz f := h
theorem RowAt.drewN (h : RowAt w lo hi A n sz f) (k : Nat) : RowAt (w.drewN k) lo hi A n sz f := h
theorem RowAt.setC {p : Addr} (hp : p.block < lo ∨ hi ≤ p.block) (h : RowAt w lo hi A n sz f) (u : Value) : RowAt (w.setCell p u) lo hi A n sz f :=
  h.keep fun b o h1 h2 => World.cell?_setCell_other w p ⟨b, o, none⟩ u (fun e => by subst e; simp at hp; omega)
theorem RowAt.congr {f' : Nat → Value} (h : RowAt w lo hi A n sz f) (e : ∀ j, j < n * sz → f j = f' j) : RowAt w lo hi A n sz f' := by
  obtain ⟨b, off, h1, h2⟩ := h
  exact ⟨b, off, h1, fun j hj => by rw [← e j hj]; exact h2 j hj⟩
theorem RowAt.nil (w : World) (lo hi : Nat) (A : Option Addr) (sz : Nat) (f : Nat → Value) : RowAt w lo hi A 0 sz f := ⟨0, 0, fun h => absurd h (by omega), fun j hj => by simp at hj⟩
/-- A part of it: 's[k:m]' (an address that is asked for where there is something). -/
theorem RowAt.part (h : RowAt w lo hi A n sz f) {A' : Option Addr} {k m : Nat} (hk : k + m ≤ n) (hA : 0 < m → ∀ b off, A = some ⟨b, off, none⟩ → A' = some ⟨b, off + k * sz, none⟩) : RowAt w lo hi A' m sz fun j => f (k * sz + j) := by
  obtain ⟨b, off, h1, h2⟩ := h
  refine ⟨b, off + k * sz, fun h0 => ?_, fun j hj => ?_⟩
  · obtain ⟨e, h3, h4⟩ := h1 (by omega)
    exact ⟨hA h0 b off e, h3, h4⟩
  · have h0 : 0 < m := mul_pos' hj
    have : k * sz + j < n * sz := by
      have h3 : (k + m) * sz ≤ n * sz := Nat.mul_le_mul_right _ hk
      rw [Nat.add_mul] at h3; omega
    have := h2 _ this
    rw [← Nat.add_assoc] at this
    exact this
theorem RowAt.cells (h : RowAt w lo hi A n sz f) {b off : Nat} (hA : A = some ⟨b, off, none⟩) : ∀ j, j < n * sz → w.cell? ⟨b, off + j, none⟩ = some (f j) := by
  obtain ⟨b', off', h1, h2⟩ := h
  intro j hj
  obtain ⟨e, _⟩ := h1 (mul_pos' hj)
  rw [hA] at e
  simp at e
  obtain ⟨rfl, rfl⟩ := e
  exact h2 j hj
end

section
variable {e : TypeId} {w w' : World} {lo hi : Nat} {A : Option Addr} {n c sz : Nat} {f : Nat → Value}
theorem range_get (f : Nat → Value) {m j : Nat} (hj : j < m) : ((List.range m).map f)[j]? = some (f j) := by simp [hj]
theorem RowOwn.row (h : RowOwn e w lo hi A n c sz f) : RowAt w lo hi A n sz f := by
  obtain ⟨h1, h2⟩ := h
  rcases h1.2 with ⟨h3, h4⟩ | ⟨g, cap, cur, hv, hlo, hg, _⟩
  · subst h4; exact RowAt.nil _ _ _ _ _ _
  · simp only [Value.slice.injEq, true_and] at hv
    obtain ⟨rfl, rfl⟩ := hv
    refine ⟨g, 0, fun _ => ⟨rfl, hlo, h2 g rfl⟩, fun j hj => ?_⟩
    have := h1.cellAt j hj
    rw [range_get f hj] at this
    rw [Nat.zero_add]; exact this
theorem RowOwn.cases (h : RowOwn e w lo hi A n c sz f) : (A = none ∧ n = 0 ∧ c = 0) ∨ ∃ g, A = some ⟨g, 0, none⟩ ∧ lo ≤ g ∧ g < hi ∧ g < w.heap.size ∧ n ≤ c ∧ (∀ j, w.frozen? ⟨g, j, none⟩ = false) ∧ ∀ j, j < n * sz → w.cell? ⟨g, j, none⟩ = some (f j) := by
  obtain ⟨h1, h2⟩ := h
  rcases h1.2 with ⟨h3, h4⟩ | ⟨g, cap, cur, hv, hlo, hg, hnc, _⟩
  · simp at h3; exact .inl ⟨h3.1, h4, h3.2.2⟩
  · simp only [Value.slice.injEq, true_and] at hv
    obtain ⟨rfl, rfl⟩ := hv
    refine .inr ⟨g, rfl, hlo, h2 g rfl, (Array.getElem?_eq_some_iff.1 hg).1, hnc, fun j => h1.frozenAt j, fun j hj => ?_⟩
    have := h1.cellAt j hj
    rw [range_get f hj] at this
    exact this
theorem RowOwn.only {r : Option Nat} (hne : ∀ g, r = some g → g < lo ∨ hi ≤ g) (h : RowOwn e w lo hi A n c sz f) (hg : w.grownBy w' r) : RowOwn e w' lo hi A n c sz f := by
  refine ⟨h.1.kept hg ?_, h.2⟩
  cases hb : (Value.slice A n c).ownBlock with
  | none => exact .inl rfl
  | some g => exact .inr (fun e => by have h1 := (h.1.lt g hb).1; have h2 := h.2 g hb; have := hne g e.symm; omega)
theorem RowOwn.below {B : Nat} (hB : hi ≤ B) (h : RowOwn e w lo hi A n c sz f) (hb : Below B w w') : RowOwn e w' lo hi A n c sz f := by
  refine ⟨⟨h.1.1, ?_⟩, h.2⟩
  rcases h.1.2 with h3 | ⟨g, cap, cur, hv, hlo, hg, hr⟩
  · exact .inl h3
  · refine .inr ⟨g, cap, cur, hv, hlo, ?_, hr⟩
    have := h.2 g (by rw [hv]; rfl)
    rw [hb.block g (by omega)]; exact hg
theorem grown_alloc (w : World) (o : Obj) (r : Option Nat) : w.grownBy (w.alloc o) r := World.grownBy_alloc w o r
theorem RowOwn.alloc (h : RowOwn e w lo hi A n c sz f) (o : Obj) : RowOwn e (w.alloc o) lo hi A n c sz f := h.only (r := none) (by simp) (World.grownBy_alloc w o none)
theorem RowOwn.drew (h : RowOwn e w lo hi A n c sz f) : RowOwn e w.drew lo hi A n c sz f := h
theorem RowOwn.drewN (h : RowOwn e w lo hi A n c sz f) (k : Nat) : RowOwn e (w.drewN k) lo hi A n c sz f := h
theorem grown_setCell (w : World) (p : Addr) (u : Value) : w.grownBy (w.setCell p u) (some p.block) :=
  ⟨rfl, rfl, rfl, by simp [World.setCell], fun k hk hne => Below.heap_setCell w p u k (fun e => hne (by rw [e]))⟩
theorem RowOwn.setC {p : Addr} (hp : p.block < lo ∨ hi ≤ p.block) (h : RowOwn e w lo hi A n c sz f) (u : Value) : RowOwn e (w.setCell p u) lo hi A n c sz f :=
  h.only (fun g hg => by cases hg; exact hp) (grown_setCell w p u)
theorem RowOwn.congr {f' : Nat → Value} (h : RowOwn e w lo hi A n c sz f) (he : ∀ j, j < n * sz → f j = f' j) : RowOwn e w lo hi A n c sz f' := by
  have : (List.range (n * sz)).map f = (List.range (n * sz)).map f' := List.map_congr_left fun j hj => he j (by simpa using hj)
  exact ⟨this ▸ h.1, h.2⟩
theorem RowOwn.wide (h : RowOwn e w lo hi A n c sz f) {lo' hi' : Nat} (h1 : lo' ≤ lo) (h2 : hi ≤ hi') : RowOwn e w lo' hi' A n c sz f := by
  refine ⟨⟨h.1.1, ?_⟩, fun g hg => Nat.lt_of_lt_of_le (h.2 g hg) h2⟩
  rcases h.1.2 with h3 | ⟨g, cap, cur, hv, hlo, hr⟩
  · exact .inl h3
  · exact .inr ⟨g, cap, cur, hv, Nat.le_trans h1 hlo, hr⟩
theorem RowOwn.made (hi : w.ownsRow lo e sz (.slice A n c) n ((List.range (n * sz)).map f)) : RowOwn e w lo w.heap.size A n c sz f := ⟨hi, fun g hg => (hi.lt g hg).2⟩
/-- Cell j anew. -/
def updF (f : Nat → Value) (j : Nat) (u : Value) : Nat → Value := fun k => if k = j then u else f k
theorem range_set (f : Nat → Value) (m j : Nat) (u : Value) : ((List.range m).map f).set j u = (List.range m).map (updF f j u) := by
  apply List.ext_getElem?
  intro i
  rw [List.getElem?_set]
  by_cases h1 : j = i
  · subst h1
    by_cases h2 : j < m <;> simp [h2, updF]
  · simp only [h1, if_false, List.getElem?_map]
    by_cases h2 : i < m
    · simp [h2, updF, Ne.symm h1]
    · simp [h2]
theorem RowOwn.store {g : Nat} (h : RowOwn e w lo hi (some ⟨g, 0, none⟩) n c sz f) (j : Nat) (u : Value) : RowOwn e (w.setCell ⟨g, j, none⟩ u) lo hi (some ⟨g, 0, none⟩) n c sz (updF f j u) := by
  have h1 := h.1.stored j u
  rw [range_set] at h1
  exact ⟨h1.1, h.2⟩
/-- f, and from place m on f2. -/
def catF (m : Nat) (f f2 : Nat → Value) : Nat → Value := fun j => if j < m then f j else f2 (j - m)
theorem range_cat (f f2 : Nat → Value) (m k : Nat) : (List.range m).map f ++ (List.range k).map f2 = (List.range (m + k)).map (catF m f f2) := by
  apply List.ext_getElem?
  intro i
  rw [List.getElem?_append]
  by_cases h : i < m
  · simp [h, show i < m + k by omega, catF]
  · by_cases h2 : i - m < k
    · simp [h, h2, show i < m + k by omega, catF]
    · simp [h, h2, show ¬ i < m + k by omega]
theorem row_value {v : Value} {xs : List Value} (h : w.ownsRow lo e sz v n xs) : ∃ A c, v = .slice A n c := by
  rcases h.2 with ⟨h1, h2⟩ | ⟨g, cap, cur, hv, _⟩
  · subst h2; exact ⟨none, 0, h1⟩
  · exact ⟨_, cap, hv⟩
end

section
variable {P : Program} (w : World)
theorem run_rowAppend (t ty e : TypeId) (i : TypeInfo) (z : Value) (sz bytes : Nat) (ht : P.underlying t = some (.slice e)) (hi : P.info? e = some i) (hz : i.zero = some z)
    (hsize : i.size = sz) (hby : i.bytes = bytes) (hzs : z.cells.size = sz) (hsz : 0 < sz)
    {lo hh : Nat} {A : Option Addr} {n c : Nat} {f : Nat → Value} (hown : RowOwn e w lo hh A n c sz f) {lo2 hi2 : Nat} {A2 : Option Addr} {m c2 : Nat} {f2 : Nat → Value} (hr : RowAt w lo2 hi2 A2 m sz f2)
    (h1 : ∀ j, j < m * sz → (f2 j).oneCell' = true) (h63 : n + m ≤ maxLen) (hbytes : (n + m) * bytes ≤ 140737488355328) (hbase : lo ≤ w.heap.size) :
    ∃ A' c' w', (Builtin.append_ #[t, t] ty #[.slice A n c, .slice A2 m c2]).run P w = .ok (.slice A' (n + m) c') w' ∧ RowOwn e w' lo w'.heap.size A' (n + m) c' sz (catF (n * sz) f f2) ∧
      w.grownBy w' (Value.slice A n c).ownBlock ∧ ((Value.slice A' (n + m) c').ownBlock = (Value.slice A n c).ownBlock ∨ (Value.slice A' (n + m) c').ownBlock = some w.heap.size) := by
  rcases A2 with _ | ad
  · have hm : m = 0 := by
      obtain ⟨b, off, h3, _⟩ := hr
      rcases Nat.eq_zero_or_pos m with h0 | h0
      · exact h0
      · have := (h3 h0).1; cases this
    subst hm
    refine ⟨A, c, w, ?_, ?_, World.grownBy.refl w _, .inl rfl⟩
    · rcases hown.1.2 with ⟨h, h0⟩ | ⟨g, cap, cur, h, _, _, hnc, _⟩
      · simp at h
        obtain ⟨rfl, _, rfl⟩ := h
        subst h0
        simp [Builtin.append_, run_underlying ht, sizeOf, typeInfo, hi, Builtin.lenOf, Builtin.firstCells]
      · simp only [Value.slice.injEq, true_and] at h
        obtain ⟨rfl, rfl⟩ := h
        simp [Builtin.append_, run_underlying ht, sizeOf, typeInfo, hi, Builtin.lenOf, Builtin.firstCells, hnc, storeCells]
    · refine (RowOwn.congr (f' := catF (n * sz) f f2) ⟨hown.1, fun g hg => (hown.1.lt g hg).2⟩ fun j hj => ?_)
      have hj' : j < n * sz := hj
      show f j = if j < n * sz then f j else f2 (j - n * sz)
      rw [if_pos hj']
  · have hnews : ∀ j u, ((List.range (m * sz)).map f2)[j]? = some u → w.cell? (ad.add j) = some u := by
      intro j u hu
      have hj : j < m * sz := by have := (List.getElem?_eq_some_iff.1 hu).1; simpa using this
      rw [range_get f2 hj] at hu
      cases hu
      obtain ⟨b, off, h3, h4⟩ := hr
      obtain ⟨h5, _⟩ := h3 (mul_pos' hj)
      cases h5
      rw [Addr.add_lit]
      exact h4 j hj
    have hone : ∀ u ∈ (List.range (m * sz)).map f2, u.oneCell' = true := by
      intro u hu
      obtain ⟨j, hj, rfl⟩ := List.mem_map.1 hu
      exact h1 j (by simpa using hj)
    obtain ⟨v', w', hrun, h2, h3, _, h5⟩ := run_append_own_at (P := P) w lo t ty e i z sz bytes ht hi hz hsize hby hzs hsz (.slice A n c) n _ hown.1 ad m c2 _ (by simp) hnews hone h63 hbytes hbase
    obtain ⟨A', c', rfl⟩ := row_value h2
    rw [range_cat, ← Nat.add_mul] at h2
    exact ⟨A', c', w', hrun, RowOwn.made h2, h3, h5⟩

/-- 'append(s, x...)' onto a row of the call's own, at the operation. -/
theorem wpList_rowAppend {ops : Array Oper} {rest : List Oper} {o : Oper} {a : Act} {Q : Exit → Act → World → Prop} (hgd : o.guard = none) (s x : Operand) (t : TypeId)
    (ho : o.op = .call { callee := .builtin .append, args := #[s, x], argTypes := #[t, t] })
    (e : TypeId) (i : TypeInfo) (z : Value) (sz bytes : Nat) (ht : P.underlying t = some (.slice e)) (hi : P.info? e = some i) (hz : i.zero = some z)
    (hsize : i.size = sz) (hby : i.bytes = bytes) (hzs : z.cells.size = sz) (hsz : 0 < sz)
    (lo hh : Nat) (A : Option Addr) (n c : Nat) (f : Nat → Value) (hs : a.eval s = .slice A n c) (hown : RowOwn e w lo hh A n c sz f)
    (lo2 hi2 : Nat) (A2 : Option Addr) (m c2 : Nat) (f2 : Nat → Value) (hx : a.eval x = .slice A2 m c2) (hr : RowAt w lo2 hi2 A2 m sz f2)
    (h1 : ∀ j, j < m * sz → (f2 j).oneCell' = true) (h63 : n + m ≤ maxLen) (hbytes : (n + m) * bytes ≤ 140737488355328) (hbase : lo ≤ w.heap.size)
    (h : ∀ A' c' w', RowOwn e w' lo w'.heap.size A' (n + m) c' sz (catF (n * sz) f f2) → w.grownBy w' (Value.slice A n c).ownBlock →
      ((Value.slice A' (n + m) c').ownBlock = (Value.slice A n c).ownBlock ∨ (Value.slice A' (n + m) c').ownBlock = some w.heap.size) → wpList P ops Q rest (a.put o.dst (.slice A' (n + m) c')) w') : wpList P ops Q (o :: rest) a w := by
  obtain ⟨A', c', w', hrun, h2, h3, h4⟩ := run_rowAppend (P := P) w t o.type e i z sz bytes ht hi hz hsize hby hzs hsz hown hr (c2 := c2) h1 h63 hbytes hbase
  refine wpList_plain hgd fun K hK => ?_
  unfold Oper.wp execOp
  simp only [ho, resolve, invoke, builtin, Sem.run_bind, Sem.run_pure, Result.andThen_ok, List.map_toArray, List.map_cons, List.map_nil, hs, hx, hrun]
  exact hK _ _ (h A' c' w' h2 h3 h4)

/-- The same in a list of operations that stands in a region with an open order. -/
theorem wp_rowAppend {o : Oper} {a : Act} {K : Act → World → Prop} {Q : Exit → Act → World → Prop} (s x : Operand) (t : TypeId)
    (ho : o.op = .call { callee := .builtin .append, args := #[s, x], argTypes := #[t, t] })
    (e : TypeId) (i : TypeInfo) (z : Value) (sz bytes : Nat) (ht : P.underlying t = some (.slice e)) (hi : P.info? e = some i) (hz : i.zero = some z)
    (hsize : i.size = sz) (hby : i.bytes = bytes) (hzs : z.cells.size = sz) (hsz : 0 < sz)
    (lo hh : Nat) (A : Option Addr) (n c : Nat) (f : Nat → Value) (hs : a.eval s = .slice A n c) (hown : RowOwn e w lo hh A n c sz f)
    (lo2 hi2 : Nat) (A2 : Option Addr) (m c2 : Nat) (f2 : Nat → Value) (hx : a.eval x = .slice A2 m c2) (hr : RowAt w lo2 hi2 A2 m sz f2)
    (h1 : ∀ j, j < m * sz → (f2 j).oneCell' = true) (h63 : n + m ≤ maxLen) (hbytes : (n + m) * bytes ≤ 140737488355328) (hbase : lo ≤ w.heap.size)
    (h : ∀ A' c' w', RowOwn e w' lo w'.heap.size A' (n + m) c' sz (catF (n * sz) f f2) → w.grownBy w' (Value.slice A n c).ownBlock →
      ((Value.slice A' (n + m) c').ownBlock = (Value.slice A n c).ownBlock ∨ (Value.slice A' (n + m) c').ownBlock = some w.heap.size) → K (a.put o.dst (.slice A' (n + m) c')) w') : o.wp P a w K Q := by
  obtain ⟨A', c', w', hrun, h2, h3, h4⟩ := run_rowAppend (P := P) w t o.type e i z sz bytes ht hi hz hsize hby hzs hsz hown hr (c2 := c2) h1 h63 hbytes hbase
  unfold Oper.wp execOp
  simp only [ho, resolve, invoke, builtin, Sem.run_bind, Sem.run_pure, Result.andThen_ok, List.map_toArray, List.map_cons, List.map_nil, hs, hx, hrun]
  exact h A' c' w' h2 h3 h4
end

/-! ### rows of structs: element q k has the cells C (q k) 0, C (q k) 1 .. -/
section
variable {α : Type}
def RowF (sz : Nat) (C : α → Nat → Value) (q : Nat → α) : Nat → Value := fun j => C (q (j / sz)) (j % sz)
def updE (q : Nat → α) (k : Nat) (x : α) : Nat → α := fun i => if i = k then x else q i
theorem RowF_at {sz : Nat} {C : α → Nat → Value} {q : Nat → α} {k r : Nat} (hr : r < sz) : RowF sz C q (k * sz + r) = C (q k) r := by
  unfold RowF
  rw [Nat.mul_comm, Nat.mul_add_div (by omega), Nat.div_eq_of_lt hr, Nat.mul_add_mod, Nat.mod_eq_of_lt hr]
  rfl
theorem mul_lt {n sz k r : Nat} (hk : k < n) (hr : r < sz) : k * sz + r < n * sz := by
  have h1 : (k + 1) * sz ≤ n * sz := Nat.mul_le_mul_right _ hk
  rw [Nat.add_mul] at h1; omega
theorem RowAt.elem {w : World} {lo hi : Nat} {A : Option Addr} {n sz : Nat} {C : α → Nat → Value} {q : Nat → α} (h : RowAt w lo hi A n sz (RowF sz C q)) {k : Nat} (hk : k < n) :
    ∃ b off, A = some ⟨b, off, none⟩ ∧ lo ≤ b ∧ b < hi ∧ ∀ r, r < sz → w.cell? ⟨b, off + k * sz + r, none⟩ = some (C (q k) r) := by
  obtain ⟨b, off, h1, h2⟩ := h
  obtain ⟨e, h3, h4⟩ := h1 (by omega)
  refine ⟨b, off, e, h3, h4, fun r hr => ?_⟩
  have := h2 _ (mul_lt hk hr)
  rw [RowF_at hr, ← Nat.add_assoc] at this
  exact this
theorem RowF_put {sz : Nat} (hsz : 0 < sz) {C : α → Nat → Value} {q : Nat → α} {k : Nat} {x : α} {f : Nat → Value} (h1 : ∀ r, r < sz → f (k * sz + r) = C x r) (h2 : ∀ j, j < k * sz ∨ k * sz + sz ≤ j → f j = RowF sz C q j) :
    ∀ j, f j = RowF sz C (updE q k x) j := by
  intro j
  have hd := Nat.div_add_mod j sz
  have hm := Nat.mod_lt j hsz
  by_cases e : j / sz = k
  · have hj : j = k * sz + j % sz := by rw [Nat.mul_comm, ← e]; exact hd.symm
    rw [hj, h1 _ hm, RowF_at hm]
    simp [updE]
  · rw [h2 j ?_]
    · unfold RowF updE
      rw [if_neg e]
    · rcases Nat.lt_or_ge (j / sz) k with h | h
      · left
        have := mul_lt h hm
        rw [Nat.mul_comm sz] at hd; omega
      · right
        have h3 : k + 1 ≤ j / sz := by omega
        have h4 : (k + 1) * sz ≤ j / sz * sz := Nat.mul_le_mul_right _ h3
        rw [Nat.add_mul] at h4
        rw [Nat.mul_comm sz] at hd; omega
theorem RowF_congr {sz n : Nat} {C : α → Nat → Value} {q q' : Nat → α} (hsz : 0 < sz) (h : ∀ i, i < n → q i = q' i) : ∀ j, j < n * sz → RowF sz C q j = RowF sz C q' j := by
  intro j hj
  unfold RowF
  rw [h (j / sz) (Nat.div_lt_of_lt_mul (by rw [Nat.mul_comm]; exact hj))]
/-- What 'make' lays is the zero value, over and over. -/
theorem made_row {e : TypeId} {w : World} {lo : Nat} {A : Option Addr} {n c sz : Nat} {C : α → Nat → Value} {x : α} {zs : Array Value} (hz : zs.size = sz) (hsz : 0 < sz) (hC : ∀ r, r < sz → zs[r]! = C x r)
    (h : w.ownsRow lo e sz (.slice A n c) n (madeCells zs (n * sz)).toList) : RowOwn e w lo w.heap.size A n c sz (RowF sz C fun _ => x) := by
  have : (madeCells zs (n * sz)).toList = (List.range (n * sz)).map (RowF sz C fun _ => x) := by
    apply List.ext_getElem?
    intro i
    by_cases h2 : i < n * sz
    · simp only [madeCells, Array.toList_map, Array.toList_range, List.getElem?_map]
      rw [List.getElem?_range h2]
      simp only [Option.map_some, hz, RowF, hC _ (Nat.mod_lt i hsz)]
    · simp [madeCells, h2]
  rw [this] at h
  exact RowOwn.made h
end
end Go.Proofs.Ytcdpalpoanlbmaa
