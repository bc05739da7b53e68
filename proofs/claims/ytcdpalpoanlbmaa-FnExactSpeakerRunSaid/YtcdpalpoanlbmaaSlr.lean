/- Parts of a slice, whatever its address (the generic part of XSlc). -/
import Derived.Test.YtcdpalpoanlbmaaDro
import Derived.Test.YtcdpalpoanlbmaaAny
namespace Go.Proofs.Ytcdpalpoanlbmaa
open Go Go.RowKit
set_option linter.unusedVariables false
set_option linter.unusedSimpArgs false
section
variable {P : Program} (w : World)
theorem size_of {t : TypeId} {i : TypeInfo} {sz : Nat} (hi : P.info? t = some i) (hs : i.size = sz) : (sizeOf t).run P w = .ok sz w := by
  simp [sizeOf, typeInfo, hi, hs]
end
theorem below_undrew (B : Nat) (w : World) : Below B w.drew w := ⟨rfl, rfl, rfl, Nat.le_refl _, fun _ _ => rfl⟩
/-- 's[k:]'s address. -/
def fromA (A : Option Addr) (c k sz : Nat) : Option Addr := if c = k then A else A.map (·.add (k * sz))
section
variable {P : Program} {w : World} {o : Oper} {a : Act} {t e : TypeId} {i : TypeInfo} {A : Option Addr} {n c k sz : Nat}
theorem exec_from (x l : Operand) (ho : o.op = .slice t x (some l) none none) (hx : a.eval x = .slice A n c) (hl : a.eval l = .int .i64 (k : Nat)) (ht : P.underlying t = some (.slice e)) (hi : P.info? e = some i) (hs : i.size = sz) (hk : k ≤ n) (hc : n ≤ c) :
    (execOp a.eval o).run P w = .ok (.value (.slice (fromA A c k sz) (n - k) (c - k))) w := by
  unfold execOp
  simp only [ho, hx, hl, Option.map_some, Option.map_none, Instr.sliceAt, Instr.slice, Sem.run_bind, Sem.run_pure, run_underlying ht, Result.andThen_ok, Instr.sliceBounds, Instr.sliceBound, size_of w hi hs]
  have hz : ∀ w, (sizeOf e).run P w = .ok sz w := fun w => size_of w hi hs
  have hv : ∀ w, (asIntOf (.int .i64 (k : Nat))).run P w = .ok (.i64, (k : Int)) w := fun _ => rfl
  simp [hk, hc, fromA, hz, hv, Result.andThen]
theorem exec_upto (x l : Operand) (ho : o.op = .slice t x none (some l) none) (hx : a.eval x = .slice A n c) (hl : a.eval l = .int .i64 (k : Nat)) (ht : P.underlying t = some (.slice e)) (hi : P.info? e = some i) (hs : i.size = sz) (hk : k ≤ c) :
    (execOp a.eval o).run P w = .ok (.value (.slice A k c)) w := by
  unfold execOp
  simp only [ho, hx, hl, Option.map_some, Option.map_none, Instr.sliceAt, Instr.slice, Sem.run_bind, Sem.run_pure, run_underlying ht, Result.andThen_ok, Instr.sliceBounds, Instr.sliceBound, size_of w hi hs]
  have hz : ∀ w, (sizeOf e).run P w = .ok sz w := fun w => size_of w hi hs
  have hv : ∀ w, (asIntOf (.int .i64 (k : Nat))).run P w = .ok (.i64, (k : Int)) w := fun _ => rfl
  simp [hk, hz, hv, Result.andThen, Addr.add]
end
theorem RowAt.from {w : World} {lo hi n c sz k : Nat} {A : Option Addr} {f : Nat → Value} (h : RowAt w lo hi A n sz f) (hk : k ≤ n) (hc : n ≤ c) : RowAt w lo hi (fromA A c k sz) (n - k) sz fun j => f (k * sz + j) :=
  h.part (by omega) fun hm b off e => by subst e; unfold fromA; rw [if_neg (by omega)]; simp [Addr.add]
theorem RowAt.upto {w : World} {lo hi n sz k : Nat} {A : Option Addr} {f : Nat → Value} (h : RowAt w lo hi A n sz f) (hk : k ≤ n) : RowAt w lo hi A k sz f := by
  have := h.part (A' := A) (k := 0) (m := k) (by omega) fun _ b off e => by simpa using e
  simpa using this
theorem wpList_from {P : Program} (w : World) {ops : Array Oper} {rest : List Oper} {o : Oper} {a : Act} {Q : Exit → Act → World → Prop} (hgd : o.guard = none) (x l : Operand) (t e : TypeId) (i : TypeInfo) (sz k n c : Nat) (A : Option Addr)
    (ho : o.op = .slice t x (some l) none none) (hx : a.eval x = .slice A n c) (hl : a.eval l = .int .i64 (k : Nat)) (ht : P.underlying t = some (.slice e)) (hi : P.info? e = some i) (hs : i.size = sz) (hk : k ≤ n) (hc : n ≤ c)
    (h : wpList P ops Q rest (a.put o.dst (.slice (fromA A c k sz) (n - k) (c - k))) w) : wpList P ops Q (o :: rest) a w := by
  have hrun := exec_from (P := P) (w := w) x l ho hx hl ht hi hs hk hc
  refine wpList_plain hgd fun K hK => ?_
  unfold Oper.wp
  rw [hrun]
  exact hK _ _ h
theorem wpList_rowAppendN {P : Program} (w : World) {ops : Array Oper} {rest : List Oper} {o : Oper} {a : Act} {Q : Exit → Act → World → Prop} (hgd : o.guard = none) (s x : Operand) (t : TypeId)
    (ho : o.op = .call { callee := .builtin .append, args := #[s, x], argTypes := #[t, t] })
    (e : TypeId) (i : TypeInfo) (z : Value) (sz bytes : Nat) (ht : P.underlying t = some (.slice e)) (hi : P.info? e = some i) (hz : i.zero = some z)
    (hsize : i.size = sz) (hby : i.bytes = bytes) (hzs : z.cells.size = sz) (hsz : 0 < sz)
    (lo hh : Nat) (A : Option Addr) (n c : Nat) (f : Nat → Value) (hs : a.eval s = .slice A n c) (hown : RowOwn e w lo hh A n c sz f)
    (lo2 hi2 : Nat) (A2 : Option Addr) (m c2 : Nat) (f2 : Nat → Value) (hx : a.eval x = .slice A2 m c2) (hr : RowAt w lo2 hi2 A2 m sz f2) (N : Nat) (hN : n + m = N)
    (h1 : ∀ j, j < m * sz → (f2 j).oneCell' = true) (h63 : N ≤ maxLen) (hbytes : N * bytes ≤ 140737488355328) (hbase : lo ≤ w.heap.size)
    (h : ∀ A' c' w', RowOwn e w' lo w'.heap.size A' N c' sz (catF (n * sz) f f2) → w.grownBy w' (Value.slice A n c).ownBlock →
      ((Value.slice A' N c').ownBlock = (Value.slice A n c).ownBlock ∨ (Value.slice A' N c').ownBlock = some w.heap.size) → wpList P ops Q rest (a.put o.dst (.slice A' N c')) w') : wpList P ops Q (o :: rest) a w := by
  subst hN
  exact wpList_rowAppend w hgd s x t ho e i z sz bytes ht hi hz hsize hby hzs hsz lo hh A n c f hs hown lo2 hi2 A2 m c2 f2 hx hr h1 h63 hbytes hbase h
theorem empty_at (w : World) (t : TypeId) (b sz : Nat) (f : Nat → Value) (hb : b = w.heap.size) : RowOwn t (w.alloc (.cells #[] t)) b (b + 1) (some ⟨b, 0, none⟩) 0 0 sz f := by
  subst hb; exact empty_row w t sz f
end Go.Proofs.Ytcdpalpoanlbmaa
