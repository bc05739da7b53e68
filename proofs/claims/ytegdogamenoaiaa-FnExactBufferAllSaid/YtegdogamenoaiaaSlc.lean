/- Parts of a slice, whatever its address. -/
import Derived.Test.YtegdogamenoaiaaBup
import Derived.Test.YtegdogamenoaiaaAny
namespace Go.Proofs.Ytegdogamenoaiaa
open Go Go.RowKit
set_option linter.unusedVariables false
set_option linter.unusedSimpArgs false
theorem below_undrew (B : Nat) (w : World) : Below B w.drew w := ⟨rfl, rfl, rfl, Nat.le_refl _, fun _ _ => rfl⟩
/-- 's[k:]'s address. -/
def fromA (A : Option Addr) (c k sz : Nat) : Option Addr := if c = k then A else A.map (·.add (k * sz))
section
variable {P : Program} {w : World} {o : Oper} {a : Act} {t e : TypeId} {i : TypeInfo} {A : Option Addr} {n c k sz : Nat}
theorem exec_from (x l : Operand) (ho : o.op = .slice t x (some l) none none) (hx : a.eval x = .slice A n c) (hl : a.eval l = .int .i64 (k : Nat)) (ht : P.underlying t = some (.slice e)) (hi : P.info? e = some i) (hs : i.size = sz) (hk : k ≤ n) (hc : n ≤ c) :
    (execOp a.eval o).run P w = .ok (.value (.slice (fromA A c k sz) (n - k) (c - k))) w := by
  unfold execOp
  simp only [ho, hx, hl, Option.map_some, Option.map_none, Instr.sliceAt, Instr.slice, Sem.run_bind, Sem.run_pure, run_underlying ht, Result.andThen_ok, Instr.sliceBounds, Instr.sliceBound, size_of w hi hs]
  have hz : ∀ w, (sizeOf e).run P w = .ok sz w := fun w => size_of w hi hs
  have hv : ∀ w, (asIntOf (.int .i64 (k : Nat))).run P w = .ok (.i64, (k : Int)) w := fun _ => rfl
  simp [hk, hc, fromA, hz, hv, Result.andThen]
theorem exec_upto (x l : Operand) (ho : o.op = .slice t x none (some l) none) (hx : a.eval x = .slice A n c) (hl : a.eval l = .int .i64 (k : Nat)) (ht : P.underlying t = some (.slice e)) (hi : P.info? e = some i) (hs : i.size = sz) (hk : k ≤ c) :
    (execOp a.eval o).run P w = .ok (.value (.slice A k c)) w := by
  unfold execOp
  simp only [ho, hx, hl, Option.map_some, Option.map_none, Instr.sliceAt, Instr.slice, Sem.run_bind, Sem.run_pure, run_underlying ht, Result.andThen_ok, Instr.sliceBounds, Instr.sliceBound, size_of w hi hs]
  have hz : ∀ w, (sizeOf e).run P w = .ok sz w := fun w => size_of w hi hs
  have hv : ∀ w, (asIntOf (.int .i64 (k : Nat))).run P w = .ok (.i64, (k : Int)) w := fun _ => rfl
  simp [hk, hz, hv, Result.andThen, Addr.add]
end
theorem RowAt.from {w : World} {lo hi n c sz k : Nat} {A : Option Addr} {f : Nat → Value} (h : RowAt w lo hi A n sz f) (hk : k ≤ n) (hc : n ≤ c) : RowAt w lo hi (fromA A c k sz) (n - k) sz fun j => f (k * sz + j) :=
  h.part (by omega) fun hm b off e => by subst e; unfold fromA; rw [if_neg (by omega)]; simp [Addr.add]
theorem RowAt.upto {w : World} {lo hi n sz k : Nat} {A : Option Addr} {f : Nat → Value} (h : RowAt w lo hi A n sz f) (hk : k ≤ n) : RowAt w lo hi A k sz f := by
  have := h.part (A' := A) (k := 0) (m := k) (by omega) fun _ b off e => by simpa using e
  simpa using this
theorem wpList_from {P : Program} (w : World) {ops : Array Oper} {rest : List Oper} {o : Oper} {a : Act} {Q : Exit → Act → World → Prop} (hgd : o.guard = none) (x l : Operand) (t e : TypeId) (i : TypeInfo) (sz k n c : Nat) (A : Option Addr)
    (ho : o.op = .slice t x (some l) none none) (hx : a.eval x = .slice A n c) (hl : a.eval l = .int .i64 (k : Nat)) (ht : P.underlying t = some (.slice e)) (hi : P.info? e = some i) (hs : i.size = sz) (hk : k ≤ n) (hc : n ≤ c)
    (h : wpList P ops Q rest (a.put o.dst (.slice (fromA A c k sz) (n - k) (c - k))) w) : wpList P ops Q (o :: rest) a w := by
  have hrun := exec_from (P := P) (w := w) x l ho hx hl ht hi hs hk hc
  refine wpList_plain hgd fun K hK => ?_
  unfold Oper.wp
  rw [hrun]
  exact hK _ _ h
theorem wpList_rowAppendN {P : Program} (w : World) {ops : Array Oper} {rest : List Oper} {o : Oper} {a : Act} {Q : Exit → Act → World → Prop} (hgd : o.guard = none) (s x : Operand) (t : TypeId)
    (ho : o.op = .call { callee := .builtin .append, args := #[s, x], argTypes := #[t, t] })
    (e : TypeId) (i : TypeInfo) (z : Value) (sz bytes : Nat) (ht : P.underlying t = some (.slice e)) (hi : P.info? e = some i) (hz : i.zero = some z)
    (hsize : i.size = sz) (hby : i.bytes = bytes) (hzs : z.cells.size = sz) (hsz : 0 < sz)
    (lo hh : Nat) (A : Option Addr) (n c : Nat) (f : Nat → Value) (hs : a.eval s = .slice A n c) (hown : RowOwn e w lo hh A n c sz f)
    (lo2 hi2 : Nat) (A2 : Option Addr) (m c2 : Nat) (f2 : Nat → Value) (hx : a.eval x = .slice A2 m c2) (hr : RowAt w lo2 hi2 A2 m sz f2) (N : Nat) (hN : n + m = N)
    (h1 : ∀ j, j < m * sz → (f2 j).oneCell' = true) (h63 : N ≤ maxLen) (hbytes : N * bytes ≤ 140737488355328) (hbase : lo ≤ w.heap.size)
    (h : ∀ A' c' w', RowOwn e w' lo w'.heap.size A' N c' sz (catF (n * sz) f f2) → w.grownBy w' (Value.slice A n c).ownBlock →
      ((Value.slice A' N c').ownBlock = (Value.slice A n c).ownBlock ∨ (Value.slice A' N c').ownBlock = some w.heap.size) → wpList P ops Q rest (a.put o.dst (.slice A' N c')) w') : wpList P ops Q (o :: rest) a w := by
  subst hN
  exact wpList_rowAppend w hgd s x t ho e i z sz bytes ht hi hz hsize hby hzs hsz lo hh A n c f hs hown lo2 hi2 A2 m c2 f2 hx hr h1 h63 hbytes hbase h
theorem empty_at (w : World) (t : TypeId) (b sz : Nat) (f : Nat → Value) (hb : b = w.heap.size) : RowOwn t (w.alloc (.cells #[] t)) b (b + 1) (some ⟨b, 0, none⟩) 0 0 sz f := by
  subst hb; exact empty_row w t sz f
theorem hd_row_at (w : World) (b : Nat) (hb : b = w.heap.size) (x : Hd) (t : TypeId) : RowAt (w.alloc (.cells #[.int .i64 x.p.w, .int .i64 x.p.t, .int .i64 x.p.l, .int .i64 x.p.s, .bool x.p.k, .bool x.p.z, .int .i64 x.c] t)) b (b + 1) (some ⟨b, 0, none⟩) 1 7 (HdF fun _ => x) := by
  subst hb; exact hd_row1 w x t
theorem ins_row {w : World} {e : TypeId} {lo hi n k c : Nat} {A : Option Addr} {q : Nat → Hd} {x : Hd} (hk : k ≤ n) (h : RowOwn e w lo hi A (n + 1) c 7 (catF ((k + 1) * 7) (HdF (snocH q k x)) fun j => HdF q (k * 7 + j))) : RowOwn e w lo hi A (n + 1) c 7 (HdF (insH q k x)) := by
  refine RowOwn.congr h fun j hj => ?_
  have hd := Nat.div_add_mod j 7
  show (if j < (k + 1) * 7 then HdC (if j / 7 < k then q (j / 7) else x) (j % 7) else HdC (q ((k * 7 + (j - (k + 1) * 7)) / 7)) ((k * 7 + (j - (k + 1) * 7)) % 7)) = HdC (if j / 7 < k then q (j / 7) else if j / 7 = k then x else q (j / 7 - 1)) (j % 7)
  by_cases h1 : j < (k + 1) * 7
  · rw [if_pos h1]
    by_cases h2 : j / 7 < k
    · rw [if_pos h2, if_pos h2]
    · rw [if_neg h2, if_neg h2, if_pos (by omega)]
  · rw [if_neg h1, if_neg (by omega), if_neg (by omega)]
    rw [show (k * 7 + (j - (k + 1) * 7)) / 7 = j / 7 - 1 by omega, show (k * 7 + (j - (k + 1) * 7)) % 7 = j % 7 by omega]
end Go.Proofs.Ytegdogamenoaiaa
