/- A map of the call's own from ints to slices, as a function: what a look-up gives, what a store leaves. -/
import Derived.Test.YtelcclhaepfmgaaInts
import Derived.Maps.OwnOps
import Derived.Maps.OwnSet
namespace Go.Proofs.Ytelcclhaepfmgaa
open Go Go.RowKit Go.Maps
set_option linter.unusedVariables false
set_option linter.unusedSimpArgs false
theorem keyedInt : Keyed Try.prog 3 := int_keyed Try.underlying3
theorem zeroSl (w : World) : (zeroValue 26).run Try.prog w = .ok (.slice none 0 0) w := by kernel_rfl
/-- Every value reads, as itself. -/
def RV (v : Value) : Option (DataW Value × List MemPlace) := some (.held v, [])
/-- Block b is a map of at most n entries that gives f. -/
def MapOf (w : World) (b n : Nat) (f : Int → Value) : Prop := ∃ D : DataW Value, w.ownsMap Try.prog 3 RV b n D ∧ ∀ a : Int, (Lit.int .i64 a).wf = true → D.atKey (.int .i64 a) (.held (.slice none 0 0)) = .held (f a)
theorem key_int {a : Int} (h : (Lit.int .i64 a).wf = true) : keyOf Try.prog 3 (.int .i64 a) = some (.int .i64 a) := keyOf_int_mk Try.underlying3 h
theorem MapOf.made (w : World) : MapOf (w.alloc (.map #[] 0)) w.heap.size 0 (fun _ => .slice none 0 0) := ⟨.map [], World.ownsMap_made _ _ _ _, fun a _ => rfl⟩
theorem MapOf.lt {w : World} {b n : Nat} {f : Int → Value} (h : MapOf w b n f) : b < w.heap.size := let ⟨_, h1, _⟩ := h; h1.lt
theorem MapOf.mono {w : World} {b n n' : Nat} {f : Int → Value} (h : MapOf w b n f) (hn : n ≤ n') : MapOf w b n' f := let ⟨D, h1, h2⟩ := h; ⟨D, h1.mono hn, h2⟩
theorem MapOf.only {w w' : World} {b n : Nat} {f : Int → Value} {r : Option Nat} (h : MapOf w b n f) (hg : w.grownBy w' r) (hne : some b ≠ r) : MapOf w' b n f := let ⟨D, h1, h2⟩ := h; ⟨D, h1.kept hg hne, h2⟩
theorem MapOf.below {w w' : World} {b n B : Nat} {f : Int → Value} (h : MapOf w b n f) (hb : Below B w w') (hB : b < B) : MapOf w' b n f := by
  obtain ⟨D, ⟨es, clock, h1, h3⟩, h2⟩ := h
  exact ⟨D, ⟨es, clock, (hb.block b hB).trans h1, h3⟩, h2⟩
theorem MapOf.alloc {w : World} {b n : Nat} {f : Int → Value} (h : MapOf w b n f) (o : Obj) : MapOf (w.alloc o) b n f := h.only (World.grownBy_alloc w o none) (by simp)
theorem MapOf.drew {w : World} {b n : Nat} {f : Int → Value} (h : MapOf w b n f) : MapOf w.drew b n f := h
theorem MapOf.look {w : World} {b n : Nat} {f : Int → Value} (h : MapOf w b n f) {a : Int} (ha : (Lit.int .i64 a).wf = true) : (Instr.lookup 60 (.map (some b)) (.int .i64 a) false).run Try.prog w = .ok (f a) w := by
  obtain ⟨D, h1, h2⟩ := h
  obtain ⟨v, ps, hrun, hv⟩ := h1.lookup keyedInt Try.underlying60 (zeroSl w) (zd := .held (.slice none 0 0)) (zp := []) rfl (key_int ha)
  rw [h2 a ha] at hv
  cases hv
  exact hrun
theorem MapOf.put {w : World} {b n : Nat} {f : Int → Value} (h : MapOf w b n f) (hn : n < maxLen) {a : Int} (ha : (Lit.int .i64 a).wf = true) (v : Value) :
    ∃ w', (Instr.mapUpdate 60 (.map (some b)) (.int .i64 a) v).run Try.prog w = .ok () w' ∧ MapOf w' b (n + 1) (fun x => if x = a then v else f x) ∧ w.grownBy w' (some b) := by
  obtain ⟨D, h1, h2⟩ := h
  obtain ⟨w', hrun, h3, hg⟩ := h1.update keyedInt Try.underlying60 hn (key_int ha) (val := v) (d := .held v) (ps := []) rfl
  refine ⟨w', hrun, ⟨_, h3, fun x hx => ?_⟩, hg⟩
  by_cases e : x = a
  · subst e
    simp only [if_true]
    exact atKey_put_same h1.isMap (keyedInt.key (key_int hx)) _ _
  · show _ = DataW.held (if x = a then v else f x)
    rw [if_neg e]
    exact (atKey_put_other (fun e2 => e (by cases e2; rfl)) _ _).trans (h2 x hx)
section
variable {ops : Array Oper} {rest : List Oper} {o : Oper} {a : Act} {Q : Exit → Act → World → Prop}
theorem wpList_mapLook (w : World) (hg : o.guard = none) (m x : Operand) (hop : o.op = Op.lookup 60 m x false) {b n : Nat} {f : Int → Value} (hm : a.eval m = .map (some b)) (h : MapOf w b n f) (k : Int) (hx : a.eval x = .int .i64 k) (hk : (Lit.int .i64 k).wf = true)
    (hK : wpList Try.prog ops Q rest (a.put o.dst (f k)) w) : wpList Try.prog ops Q (o :: rest) a w := by
  refine wpList_plain hg fun K' hK' => ?_
  have hrun := h.look hk
  unfold Oper.wp
  simp [execOp, hop, hm, hx, hrun, Result.andThen]
  exact hK' _ _ hK
theorem wpList_mapPut (w : World) (hg : o.guard = none) (m x v : Operand) (hop : o.op = Op.mapUpdate 60 m x v) {b n : Nat} {f : Int → Value} (hm : a.eval m = .map (some b)) (h : MapOf w b n f) (hn : n < maxLen) (k : Int) (u : Value) (hx : a.eval x = .int .i64 k) (hv : a.eval v = u) (hk : (Lit.int .i64 k).wf = true)
    (hK : ∀ w', MapOf w' b (n + 1) (fun x => if x = k then u else f x) → w.grownBy w' (some b) → wpList Try.prog ops Q rest (a.put o.dst undef) w') : wpList Try.prog ops Q (o :: rest) a w := by
  refine wpList_plain hg fun K' hK' => ?_
  obtain ⟨w', hrun, h1, h2⟩ := h.put hn hk u
  unfold Oper.wp
  simp [execOp, hop, hm, hx, hv, hrun, Result.andThen]
  exact hK' _ _ (hK w' h1 h2)
end
end Go.Proofs.Ytelcclhaepfmgaa
