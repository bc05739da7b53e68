/- The arguments of the laws, opened: a packet by value. -/
import Derived.Test.YtegdogamenoaiaaOpi
import Derived.Test.YtegdogamenoaiaaPkt
import Derived.Deep.Slices
import Derived.Deep.Fields
import Derived.ChangeSame
namespace Go.Proofs.Ytegdogamenoaiaa
open Go Go.Joins Go.ChangeShapes Go.WideShapes Go.RowKit Go.Deep
set_option linter.unusedVariables false
section
variable {H : Type} {enc : TypeId × Value → H} {w : World} {base : Nat} {spare : Nat → Bool} {held : Bool} {r : Reach} {b0 : Nat} {v : Value} {d : DataW H} {p : List MemPlace}
theorem int_of_trod1 {m : Nat} {u : Value} {y : DataW H × List MemPlace} (h : DataW.trod enc Try.prog w base spare held m 3 [u] = some y) : ∃ x : Int, u = .int .i64 x := by
  obtain ⟨x, e, _, _⟩ := DataW.trod_int Try.underlying3 h
  simp at e
  exact ⟨x, e⟩
theorem bool_of_trod1 {m : Nat} {u : Value} {y : DataW H × List MemPlace} (h : DataW.trod enc Try.prog w base spare held m 4 [u] = some y) : ∃ x : Bool, u = .bool x := by
  obtain ⟨x, e, _⟩ := DataW.trod_bool Try.underlying4 h
  simp at e
  exact ⟨x, e⟩
theorem open_six {t : TypeId} {f0 f1 f2 f3 f4 f5 : Field} (hs : Try.prog.underlying t = some (.struct #[f0, f1, f2, f3, f4, f5])) (hone : oneCellFields Try.prog #[f0, f1, f2, f3, f4, f5] = true) (hC : Try.prog.cellsOf t = 6)
    (hv : Value.okWide Try.prog w r b0 t v) (h : DataW.Trod enc Try.prog w base spare held t v d p) :
    ∃ (c0 c1 c2 c3 c4 c5 : Value) (n : Nat) (y0 y1 y2 y3 y4 y5 : DataW H × List MemPlace), v = .agg #[c0, c1, c2, c3, c4, c5] ∧ DataW.trod enc Try.prog w base spare held n f0.type [c0] = some y0 ∧ DataW.trod enc Try.prog w base spare held n f1.type [c1] = some y1 ∧
      DataW.trod enc Try.prog w base spare held n f2.type [c2] = some y2 ∧ DataW.trod enc Try.prog w base spare held n f3.type [c3] = some y3 ∧ DataW.trod enc Try.prog w base spare held n f4.type [c4] = some y4 ∧ DataW.trod enc Try.prog w base spare held n f5.type [c5] = some y5 := by
  obtain ⟨cs, rfl, hsz⟩ := okWide_struct hs hv
  obtain ⟨l⟩ := cs
  match l, hsz.trans hC with
  | [c0, c1, c2, c3, c4, c5], _ =>
    obtain ⟨fuel, hf⟩ := h
    obtain ⟨xs, n, _, _, _, hlen, hg⟩ := DataW.trod_struct hs hf
    obtain ⟨o0, k0⟩ := hone_of hone 0 f0 rfl
    obtain ⟨o1, k1⟩ := hone_of hone 1 f1 rfl
    obtain ⟨o2, k2⟩ := hone_of hone 2 f2 rfl
    obtain ⟨o3, k3⟩ := hone_of hone 3 f3 rfl
    obtain ⟨o4, k4⟩ := hone_of hone 4 f4 rfl
    obtain ⟨o5, k5⟩ := hone_of hone 5 f5 rfl
    match xs, hlen with
    | [y0, y1, y2, y3, y4, y5], _ =>
      exact ⟨c0, c1, c2, c3, c4, c5, n, y0, y1, y2, y3, y4, y5, rfl, by simpa [Value.cells, o0, k0] using hg 0 f0 rfl, by simpa [Value.cells, o1, k1] using hg 1 f1 rfl, by simpa [Value.cells, o2, k2] using hg 2 f2 rfl,
        by simpa [Value.cells, o3, k3] using hg 3 f3 rfl, by simpa [Value.cells, o4, k4] using hg 4 f4 rfl, by simpa [Value.cells, o5, k5] using hg 5 f5 rfl⟩
theorem open_packet (hv : Value.okWide Try.prog w r b0 38 v) (h : DataW.Trod enc Try.prog w base spare held 38 v d p) :
    ∃ (a b c e : Int) (k z : Bool), v = .agg #[.int .i64 a, .int .i64 b, .int .i64 c, .int .i64 e, .bool k, .bool z] := by
  obtain ⟨c0, c1, c2, c3, c4, c5, n, y0, y1, y2, y3, y4, y5, rfl, t0, t1, t2, t3, t4, t5⟩ := open_six Try.underlying38 (by kernel_rfl) (by kernel_rfl) hv h
  obtain ⟨x0, rfl⟩ := int_of_trod1 t0
  obtain ⟨x1, rfl⟩ := int_of_trod1 t1
  obtain ⟨x2, rfl⟩ := int_of_trod1 t2
  obtain ⟨x3, rfl⟩ := int_of_trod1 t3
  obtain ⟨x4, rfl⟩ := bool_of_trod1 t4
  obtain ⟨x5, rfl⟩ := bool_of_trod1 t5
  exact ⟨x0, x1, x2, x3, x4, x5, rfl⟩
end
end Go.Proofs.Ytegdogamenoaiaa
