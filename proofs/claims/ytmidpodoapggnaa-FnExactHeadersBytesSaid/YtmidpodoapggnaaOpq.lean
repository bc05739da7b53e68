/- The arguments of the laws, opened: packets. -/
import Derived.Test.YtmidpodoapggnaaOpi
import Derived.Test.YtmidpodoapggnaaOpd
import Derived.Test.YtmidpodoapggnaaOpp
import Derived.Test.YtmidpodoapggnaaPkr
import Derived.Deep.Slices
import Derived.Deep.Fields
import Derived.ChangeSame
namespace Go.Proofs.Ytmidpodoapggnaa
open Go Go.Joins Go.ChangeShapes Go.WideShapes Go.RowKit Go.Deep
set_option linter.unusedVariables false
section
variable {H : Type} {enc : TypeId × Value → H} {w : World} {base : Nat} {spare : Nat → Bool} {held : Bool} {r : Reach} {b0 : Nat} {v : Value} {d : DataW H} {p : List MemPlace}
set_option maxRecDepth 100000 in
theorem open_packets (hv : Value.okWide Try.prog w r b0 62 v) (h : DataW.Trod enc Try.prog w base spare held 62 v d p) :
    ∃ (A : Option Addr) (n c : Nat) (q : Nat → Pk), v = .slice A n c ∧ RowAt w 0 w.heap.size A n 6 (PkF q) ∧ n ≤ maxLen := by
  obtain ⟨A, n, c, b, off, rfl, hn, hA, hc⟩ := open_elems Try.underlying62 Try.underlying96 (by kernel_rfl) (by kernel_rfl) (by decide) hv h
  obtain ⟨q, hq⟩ := row_of (w := w) (sz := 6) (n := n) (lo := 0) (hi := w.heap.size) (A := A) (b := b) (off := off) (C := PkC) Pk0 (by decide) (fun h0 => ⟨(hA h0).1, Nat.zero_le _, (hA h0).2⟩) fun i hi => by
    obtain ⟨m0, u0, y0, a0, t0⟩ := hc i hi 0 _ rfl
    obtain ⟨m1, u1, y1, a1, t1⟩ := hc i hi 1 _ rfl
    obtain ⟨m2, u2, y2, a2, t2⟩ := hc i hi 2 _ rfl
    obtain ⟨m3, u3, y3, a3, t3⟩ := hc i hi 3 _ rfl
    obtain ⟨m4, u4, y4, a4, t4⟩ := hc i hi 4 _ rfl
    obtain ⟨m5, u5, y5, a5, t5⟩ := hc i hi 5 _ rfl
    obtain ⟨x0, rfl⟩ := int_of_trod t0
    obtain ⟨x1, rfl⟩ := int_of_trod t1
    obtain ⟨x2, rfl⟩ := int_of_trod t2
    obtain ⟨x3, rfl⟩ := int_of_trod t3
    obtain ⟨x4, rfl⟩ := bool_of_trod1 t4
    obtain ⟨x5, rfl⟩ := bool_of_trod1 t5
    refine ⟨⟨x0, x1, x2, x3, x4, x5⟩, fun r hr => ?_⟩
    rcases (by omega : r = 0 ∨ r = 1 ∨ r = 2 ∨ r = 3 ∨ r = 4 ∨ r = 5) with rfl | rfl | rfl | rfl | rfl | rfl
    · exact a0
    · exact a1
    · exact a2
    · exact a3
    · exact a4
    · exact a5
  exact ⟨A, n, c, q, rfl, hq, hn⟩
end
end Go.Proofs.Ytmidpodoapggnaa
