/- The arguments of the laws, opened: slices of structs of one-cell fields. -/
import Derived.Test.YtmidpodoapggnaaOpi
import Derived.Test.YtmidpodoapggnaaDem
import Derived.Deep.Slices
import Derived.Deep.Fields
import Derived.ChangeSame
namespace Go.Proofs.Ytmidpodoapggnaa
open Go Go.Joins Go.ChangeShapes Go.WideShapes Go.RowKit Go.Deep
set_option linter.unusedVariables false
section
variable {H : Type} {enc : TypeId × Value → H} {w : World} {base : Nat} {spare : Nat → Bool} {held : Bool} {r : Reach} {b0 : Nat} {v : Value} {d : DataW H} {p : List MemPlace}
set_option maxRecDepth 100000 in
/-- Each field of each element is a cell that reads by its own type. -/
theorem open_elems {t e : TypeId} {fs : Array Field} (ht : Try.prog.underlying t = some (.slice e)) (he : Try.prog.underlying e = some (.struct fs)) (hone : oneCellFields Try.prog fs = true) (hC : Try.prog.cellsOf e = fs.size) (h0 : 0 < fs.size)
    (hv : Value.okWide Try.prog w r b0 t v) (h : DataW.Trod enc Try.prog w base spare held t v d p) :
    ∃ (A : Option Addr) (n c b off : Nat), v = .slice A n c ∧ n ≤ maxLen ∧ (0 < n → A = some ⟨b, off, none⟩ ∧ b < w.heap.size) ∧
      ∀ i, i < n → ∀ (j : Nat) (f : Field), fs[j]? = some f → ∃ (m : Nat) (u : Value) (y : DataW H × List MemPlace), w.cell? ⟨b, off + (i * fs.size + j), none⟩ = some u ∧ DataW.trod enc Try.prog w base spare held m f.type [u] = some y := by
  obtain ⟨A, n, c, rfl⟩ := okWide_slice ht hv
  obtain ⟨fuel, hf⟩ := h
  rcases Go.Deep.open_slice ht hf with ⟨hcs, _⟩ | ⟨a, len, cap, m, k, D, Pl, hcs, _, hl, hm, hmm, _, hi⟩
  · simp [Value.cells] at hcs
    obtain ⟨rfl, rfl, rfl⟩ := hcs
    exact ⟨_, _, _, 0, 0, rfl, Nat.zero_le _, fun h => absurd h (by omega), fun i h => absurd h (by omega)⟩
  · simp [Value.cells] at hcs
    obtain ⟨rfl, rfl, rfl⟩ := hcs
    have hnm : n ≤ m := by rw [hmm]; split <;> omega
    have hcell : ∀ i, i < n → ∀ (j : Nat) (f : Field), fs[j]? = some f → ∃ (m : Nat) (u : Value) (y : DataW H × List MemPlace), w.cell? (a.add (i * fs.size + j)) = some u ∧ DataW.trod enc Try.prog w base spare held m f.type [u] = some y := by
      intro i hin j f hj
      obtain ⟨cs', hc, ht'⟩ := hi i (by omega)
      rw [hC] at hc
      obtain ⟨ys, n', _, _, hlen, hyl, hf'⟩ := DataW.trod_struct he ht'
      obtain ⟨_, hcl, hat⟩ := World.cells?_some hc
      obtain ⟨ho, hk⟩ := hone_of hone j f hj
      have hjl : j < fs.size := (Array.getElem?_eq_some_iff.1 hj).1
      have h1 := hf' j f hj
      rw [ho, hk] at h1
      have h2 : (cs'.drop j).take 1 = [cs'[j]'(by omega)] := by
        rw [List.drop_eq_getElem_cons (by omega)]; rfl
      rw [h2] at h1
      have hys : ys[j]? = some (ys[j]'(by omega)) := List.getElem?_eq_getElem (by omega)
      refine ⟨n', _, _, ?_, h1.trans hys⟩
      rw [← Go.Deep.add_add, hat j hjl, List.getElem?_eq_getElem (by omega)]
    rcases Nat.eq_zero_or_pos n with hz | hz
    · subst hz
      exact ⟨_, _, _, 0, 0, rfl, Nat.zero_le _, fun h => absurd h (by omega), fun i h => absurd h (by omega)⟩
    · obtain ⟨m0, u, y, hc, _⟩ := hcell 0 hz 0 fs[0] (by simp [h0])
      have hc' : w.cell? a = some u := by simpa [Addr.add] using hc
      obtain ⟨b, off, rfl, hb⟩ := cell_spot hc'
      refine ⟨_, _, _, b, off, rfl, by omega, fun _ => ⟨rfl, hb⟩, fun i hi' j f hj => ?_⟩
      obtain ⟨m1, u1, y1, h3, h4⟩ := hcell i hi' j f hj
      rw [Addr.add_lit] at h3
      exact ⟨m1, u1, y1, h3, h4⟩
theorem int_of_trod {m : Nat} {u : Value} {y : DataW H × List MemPlace} (h : DataW.trod enc Try.prog w base spare held m 3 [u] = some y) : ∃ x : Int, u = .int .i64 x := by
  obtain ⟨x, e, _, _⟩ := DataW.trod_int Try.underlying3 h
  simp at e
  exact ⟨x, e⟩
/-- A row out of its elements. -/
theorem row_of {α : Type} {sz n lo hi b off : Nat} {A : Option Addr} {C : α → Nat → Value} (x0 : α) (hsz : 0 < sz) (hA : 0 < n → A = some ⟨b, off, none⟩ ∧ lo ≤ b ∧ b < hi) (h : ∀ i, i < n → ∃ x : α, ∀ r, r < sz → w.cell? ⟨b, off + (i * sz + r), none⟩ = some (C x r)) :
    ∃ q : Nat → α, RowAt w lo hi A n sz (RowF sz C q) := by
  refine ⟨fun i => if hi : i < n then Classical.choose (h i hi) else x0, b, off, hA, fun j hj => ?_⟩
  have h1 : j / sz < n := Nat.div_lt_of_lt_mul (by rw [Nat.mul_comm]; exact hj)
  have h2 := Classical.choose_spec (h (j / sz) h1) (j % sz) (Nat.mod_lt _ hsz)
  have h3 : j / sz * sz + j % sz = j := by rw [Nat.mul_comm]; exact Nat.div_add_mod j sz
  rw [h3] at h2
  rw [h2]
  have h4 : (if hi : j / sz < n then Classical.choose (h (j / sz) hi) else x0) = Classical.choose (h (j / sz) h1) := dif_pos h1
  show some (C _ (j % sz)) = some (C (if hi : j / sz < n then Classical.choose (h (j / sz) hi) else x0) (j % sz))
  rw [h4]
end
end Go.Proofs.Ytmidpodoapggnaa
