/- The arguments of the laws, opened: slices of slices of ints. -/
import Derived.Test.YtcdpalpoanlbmaaOpi
import Derived.Test.YtcdpalpoanlbmaaSs
import Derived.Deep.Slices
import Derived.Deep.Fields
import Derived.ChangeSame
namespace Go.Proofs.Ytcdpalpoanlbmaa
open Go Go.Joins Go.ChangeShapes Go.WideShapes Go.RowKit Go.Deep
set_option linter.unusedVariables false
set_option linter.unusedSimpArgs false
section
variable {H : Type} {enc : TypeId × Value → H} {w : World} {base : Nat} {spare : Nat → Bool} {held : Bool} {r : Reach} {b0 : Nat} {v : Value} {d : DataW H} {p : List MemPlace}
set_option maxRecDepth 100000 in
/-- The elements of a slice, each as its cells. -/
theorem open_elsS {t e : TypeId} {sz fuel : Nat} {u : Value} {x : DataW H × List MemPlace} (ht : Try.prog.underlying t = some (.slice e)) (hC : Try.prog.cellsOf e = sz) (h0 : 0 < sz) (hf : DataW.trod enc Try.prog w base spare held fuel t [u] = some x) :
    ∃ (A : Option Addr) (n c b off : Nat), u = .slice A n c ∧ n ≤ maxLen ∧ (0 < n → A = some ⟨b, off, none⟩ ∧ b < w.heap.size) ∧
      ∀ i, i < n → ∃ (m : Nat) (cs : List Value) (y : DataW H × List MemPlace), cs.length = sz ∧ (∀ j, j < sz → w.cell? ⟨b, off + (i * sz + j), none⟩ = cs[j]?) ∧ DataW.trod enc Try.prog w base spare held m e cs = some y := by
  rcases Go.Deep.open_slice ht hf with ⟨hcs, _⟩ | ⟨a, len, cap, m, k, D, Pl, hcs, _, hl, hm, hmm, _, hi⟩
  · simp at hcs
    subst hcs
    exact ⟨_, _, _, 0, 0, rfl, Nat.zero_le _, fun h => absurd h (by omega), fun i h => absurd h (by omega)⟩
  · simp at hcs
    subst hcs
    have hnm : len ≤ m := by rw [hmm]; split <;> omega
    rw [hC] at hi
    rcases Nat.eq_zero_or_pos len with hz | hz
    · subst hz
      exact ⟨_, _, _, 0, 0, rfl, Nat.zero_le _, fun h => absurd h (by omega), fun i h => absurd h (by omega)⟩
    · obtain ⟨cs0, hc0, _⟩ := hi 0 (by omega)
      obtain ⟨_, hl0, hat0⟩ := World.cells?_some hc0
      have h1 := hat0 0 h0
      have hc' : w.cell? a = some (cs0[0]'(by omega)) := by
        rw [List.getElem?_eq_getElem (by omega)] at h1
        simpa [Addr.add] using h1
      obtain ⟨b, off, rfl, hb⟩ := cell_spot hc'
      refine ⟨_, _, _, b, off, rfl, by omega, fun _ => ⟨rfl, hb⟩, fun i hi' => ?_⟩
      obtain ⟨cs, hc, ht'⟩ := hi i (by omega)
      obtain ⟨_, hlen, hat⟩ := World.cells?_some hc
      refine ⟨_, cs, _, hlen, fun j hj => ?_, ht'⟩
      have h2 := hat j hj
      rw [Addr.add_lit, Addr.add_lit, Nat.add_assoc] at h2
      exact h2
theorem row_ofPS {α : Type} {P : α → Prop} {sz n lo hi b off : Nat} {A : Option Addr} {C : α → Nat → Value} (x0 : α) (hsz : 0 < sz) (hA : 0 < n → A = some ⟨b, off, none⟩ ∧ lo ≤ b ∧ b < hi) (h : ∀ i, i < n → ∃ x : α, (∀ r, r < sz → w.cell? ⟨b, off + (i * sz + r), none⟩ = some (C x r)) ∧ P x) :
    ∃ q : Nat → α, RowAt w lo hi A n sz (RowF sz C q) ∧ ∀ i, i < n → P (q i) := by
  have hq : ∀ i (hi : i < n), (if hi : i < n then Classical.choose (h i hi) else x0) = Classical.choose (h i hi) := fun i hi => dif_pos hi
  refine ⟨fun i => if hi : i < n then Classical.choose (h i hi) else x0, ⟨b, off, hA, fun j hj => ?_⟩, fun i hi => by show P (if hi : i < n then Classical.choose (h i hi) else x0); rw [hq i hi]; exact (Classical.choose_spec (h i hi)).2⟩
  have h1 : j / sz < n := Nat.div_lt_of_lt_mul (by rw [Nat.mul_comm]; exact hj)
  have h2 := (Classical.choose_spec (h (j / sz) h1)).1 (j % sz) (Nat.mod_lt _ hsz)
  have h3 : j / sz * sz + j % sz = j := by rw [Nat.mul_comm]; exact Nat.div_add_mod j sz
  rw [h3] at h2
  rw [h2]
  show some (C _ (j % sz)) = some (C (if hi : j / sz < n then Classical.choose (h (j / sz) hi) else x0) (j % sz))
  rw [hq _ h1]
theorem cells_intM : Try.prog.cellsOf 3 = 1 := by kernel_rfl
theorem cells_sliceM : Try.prog.cellsOf 25 = 1 := by kernel_rfl
theorem int_of_trodM {m : Nat} {u : Value} {y : DataW H × List MemPlace} (h : DataW.trod enc Try.prog w base spare held m 3 [u] = some y) : ∃ x : Int, u = .int .i64 x := by
  obtain ⟨x, e, _, _⟩ := DataW.trod_int Try.underlying3 h
  simp at e
  exact ⟨x, e⟩
theorem ints_of_trodM {m : Nat} {u : Value} {y : DataW H × List MemPlace} (h : DataW.trod enc Try.prog w base spare held m 25 [u] = some y) : ∃ (A : Option Addr) (n c : Nat) (z : Nat → Int), u = .slice A n c ∧ Ints w 0 w.heap.size A n z ∧ n ≤ maxLen := by
  obtain ⟨A, n, c, b, off, rfl, hn, hA, hc⟩ := open_elsS Try.underlying25 cells_intM (by decide) h
  obtain ⟨q, hq, _⟩ := row_ofPS (w := w) (P := fun _ : Int => True) (sz := 1) (n := n) (lo := 0) (hi := w.heap.size) (A := A) (b := b) (off := off) (C := fun (x : Int) (_ : Nat) => Value.int .i64 x) 0 (by decide) (fun h0 => ⟨(hA h0).1, Nat.zero_le _, (hA h0).2⟩) fun i hi => by
    obtain ⟨m0, cs, y0, hl, hcl, ht⟩ := hc i hi
    match cs, hl with
    | [c0], _ =>
      obtain ⟨x, rfl⟩ := int_of_trodM ht
      exact ⟨x, fun r hr => (hcl r hr).trans (by (obtain rfl : r = 0 := by omega); rfl), trivial⟩
  refine ⟨A, n, c, q, rfl, RowAt.congr hq fun j hj => ?_, hn⟩
  show Value.int .i64 (q (j / 1)) = .int .i64 (q j)
  rw [Nat.div_one]
set_option maxRecDepth 100000 in
theorem open_intss (hv : Value.okWide Try.prog w r b0 23 v) (h : DataW.Trod enc Try.prog w base spare held 23 v d p) :
    ∃ (A : Option Addr) (n c : Nat) (S : Nat → Sr), v = .slice A n c ∧ Mtx w 0 w.heap.size A n S ∧ n ≤ maxLen ∧ ∀ i, i < n → (S i).n ≤ maxLen := by
  obtain ⟨A, n, c, rfl⟩ := okWide_slice Try.underlying23 hv
  obtain ⟨fuel, hf⟩ := h
  obtain ⟨A2, n2, c2, b, off, e, hn, hA, hc⟩ := open_elsS (u := .slice A n c) Try.underlying23 cells_sliceM (by decide) hf
  cases e
  obtain ⟨q, hq, hP⟩ := row_ofPS (w := w) (P := fun x : Sr => Ints w 0 w.heap.size x.A x.n x.z ∧ x.n ≤ maxLen) (sz := 1) (n := n) (lo := 0) (hi := w.heap.size) (A := A) (b := b) (off := off) (C := fun (x : Sr) (_ : Nat) => srV x) Sr0 (by decide) (fun h0 => ⟨(hA h0).1, Nat.zero_le _, (hA h0).2⟩) fun i hi => by
    obtain ⟨m0, cs, y0, hl, hcl, ht⟩ := hc i hi
    match cs, hl with
    | [c0], _ =>
      obtain ⟨A, k, c, z, rfl, hz, hk⟩ := ints_of_trodM ht
      exact ⟨⟨A, k, c, z⟩, fun r hr => (hcl r hr).trans (by (obtain rfl : r = 0 := by omega); rfl), hz, hk⟩
  exact ⟨A, n, c, q, rfl, ⟨RowAt.congr hq fun j hj => by (show srV (q (j / 1)) = srV (q j)); rw [Nat.div_one], fun i hi => (hP i hi).1⟩, hn, fun i hi => (hP i hi).2⟩
end
end Go.Proofs.Ytcdpalpoanlbmaa
