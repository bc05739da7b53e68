/- The arguments of the laws, opened: a buffer (a struct with a slice of structs in which a struct lies). -/
import Derived.Test.YtegdogamenoaiaaOpi
import Derived.Test.YtegdogamenoaiaaOpp
import Derived.Test.YtegdogamenoaiaaHdr7
import Derived.Deep.Slices
import Derived.Deep.Fields
import Derived.ChangeSame
namespace Go.Proofs.Ytegdogamenoaiaa
open Go Go.Joins Go.ChangeShapes Go.WideShapes Go.RowKit Go.Deep
set_option linter.unusedVariables false
set_option linter.unusedSimpArgs false
section
variable {H : Type} {enc : TypeId × Value → H} {w : World} {base : Nat} {spare : Nat → Bool} {held : Bool} {r : Reach} {b0 : Nat} {v : Value} {d : DataW H} {p : List MemPlace}
set_option maxRecDepth 100000 in
/-- The elements of a slice, each as its cells. -/
theorem open_els {t e : TypeId} {sz fuel : Nat} {u : Value} {x : DataW H × List MemPlace} (ht : Try.prog.underlying t = some (.slice e)) (hC : Try.prog.cellsOf e = sz) (h0 : 0 < sz) (hf : DataW.trod enc Try.prog w base spare held fuel t [u] = some x) :
    ∃ (A : Option Addr) (n c b off : Nat), u = .slice A n c ∧ n ≤ maxLen ∧ (0 < n → A = some ⟨b, off, none⟩ ∧ b < w.heap.size) ∧
      ∀ i, i < n → ∃ (m : Nat) (cs : List Value) (y : DataW H × List MemPlace), cs.length = sz ∧ (∀ j, j < sz → w.cell? ⟨b, off + (i * sz + j), none⟩ = cs[j]?) ∧ DataW.trod enc Try.prog w base spare held m e cs = some y := by
  rcases Go.Deep.open_slice ht hf with ⟨hcs, _⟩ | ⟨a, len, cap, m, k, D, Pl, hcs, _, hl, hm, hmm, _, hi⟩
  · simp at hcs
    subst hcs
    exact ⟨_, _, _, 0, 0, rfl, Nat.zero_le _, fun h => absurd h (by omega), fun i h => absurd h (by omega)⟩
  · simp at hcs
    subst hcs
    have hnm : len ≤ m := by rw [hmm]; split <;> omega
    rw [hC] at hi
    rcases Nat.eq_zero_or_pos len with hz | hz
    · subst hz
      exact ⟨_, _, _, 0, 0, rfl, Nat.zero_le _, fun h => absurd h (by omega), fun i h => absurd h (by omega)⟩
    · obtain ⟨cs0, hc0, _⟩ := hi 0 (by omega)
      obtain ⟨_, hl0, hat0⟩ := World.cells?_some hc0
      have h1 := hat0 0 h0
      have hc' : w.cell? a = some (cs0[0]'(by omega)) := by
        rw [List.getElem?_eq_getElem (by omega)] at h1
        simpa [Addr.add] using h1
      obtain ⟨b, off, rfl, hb⟩ := cell_spot hc'
      refine ⟨_, _, _, b, off, rfl, by omega, fun _ => ⟨rfl, hb⟩, fun i hi' => ?_⟩
      obtain ⟨cs, hc, ht'⟩ := hi i (by omega)
      obtain ⟨_, hlen, hat⟩ := World.cells?_some hc
      refine ⟨_, cs, _, hlen, fun j hj => ?_, ht'⟩
      have h2 := hat j hj
      rw [Addr.add_lit, Addr.add_lit, Nat.add_assoc] at h2
      exact h2
theorem row_of7 {α : Type} {sz n lo hi b off : Nat} {A : Option Addr} {C : α → Nat → Value} (x0 : α) (hsz : 0 < sz) (hA : 0 < n → A = some ⟨b, off, none⟩ ∧ lo ≤ b ∧ b < hi) (h : ∀ i, i < n → ∃ x : α, ∀ r, r < sz → w.cell? ⟨b, off + (i * sz + r), none⟩ = some (C x r)) :
    ∃ q : Nat → α, RowAt w lo hi A n sz (RowF sz C q) := by
  refine ⟨fun i => if hi : i < n then Classical.choose (h i hi) else x0, b, off, hA, fun j hj => ?_⟩
  have h1 : j / sz < n := Nat.div_lt_of_lt_mul (by rw [Nat.mul_comm]; exact hj)
  have h2 := Classical.choose_spec (h (j / sz) h1) (j % sz) (Nat.mod_lt _ hsz)
  have h3 : j / sz * sz + j % sz = j := by rw [Nat.mul_comm]; exact Nat.div_add_mod j sz
  rw [h3] at h2
  rw [h2]
  have h4 : (if hi : j / sz < n then Classical.choose (h (j / sz) hi) else x0) = Classical.choose (h (j / sz) h1) := dif_pos h1
  show some (C _ (j % sz)) = some (C (if hi : j / sz < n then Classical.choose (h (j / sz) hi) else x0) (j % sz))
  rw [h4]
theorem cells_held : Try.prog.cellsOf 80 = 7 := by kernel_rfl
theorem cells_packet : Try.prog.cellsOf 38 = 6 := by kernel_rfl
theorem cells_int0 : Try.prog.cellsOf 3 = 1 := by kernel_rfl
theorem cells_bool0 : Try.prog.cellsOf 4 = 1 := by kernel_rfl
set_option maxRecDepth 100000 in
set_option maxHeartbeats 1000000 in
theorem held_cells {m : Nat} {cs : List Value} {y : DataW H × List MemPlace} (hl : cs.length = 7) (h : DataW.trod enc Try.prog w base spare held m 80 cs = some y) :
    ∃ x : Hd, ∀ j, j < 7 → cs[j]? = some (HdC x j) := by
  match cs, hl with
  | [c0, c1, c2, c3, c4, c5, c6], _ =>
    obtain ⟨xs, n, _, _, _, hlen, hg⟩ := DataW.trod_struct Try.underlying80 h
    match xs, hlen with
    | [y0, y1], _ =>
      have g0 := hg 0 _ rfl
      have g1 := hg 1 _ rfl
      simp only [cells_packet, cells_int0, List.drop, List.take, List.getElem?_cons_zero, List.getElem?_cons_succ] at g0 g1
      obtain ⟨zs, n', _, _, _, hlen', hg'⟩ := DataW.trod_struct Try.underlying38 g0
      match zs, hlen' with
      | [z0, z1, z2, z3, z4, z5], _ =>
        have k0 := hg' 0 _ rfl
        have k1 := hg' 1 _ rfl
        have k2 := hg' 2 _ rfl
        have k3 := hg' 3 _ rfl
        have k4 := hg' 4 _ rfl
        have k5 := hg' 5 _ rfl
        simp only [cells_int0, cells_bool0, List.drop, List.take, List.getElem?_cons_zero, List.getElem?_cons_succ] at k0 k1 k2 k3 k4 k5
        obtain ⟨x0, rfl⟩ := int_of_trod1 k0
        obtain ⟨x1, rfl⟩ := int_of_trod1 k1
        obtain ⟨x2, rfl⟩ := int_of_trod1 k2
        obtain ⟨x3, rfl⟩ := int_of_trod1 k3
        obtain ⟨x4, rfl⟩ := bool_of_trod1 k4
        obtain ⟨x5, rfl⟩ := bool_of_trod1 k5
        obtain ⟨x6, rfl⟩ := int_of_trod1 g1
        refine ⟨⟨⟨x0, x1, x2, x3, x4, x5⟩, x6⟩, fun j hj => ?_⟩
        rcases (by omega : j = 0 ∨ j = 1 ∨ j = 2 ∨ j = 3 ∨ j = 4 ∨ j = 5 ∨ j = 6) with rfl | rfl | rfl | rfl | rfl | rfl | rfl <;> rfl
set_option maxRecDepth 100000 in
theorem open_buffer (hv : Value.okWide Try.prog w r b0 24 v) (h : DataW.Trod enc Try.prog w base spare held 24 v d p) :
    ∃ (y e : Int) (A : Option Addr) (n c : Nat) (q : Nat → Hd), v = .agg #[.int .i64 y, .int .i64 e, .slice A n c] ∧ RowAt w 0 w.heap.size A n 7 (HdF q) ∧ n ≤ maxLen := by
  obtain ⟨c0, c1, c2, y0, y1, y2, m, rfl, _, _, h0, h1, h2⟩ := open_agg3 Try.underlying24 (by kernel_rfl) (by kernel_rfl) hv h
  obtain ⟨x, rfl⟩ := int_of_trod1 h0
  obtain ⟨z, rfl⟩ := int_of_trod1 h1
  obtain ⟨A, n, c, b, off, rfl, hn, hA, hc⟩ := open_els Try.underlying22 cells_held (by decide) h2
  obtain ⟨q, hq⟩ := row_of7 (w := w) (sz := 7) (n := n) (lo := 0) (hi := w.heap.size) (A := A) (b := b) (off := off) (C := HdC) Hd0 (by decide) (fun h0 => ⟨(hA h0).1, Nat.zero_le _, (hA h0).2⟩) fun i hi => by
    obtain ⟨m0, cs, y0, hl, hcl, ht⟩ := hc i hi
    obtain ⟨x, hx⟩ := held_cells hl ht
    exact ⟨x, fun j hj => (hcl j hj).trans (hx j hj)⟩
  exact ⟨x, z, A, n, c, q, rfl, hq, hn⟩
end
end Go.Proofs.Ytegdogamenoaiaa
