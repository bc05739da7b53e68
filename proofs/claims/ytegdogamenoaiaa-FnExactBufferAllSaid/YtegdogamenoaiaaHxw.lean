/- What the exact laws on buffers need: both takes by one contract; cells and rows under a marking. -/
import Derived.Test.YtegdogamenoaiaaHxm
import Derived.Test.YtegdogamenoaiaaOpb
import Derived.Test.YtegdogamenoaiaaBta
import Derived.Test.YtegdogamenoaiaaBtb
namespace Go.Proofs.Ytegdogamenoaiaa
open Go Go.RowKit
set_option linter.unusedVariables false
set_option linter.unusedSimpArgs false
/-- What both takes hand back. -/
def GivesBT (W : World) (yy dd : Int) (nn : Nat) (qq : Nat → Hd) (a1 a2 a3 a4 : Int) (a5 a6 ok : Bool) (e : Ending) (w' : World) : Prop :=
  ∃ A c, RowOwn 54 w' W.heap.size w'.heap.size A nn c 7 (HdF qq) ∧ e = .returned (.tuple #[.agg #[.int .i64 yy, .int .i64 dd, .slice A nn c], .agg #[.int .i64 a1, .int .i64 a2, .int .i64 a3, .int .i64 a4, .bool a5, .bool a6], .bool ok]) ∧ Below W.heap.size W w'
theorem gives_bt {y d now : Int} {n : Nat} {q : Nat → Hd} (hn : n ≤ 1048576) : ∃ (yy dd : Int) (nn : Nat) (qq : Nat → Hd) (a1 a2 a3 a4 : Int) (a5 a6 ok : Bool), nn ≤ 1048576 ∧ ∀ W e w', TakeRet y d n q now W e w' → GivesBT W yy dd nn qq a1 a2 a3 a4 a5 a6 ok e w' := by
  by_cases h : tkOk y d n q now
  · refine ⟨(q 0).p.w + 1, d, n - 1, sucQ q, (q 0).p.w, (q 0).p.t, (q 0).p.l, (q 0).p.s, (q 0).p.k, (q 0).p.z, true, by omega, fun W e w' hr => ?_⟩
    rcases hr with ⟨h1, _⟩ | ⟨_, A, c, he, hr, hb⟩
    · exact absurd h h1
    · exact ⟨A, c, hr, he, hb⟩
  · refine ⟨0, 0, 0, q, 0, 0, 0, 0, false, false, false, by omega, fun W e w' hr => ?_⟩
    rcases hr with ⟨_, he, hb⟩ | ⟨h1, _⟩
    · exact ⟨none, 0, ⟨⟨by simp, .inl ⟨rfl, rfl⟩⟩, fun g hg => by cases hg⟩, he, hb⟩
    · exact absurd h1 h
theorem own_le {e : TypeId} {w : World} {lo hi n c sz : Nat} {A : Option Addr} {f : Nat → Value} (h : RowOwn e w lo hi A n c sz f) : n ≤ c := by
  rcases RowOwn.cases h with ⟨_, h1, h2⟩ | ⟨g, _, _, _, _, h1, _⟩
  · omega
  · exact h1
theorem grown_cell {w w' : World} {r : Option Nat} (h : w.grownBy w' r) {b : Nat} (hb : b < w.heap.size) (hne : some b ≠ r) (o : Nat) : w'.cell? ⟨b, o, none⟩ = w.cell? ⟨b, o, none⟩ := by
  simp only [World.cell?, h.block b hb hne]
theorem grown_below {w wx w' : World} {r : Option Nat} (h : Below w.heap.size w wx) (hg : wx.grownBy w' r) (hr : ∀ g, r = some g → w.heap.size ≤ g) : Below w.heap.size w w' :=
  h.trans ⟨hg.os, hg.tape, hg.output, hg.size, fun i hi => hg.block i (by have := h.size; omega) (fun e => by have := hr i e.symm; omega)⟩
end Go.Proofs.Ytegdogamenoaiaa
