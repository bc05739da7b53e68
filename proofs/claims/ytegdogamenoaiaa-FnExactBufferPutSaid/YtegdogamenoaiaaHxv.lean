/- What the exact law on putting needs: both puts by one contract. -/
import Derived.Test.YtegdogamenoaiaaHxw
import Derived.Test.YtegdogamenoaiaaBdr
namespace Go.Proofs.Ytegdogamenoaiaa
open Go Go.RowKit
set_option linter.unusedVariables false
set_option linter.unusedSimpArgs false
theorem ptN_big {y d : Int} {n : Nat} {q : Nat → Hd} {x : Pk} {now : Int} (hn : n ≤ 1048576) : ptN (ptCode y d n q x now) n ≤ 1048576 := by
  by_cases h : ptOk y d n q x now
  · by_cases h1 : x.w < y
    · rw [pt_late h h1]; exact hn
    · by_cases h2 : holdsB n q x.w = true
      · rw [pt_twice h h1 h2]; exact hn
      · by_cases h3 : 10 ≤ n
        · rw [pt_full h h1 h2 h3]; exact hn
        · rw [pt_fine h h1 h2 h3]; show n + 1 ≤ 1048576; omega
  · rw [pt_bad h]; show 0 ≤ 1048576; omega
theorem gives_bp {y d now : Int} {n : Nat} {q : Nat → Hd} {x : Pk} (hn : n ≤ 1048576) : ∃ (yy dd k : Int) (nn : Nat) (qq : Nat → Hd), nn ≤ 1048576 ∧ ∀ W e w', PutRet y d n q x now W e w' →
    ∃ A c, RowOwn 54 w' W.heap.size w'.heap.size A nn c 7 (HdF qq) ∧ e = .returned (.tuple #[.agg #[.int .i64 yy, .int .i64 dd, .slice A nn c], .int .i64 k]) ∧ Below W.heap.size W w' :=
  ⟨_, _, _, _, _, ptN_big hn, fun W e w' ⟨A, c, he, hr, hb⟩ => ⟨A, c, hr, he, hb⟩⟩
theorem bel_cells {W w1 : World} (hb : Below W.heap.size W w1) (b : Nat) (h1 : b < W.heap.size) {f : Nat → Option Value} (hf : ∀ o : Nat, W.cell? ⟨b, o, none⟩ = f o) (hz : ∀ o : Nat, W.frozen? ⟨b, o, none⟩ = false) : (∀ o : Nat, w1.cell? ⟨b, o, none⟩ = f o) ∧ ∀ o : Nat, w1.frozen? ⟨b, o, none⟩ = false :=
  ⟨fun o => (hb.cell (p := ⟨b, o, none⟩) h1).trans (hf o), fun o => (hb.frozen (p := ⟨b, o, none⟩) h1).trans (hz o)⟩
end Go.Proofs.Ytegdogamenoaiaa
