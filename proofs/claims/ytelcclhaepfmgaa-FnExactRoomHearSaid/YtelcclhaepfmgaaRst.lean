/- Rooms: what the reference hands back, as a list of members. -/
import Derived.Test.YtelcclhaepfmgaaRsq
namespace Go.Proofs.Ytelcclhaepfmgaa
open Go Go.RowKit
set_option linter.unusedVariables false
set_option linter.unusedSimpArgs false
/-- The first n members as a list. -/
def listR (n : Nat) (r : Nat → Mm) : List Mm := (List.range n).map r
theorem listR_len (n : Nat) (r : Nat → Mm) : (listR n r).length = n := by simp [listR]
theorem listR_get {n i : Nat} {r : Nat → Mm} (h : i < n) : (listR n r).getD i Mm0 = r i := by
  unfold listR
  rw [List.getD_eq_getElem?_getD, List.getElem?_map, List.getElem?_range h]
  rfl
theorem listR_succ (n : Nat) (r : Nat → Mm) : listR (n + 1) r = listR n r ++ [r n] := by simp [listR, List.range_succ]
theorem listR_congr {n : Nat} {r s : Nat → Mm} (h : ∀ i, i < n → r i = s i) : listR n r = listR n s := by
  unfold listR
  exact List.map_congr_left fun i hi => h i (List.mem_range.1 hi)
theorem JoinRet.ret {n a : Nat} {r : Nat → Mm} {x : Mm} {w w' : World} {e : Ending} (h : JoinRet n a r x w e w') : RmRet (listR (n + 1) (insR r a x)) w e w' := by
  obtain ⟨B, cb, M', h1, h2, h3, h4⟩ := h
  unfold RmRet
  rw [listR_len]
  exact ⟨B, cb, M', h1, fun i hi => (h2 i hi).trans (listR_get hi).symm, h3, h4⟩
theorem HearRet.ret {n : Nat} {r : Nat → Mm} {w w' : World} {e : Ending} (h : HearRet n r w e w') : RmRet (listR n r) w e w' := by
  obtain ⟨B, cb, M', h1, h2, h3, h4⟩ := h
  unfold RmRet
  rw [listR_len]
  exact ⟨B, cb, M', h1, fun i hi => (h2 i hi).trans (listR_get hi).symm, h3, h4⟩
end Go.Proofs.Ytelcclhaepfmgaa
