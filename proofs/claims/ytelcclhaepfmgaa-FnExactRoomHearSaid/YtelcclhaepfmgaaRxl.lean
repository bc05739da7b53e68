/- Rooms in the exact laws: what both codes answer, for whatever room says the same. -/
import Derived.Test.YtelcclhaepfmgaaRxn
import Derived.Test.YtelcclhaepfmgaaRly
import Derived.Test.YtelcclhaepfmgaaOpm
namespace Go.Proofs.Ytelcclhaepfmgaa
open Go Go.RowKit Go.Maps
set_option linter.unusedVariables false
set_option linter.unusedSimpArgs false
theorem RmHas.full {k : Nat} {f : Nat → Mm} {w w' : World} {e : Ending} (h : RmHas k f w e w') : ∃ B cb M', plain M' = f ∧ RmO w.heap.size B k cb M' w' ∧ e = .returned (.slice B k cb) ∧ Below w.heap.size w w' := by
  obtain ⟨B, cb, M', h1, h2, h3, h4⟩ := h
  refine ⟨B, cb, fun i => if i < k then M' i else ⟨f i, none, 0⟩, funext fun i => ?_, h1.congr fun i hi => (if_pos hi).symm, h3, h4⟩
  unfold plain
  by_cases e : i < k
  · simp only [if_pos e]; exact h2 i e
  · simp only [if_neg e]
theorem Room.excR {X : Nat → Prop} {w w' : World} {lo hi n : Nat} {A : Option Addr} {M : Nat → Mb} (hi' : hi ≤ w.heap.size) (h : Room w lo hi A n M) (hE : Exc X w w') (hX : ∀ k, lo ≤ k → k < hi → ¬ X k) : Room w' lo hi A n M :=
  ⟨h.1.keep fun b o h1 h2 => hE.cell (by omega) (hX b h1 h2), fun i hi2 => RowAt.keep (h.2 i hi2) fun b o h1 h2 => hE.cell (by omega) (hX b h1 h2)⟩
theorem sumN_bd {M : Nat → Mb} : ∀ {k : Nat}, (∀ i, i < k → (M i).p.n ≤ 100) → sumN M k ≤ 100 * k
  | 0, _ => Nat.le_refl _
  | k + 1, h => by
    have := sumN_bd (k := k) fun i hi => h i (by omega)
    have := h k (by omega)
    unfold sumN
    omega
theorem sumN_plain {M M' : Nat → Mb} (h : plain M = plain M') (k : Nat) : sumN M k = sumN M' k := sumN_congr (fun i => congrArg Mm.n (congrFun h i)) k
theorem few100 {n : Nat} {f : Nat → Mm} (h : OkM n f) : n ≤ 6 ∧ ∀ i, i < n → (f i).n ≤ 100 := ⟨h.six, fun i hi => h.few hi⟩
theorem exJoin (r : Nat → Mm) (n : Nat) (id : Int) (s : Bool) (hn : n ≤ 1048576) (hb : ∀ i, i < n → (r i).n ≤ 1048576) : ∃ (K : Nat) (F : Nat → Mm) (ok : Bool), (K ≤ 6 ∧ ∀ i, i < K → (F i).n ≤ 100) ∧
    (∀ W lo hi A c M, plain M = r → Room W lo hi A n M → hi ≤ W.heap.size → n ≤ c → Calls Try.prog 20 #[.slice A n c, .int .i64 id, .bool s] W (RmFull K F ok W)) ∧
    (∀ W lo hi A c M, plain M = r → Room W lo hi A n M → hi ≤ W.heap.size → n ≤ c → Calls Try.prog 21 #[.slice A n c, .int .i64 id, .bool s] W (RmFull K F ok W)) := by
  refine ⟨if joinOk n r id then n + 1 else 0, joinF n r id s, decide (joinOk n r id), ?_, fun W lo hi A c M hp h hh hc => ?_, fun W lo hi A c M hp h hh hc => ?_⟩
  · by_cases hok : joinOk n r id
    · rw [if_pos hok]; exact few100 (joinF_ok hok)
    · rw [if_neg hok]; exact ⟨Nat.zero_le _, fun i hi => absurd hi (by omega)⟩
  · subst hp
    exact ijn_g id s h hh hn hc hb
  · subst hp
    exact sjn_g id s h hh hn hb
theorem exLeave (r : Nat → Mm) (n : Nat) (id : Int) (hn : n ≤ 1048576) (hb : ∀ i, i < n → (r i).n ≤ 1048576) : ∃ (K : Nat) (F : Nat → Mm) (ok : Bool), (K ≤ 6 ∧ ∀ i, i < K → (F i).n ≤ 100) ∧
    (∀ W lo hi A c M, plain M = r → Room W lo hi A n M → hi ≤ W.heap.size → n ≤ c → Calls Try.prog 23 #[.slice A n c, .int .i64 id] W (RmFull K F ok W)) ∧
    (∀ W lo hi A c M, plain M = r → Room W lo hi A n M → hi ≤ W.heap.size → n ≤ c → Calls Try.prog 33 #[.slice A n c, .int .i64 id] W (RmFull K F ok W)) := by
  refine ⟨if leaveOk n r id then n - 1 else 0, leaveF n r id, decide (leaveOk n r id), ?_, fun W lo hi A c M hp h hh hc => ?_, fun W lo hi A c M hp h hh hc => ?_⟩
  · by_cases hok : leaveOk n r id
    · rw [if_pos hok]; exact few100 (leaveF_ok hok)
    · rw [if_neg hok]; exact ⟨Nat.zero_le _, fun i hi => absurd hi (by omega)⟩
  · subst hp
    exact ilv_g id h hh hn hb
  · subst hp
    exact slv_g id h hh hn hb
theorem exHear (r : Nat → Mm) (n : Nat) (id other : Int) (on : Bool) (hn : n ≤ 1048576) (hb : ∀ i, i < n → (r i).n ≤ 1048576) : ∃ (K : Nat) (F : Nat → Mm) (ok : Bool), (K ≤ 6 ∧ ∀ i, i < K → (F i).n ≤ 100) ∧
    (∀ W lo hi A c M, plain M = r → Room W lo hi A n M → hi ≤ W.heap.size → n ≤ c → Calls Try.prog 30 #[.slice A n c, .int .i64 id, .int .i64 other, .bool on] W (RmFull K F ok W)) ∧
    (∀ W lo hi A c M, plain M = r → Room W lo hi A n M → hi ≤ W.heap.size → n ≤ c → Calls Try.prog 31 #[.slice A n c, .int .i64 id, .int .i64 other, .bool on] W (RmFull K F ok W)) := by
  refine ⟨if hearOk n r id other on then n else 0, hearF n r id other on, decide (hearOk n r id other on), ?_, fun W lo hi A c M hp h hh hc => ?_, fun W lo hi A c M hp h hh hc => ?_⟩
  · by_cases hok : hearOk n r id other on
    · rw [if_pos hok]; exact few100 (hearF_ok hok)
    · rw [if_neg hok]; exact ⟨Nat.zero_le _, fun i hi => absurd hi (by omega)⟩
  · subst hp
    exact ihr_g id other on h hh hn hb
  · subst hp
    exact shr_g id other on h hh hn hb
theorem exRoutes (r : Nat → Mm) (n : Nat) (id : Int) (hn : n ≤ 1048576) (hb : ∀ i, i < n → (r i).n ≤ 1048576) : ∃ (K : Nat) (z : Nat → Int), K ≤ 6 ∧
    (∀ W lo hi A c M, plain M = r → Room W lo hi A n M → hi ≤ W.heap.size → n ≤ c → Calls Try.prog 25 #[.slice A n c, .int .i64 id] W (fun e w' => ∃ B cb, OwnI w' W.heap.size w'.heap.size B K cb z ∧ e = .returned (.slice B K cb) ∧ Below W.heap.size W w')) ∧
    (∀ W lo hi A c M, plain M = r → Room W lo hi A n M → hi ≤ W.heap.size → n ≤ c → Calls Try.prog 26 #[.slice A n c, .int .i64 id] W (fun e w' => ∃ B cb, OwnI w' W.heap.size w'.heap.size B K cb z ∧ e = .returned (.slice B K cb) ∧ Below W.heap.size W w')) := by
  refine ⟨(routeL n r id).length, atL (routeL n r id), ?_, fun W lo hi A c M hp h hh hc => ?_, fun W lo hi A c M hp h hh hc => ?_⟩
  · by_cases hok : RmOk n r
    · exact rtL_six hok
    · rw [show routeL n r id = [] from if_neg (fun h => hok h.1)]; exact Nat.zero_le _
  · subst hp
    exact irt_any W lo hi A n c M id h hh hn hb
  · subst hp
    exact srt_any W lo hi A n c M id h hh hn hb
end Go.Proofs.Ytelcclhaepfmgaa
