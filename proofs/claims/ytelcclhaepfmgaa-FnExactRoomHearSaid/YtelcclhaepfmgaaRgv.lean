/- Rooms: what both hand back, in one form. -/
import Derived.Test.YtelcclhaepfmgaaRpm
namespace Go.Proofs.Ytelcclhaepfmgaa
open Go Go.RowKit
set_option linter.unusedVariables false
set_option linter.unusedSimpArgs false
/-- A room of the call's own that says f; and whether there is an answer. -/
def RmGives (k : Nat) (f : Nat → Mm) (ok : Bool) (w : World) (e : Ending) (w' : World) : Prop :=
  ∃ B cb M', RmO w.heap.size B k cb M' w' ∧ (∀ i, i < k → (M' i).p = f i) ∧ e = .returned (.tuple #[.slice B k cb, .bool ok]) ∧ Below w.heap.size w w'
/-- A room of the call's own that says f. -/
def RmHas (k : Nat) (f : Nat → Mm) (w : World) (e : Ending) (w' : World) : Prop :=
  ∃ B cb M', RmO w.heap.size B k cb M' w' ∧ (∀ i, i < k → (M' i).p = f i) ∧ e = .returned (.slice B k cb) ∧ Below w.heap.size w w'
theorem RmGives.congr {k : Nat} {f g : Nat → Mm} {ok : Bool} {w w' : World} {e : Ending} (h : RmGives k f ok w e w') (hf : ∀ i, i < k → f i = g i) : RmGives k g ok w e w' :=
  let ⟨B, cb, M', h1, h2, h3⟩ := h; ⟨B, cb, M', h1, fun i hi => (h2 i hi).trans (hf i hi), h3⟩
theorem RmNo.gives {f : Nat → Mm} {w w' : World} {e : Ending} (h : RmNo w e w') : RmGives 0 f false w e w' :=
  let ⟨b, h1, h2, h3⟩ := h; ⟨_, _, _, h2, fun i hi => absurd hi (by omega), h1, h3⟩
def nmB (m : Mb) : Mb := ⟨nm m.p, m.A, m.c⟩
theorem MbC_nm (m : Mb) (r : Nat) : MbC (nmB m) r = MbC m r := by
  match r with
  | 0 => rfl
  | 1 => rfl
  | _ + 2 => show Value.slice m.A (nm m.p).n m.c = Value.slice m.A m.p.n m.c; rw [nm_n]
theorem ownM_nm (m : Mb) : ownM (nmB m) = ownM m := by
  show (Value.slice m.A (nm m.p).n m.c).ownBlock = _
  rw [nm_n]; rfl
theorem own_nm {w : World} {lo hi : Nat} {m : Mb} (h : OwnI w lo hi m.A m.p.n m.c m.p.z) : OwnI w lo hi (nmB m).A (nmB m).p.n (nmB m).c (nmB m).p.z := by
  show OwnI w lo hi m.A (nm m.p).n m.c (atL (lz m.p))
  rw [nm_n]
  exact h.congr fun j hj => (atL_lz hj).symm
theorem RmO.norm {lo n c : Nat} {B : Option Addr} {M : Nat → Mb} {w : World} (h : RmO lo B n c M w) : RmO lo B n c (fun i => nmB (M i)) w := by
  refine ⟨h.row.congr fun j hj => (MbC_nm _ _).symm, fun i hi => own_nm (h.hears i hi), fun i hi g hg => h.dis i hi g ?_, fun i j hij hj g hg e => h.two i j hij hj g ?_ ?_⟩
  · rwa [ownM_nm] at hg
  · rwa [ownM_nm] at hg
  · rwa [ownM_nm] at e
theorem HearRet.gives {n : Nat} {r : Nat → Mm} {w w' : World} {e : Ending} (h : HearRet n r w e w') : RmGives n (fun i => nm (r i)) true w e w' := by
  obtain ⟨B, cb, M', h1, h2, h3, h4⟩ := h
  exact ⟨B, cb, _, h1.norm, fun i hi => congrArg nm (h2 i hi), h3, h4⟩
theorem JoinRet.gives {n a : Nat} {r : Nat → Mm} {x : Mm} {w w' : World} {e : Ending} (h : JoinRet n a r x w e w') : RmGives (n + 1) (fun i => nm (insR r a x i)) true w e w' := by
  obtain ⟨B, cb, M', h1, h2, h3, h4⟩ := h
  exact ⟨B, cb, _, h1.norm, fun i hi => congrArg nm (h2 i hi), h3, h4⟩
theorem RmRet.gives {k : Nat} {f : Nat → Mm} {w w' : World} {e : Ending} (h : RmRet (listR k f) w e w') : RmGives k (fun i => nm (f i)) true w e w' := by
  obtain ⟨B, cb, M', h1, h2, h3, h4⟩ := h
  rw [listR_len] at h1 h2 h3
  exact ⟨B, cb, _, h1.norm, fun i hi => congrArg nm ((h2 i hi).trans (listR_get hi)), h3, h4⟩
theorem exists_jat (r : Nat → Mm) (v : Int) : ∀ n, ∃ a, JAt n r v a
  | 0 => ⟨0, Nat.le_refl _, fun i h => absurd h (by omega), fun h => absurd h (by omega)⟩
  | n + 1 => by
    obtain ⟨a, h1, h2, h3⟩ := exists_jat r v n
    by_cases e : a < n
    · exact ⟨a, by omega, h2, fun _ => h3 e⟩
    · obtain rfl : a = n := by omega
      by_cases e2 : (r a).id < v
      · refine ⟨a + 1, by omega, fun i hi => ?_, fun h => absurd h (by omega)⟩
        by_cases e3 : i = a
        · subst e3; exact e2
        · exact h2 i (by omega)
      · exact ⟨a, by omega, h2, fun _ => e2⟩
/-- A number in range is a number. -/
theorem wf_id {a : Int} (h : 0 ≤ a ∧ a ≤ 99) : (Lit.int .i64 a).wf = true := by
  obtain ⟨h1, h2⟩ := h
  simp [Lit.wf]
  exact ⟨Int.le_trans (by decide) h1, Int.le_trans h2 (by decide)⟩
end Go.Proofs.Ytelcclhaepfmgaa
