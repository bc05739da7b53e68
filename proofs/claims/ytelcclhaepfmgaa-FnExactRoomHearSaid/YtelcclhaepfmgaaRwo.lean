/- A list without a number, by the reference. -/
import Derived.Test.YtelcclhaepfmgaaRsk
namespace Go.Proofs.Ytelcclhaepfmgaa
open Go Go.RowKit
set_option linter.unusedVariables false
set_option linter.unusedSimpArgs false
/-- The numbers but v, in their order. -/
def woL (z : Nat → Int) (v : Int) : Nat → List Int
  | 0 => []
  | n + 1 => if z n = v then woL z v n else woL z v n ++ [z n]
theorem woL_len (z : Nat → Int) (v : Int) : ∀ n, (woL z v n).length ≤ n
  | 0 => Nat.le_refl _
  | n + 1 => by
    have := woL_len z v n
    unfold woL
    split
    · omega
    · simp; omega
def atL (l : List Int) : Nat → Int := fun i => l.getD i 0
theorem snoc_L {w : World} {lo hi c : Nat} {A : Option Addr} {l : List Int} {x : Int} {N : Nat} (hN : l.length + 1 = N) (h : RowOwn 3 w lo hi A N c 1 (catF (l.length * 1) (intV (atL l)) (fun _ => .int .i64 x))) : OwnI w lo hi A (l ++ [x]).length c (atL (l ++ [x])) := by
  subst hN
  rw [show (l ++ [x]).length = l.length + 1 by simp]
  refine RowOwn.congr h fun j hj => ?_
  show (if j < l.length * 1 then Value.int .i64 (l.getD j 0) else .int .i64 x) = .int .i64 ((l ++ [x]).getD j 0)
  by_cases e : j < l.length
  · rw [if_pos (by omega)]; simp [List.getD, List.getElem?_append, e]
  · have : j = l.length := by omega
    subst this
    rw [if_neg (by omega)]; simp [List.getD]
set_option maxRecDepth 100000 in
set_option maxHeartbeats 8000000 in
theorem l31Without_any (w : World) (lo hi : Nat) (A : Option Addr) (n c : Nat) (v : Int) (z : Nat → Int) (h : Ints w lo hi A n z) (hi' : hi ≤ w.heap.size) (hn : n ≤ 1048576) :
    Calls Try.prog 58 #[.slice A n c, .int .i64 v] w fun e w' => ∃ B cb, OwnI w' w.heap.size w'.heap.size B (woL z v n).length cb (atL (woL z v n)) ∧ e = .returned (.slice B (woL z v n).length cb) ∧ Below w.heap.size w w' := by
  obtain ⟨i1, r1, r2, r3, r4⟩ := info_parts info_int
  have H := Lib.hid h
  clear h
  go_enter Try.func58, Try.ntmps58
  go_wp2_with fail
  have hS : OwnI (w.alloc (.cells #[] 3)) w.heap.size (w.alloc (.cells #[] 3)).heap.size (some ⟨w.heap.size, 0, none⟩) (woL z v 0).length 0 (atL (woL z v 0)) := (empty_row w 3 1 (intV (atL []))).wide (Nat.le_refl _) (by simp)
  have HS := Lib.hid hS
  clear hS
  go_loopw [5, 6] (fun s i wr => ∃ (k : Nat) (B : Option Addr) (cb L : Nat), k ≤ n ∧ i = .int .i64 (k : Nat) ∧ s = .slice B L cb ∧ Hid (L = (woL z v k).length) ∧ Hid (OwnI wr w.heap.size wr.heap.size B (woL z v k).length cb (atL (woL z v k))) ∧ Hid (Below w.heap.size w wr)) (fun _ i _ => n - (intOf i).toNat)
  case atStart => exact ⟨0, _, 0, 0, Nat.zero_le _, rfl, rfl, Lib.hid rfl, HS, Lib.hid (Ba _ _)⟩
  case round =>
    obtain ⟨k, B, cb, L, hk, rfl, rfl, HL, HO, HB⟩ := hrel
    clear HS
    have hws := HB.out.size
    by_cases hkn : k < n
    rotate_left
    · obtain rfl : k = n := by omega
      have eL := HL.out
      subst eL
      go_wp2_with fail
      go_ret
      exact ⟨B, cb, HO.out, rfl, HB.out⟩
    have hLn : L ≤ k := by have := woL_len z v k; have e := HL.out; omega
    have HR := Lib.hid (H.out.below hi' HB.out)
    obtain ⟨b, off, rfl, _, hb2, c0⟩ := Ints.at_ HR.out hkn
    have hbw : b < wr.heap.size := by omega
    by_cases hv : z k = v
    · have HE := Lib.hid (show woL z v (k + 1) = woL z v k from if_pos hv)
      go_wp2_with fail
      go_roundw
      case rel =>
        have e := HE.out
        refine ⟨k + 1, B, cb, L, by omega, by go_num, rfl, ?_, ?_, HB⟩
        · rw [e]; exact HL
        · rw [e]; exact HO
      case measure => simp [intOf]; omega
    · have HE := Lib.hid (show woL z v (k + 1) = woL z v k ++ [z k] from if_neg hv)
      have hLm : L + 1 ≤ 1048577 := by omega
      have HOL : Hid (OwnI wr w.heap.size wr.heap.size B L cb (atL (woL z v k))) := Lib.hid (by have e := HL.out; rw [e]; exact HO.out)
      go_upto_region 4 with (at_builtin; go_loud (refine wpList_rowAppendN _ rfl (.tmp 20) (.tmp 25) _ rfl 3 i1 _ 1 8 Try.underlying26 r1 r2 r3 r4 rfl (by decide) w.heap.size _ B L cb (intV (atL (woL z v k))) rfl (RowOwn.alloc HOL.out _) _ _ _ 1 1 _ rfl (one_row _ _ _) (L + 1) rfl ?_ (by unfold maxLen; omega) (by omega) (by simp; omega) ?_); (focus (intro i hi; rfl)); intro B6 cb6 w6 hO6 hG6 hL6)
      have HO6 := Lib.hid (show OwnI w6 w.heap.size w6.heap.size B6 (woL z v (k + 1)).length cb6 (atL (woL z v (k + 1))) by
        have e := HE.out
        have e2 := HL.out
        rw [e]
        refine snoc_L (N := L + 1) (by omega) ?_
        rw [← e2]
        exact hO6)
      have HB6 := Lib.hid (show Below w.heap.size w w6 from (HB.out.alloc hws _).grown hG6 (by simp; omega) (fun g hg => (HOL.out.1.lt g hg).1))
      clear hO6 hG6 hL6
      go_wp2_with fail
      go_roundw
      case rel =>
        refine ⟨k + 1, B6, cb6, L + 1, by omega, by go_num, rfl, Lib.hid ?_, HO6, HB6⟩
        have e := HE.out
        have e2 := HL.out
        rw [e, e2]; simp
      case measure => simp [intOf]; omega
end Go.Proofs.Ytelcclhaepfmgaa
