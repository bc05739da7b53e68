/- Rooms: a hearing: a member that does not hear another one any more. -/
import Derived.Test.YtelcclhaepfmgaaRht
namespace Go.Proofs.Ytelcclhaepfmgaa
open Go Go.RowKit Go.Maps
set_option linter.unusedVariables false
set_option linter.unusedSimpArgs false
/-- A hearing in which id hears what L says. -/
def PutRet (w : World) (b m : Nat) (f : Int → Value) (id : Int) (L : List Int) (e : Ending) (w' : World) : Prop :=
  ∃ B cb, e = .returned (.tuple #[]) ∧ MapOf w' b (m + 1) (fun x => if x = id then .slice B L.length cb else f x) ∧ OwnI w' w.heap.size w'.heap.size B L.length cb (atL L) ∧ Exc (fun g => g = b) w w'
set_option maxRecDepth 100000 in
set_option maxHeartbeats 8000000 in
theorem idrop_any (w : World) (lo hi b m : Nat) (f : Int → Value) (A : Option Addr) (n c : Nat) (id v : Int) (z : Nat → Int) (hm : MapOf w b m f) (hm' : m ≤ 1048576) (hid : (Lit.int .i64 id).wf = true) (hf : f id = .slice A n c) (h : Ints w lo hi A n z) (hi' : hi ≤ w.heap.size) (hn : n ≤ 1048576) :
    Calls Try.prog 53 #[.map (some b), .int .i64 id, .int .i64 v] w (PutRet w b m f id (woL z v n)) := by
  obtain ⟨i1, r1, r2, r3, r4⟩ := info_parts info_int
  have hbs := hm.lt
  have H := Lib.hid h
  have HM := Lib.hid hm
  have HW := Lib.hid hid
  have HF := Lib.hid hf
  clear h hm hid hf
  go_enter Try.func53, Try.ntmps53
  go_upto_region 2 with (refine wpList_mapLook _ rfl (.tmp 10) (.tmp 11) rfl (b := b) (f := f) (by rfl) (HM.out.alloc _) id (by rfl) HW.out ?_; rw [HF.out])
  go_wp2_with fail
  have hS : OwnI (w.alloc (.cells #[] 3)) w.heap.size (w.alloc (.cells #[] 3)).heap.size (some ⟨w.heap.size, 0, none⟩) (woL z v 0).length 0 (atL (woL z v 0)) := (empty_row w 3 1 (intV (atL []))).wide (Nat.le_refl _) (by simp)
  have HS := Lib.hid hS
  clear hS
  go_loopw [6, 14] (fun s i wr => ∃ (k : Nat) (B : Option Addr) (cb L : Nat), k ≤ n ∧ i = .int .i64 (k : Nat) ∧ s = .slice B L cb ∧ Hid (L = (woL z v k).length) ∧ Hid (OwnI wr w.heap.size wr.heap.size B (woL z v k).length cb (atL (woL z v k))) ∧ Hid (Below w.heap.size w wr)) (fun _ i _ => n - (intOf i).toNat)
  case atStart => exact ⟨0, _, 0, 0, Nat.zero_le _, rfl, rfl, Lib.hid rfl, HS, Lib.hid (Ba _ _)⟩
  case round =>
    obtain ⟨k, B, cb, L, hk, rfl, rfl, HL, HO, HB⟩ := hrel
    clear HS
    have hws := HB.out.size
    by_cases hkn : k < n
    rotate_left
    · obtain rfl : k = n := by omega
      have eL := HL.out
      subst eL
      go_wp2_with (refine wpList_mapPut _ rfl (.tmp 26) (.tmp 27) (.tmp 28) rfl (b := b) (n := m) (f := f) (by rfl) (HM.out.below HB.out hbs) (by unfold maxLen; omega) id (.slice B (woL z v k).length cb) (by rfl) (by rfl) HW.out ?_; intro w9 hM9 hG9)
      have hE9 : Exc (fun g => g = b) wr w9 := Exc.grown (Exc.refl _ _) (fun g e => Or.inl (by cases e; rfl)) hG9
      exact bodyPost_end (v := .tuple #[]) (by simp [results, Try.results53, go_sem]) rfl ⟨B, cb, rfl, hM9, (OwnI.only (r := some b) (fun g e => Or.inl (by cases e; exact hbs)) HO.out hG9).wide (Nat.le_refl _) hE9.size, (Exc.of_belowR HB.out).trans hE9⟩
    have hLn : L ≤ k := by have := woL_len z v k; have e := HL.out; omega
    have HR := Lib.hid (H.out.below hi' HB.out)
    obtain ⟨q, off, rfl, _, hb2, c0⟩ := Ints.at_ HR.out hkn
    have hbw : q < wr.heap.size := by omega
    by_cases hv : z k = v
    · have HE := Lib.hid (show woL z v (k + 1) = woL z v k from if_pos hv)
      go_wp2_with fail
      go_roundw
      case rel =>
        have e := HE.out
        refine ⟨k + 1, B, cb, L, by omega, by go_num, rfl, ?_, ?_, HB⟩
        · rw [e]; exact HL
        · rw [e]; exact HO
      case measure => simp [intOf]; omega
    · have HE := Lib.hid (show woL z v (k + 1) = woL z v k ++ [z k] from if_neg hv)
      have hLm : L + 1 ≤ 1048577 := by omega
      have HOL : Hid (OwnI wr w.heap.size wr.heap.size B L cb (atL (woL z v k))) := Lib.hid (by have e := HL.out; rw [e]; exact HO.out)
      go_upto_region 6 with (at_builtin; go_loud (refine wpList_rowAppendN _ rfl (.tmp 21) (.tmp 23) _ rfl 3 i1 _ 1 8 Try.underlying26 r1 r2 r3 r4 rfl (by decide) w.heap.size _ B L cb (intV (atL (woL z v k))) rfl (RowOwn.alloc HOL.out _) _ _ _ 1 1 _ rfl (one_row _ _ _) (L + 1) rfl ?_ (by unfold maxLen; omega) (by omega) (by simp; omega) ?_); (focus (intro i hi; rfl)); intro B6 cb6 w6 hO6 hG6 hL6)
      have HO6 := Lib.hid (show OwnI w6 w.heap.size w6.heap.size B6 (woL z v (k + 1)).length cb6 (atL (woL z v (k + 1))) by
        have e := HE.out
        have e2 := HL.out
        rw [e]
        refine snoc_L (N := L + 1) (by omega) ?_
        rw [← e2]
        exact hO6)
      have HB6 := Lib.hid (show Below w.heap.size w w6 from (HB.out.alloc hws _).grown hG6 (by simp; omega) (fun g hg => (HOL.out.1.lt g hg).1))
      clear hO6 hG6 hL6
      go_wp2_with fail
      go_roundw
      case rel =>
        refine ⟨k + 1, B6, cb6, L + 1, by omega, by go_num, rfl, Lib.hid ?_, HO6, HB6⟩
        have e := HE.out
        have e2 := HL.out
        rw [e, e2]; simp
      case measure => simp [intOf]; omega
end Go.Proofs.Ytelcclhaepfmgaa
