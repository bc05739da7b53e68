/- Rooms: a hearing: a member that hears another one. -/
import Derived.Test.YtelcclhaepfmgaaRhv
namespace Go.Proofs.Ytelcclhaepfmgaa
open Go Go.RowKit Go.Maps
set_option linter.unusedVariables false
set_option linter.unusedSimpArgs false
/-- What stands before, then the numbers that p takes. -/
def foL (l : List Int) (p : Int → Bool) (z : Nat → Int) : Nat → List Int
  | 0 => l
  | n + 1 => if p (z n) = true then foL l p z n ++ [z n] else foL l p z n
theorem foL_len (l : List Int) (p : Int → Bool) (z : Nat → Int) : ∀ n, (foL l p z n).length ≤ l.length + n
  | 0 => Nat.le_refl _
  | n + 1 => by
    have := foL_len l p z n
    unfold foL
    split
    · simp; omega
    · omega
def addL (z : Nat → Int) (v : Int) (n : Nat) : List Int := foL (foL [] (fun x => decide (x < v)) z n ++ [v]) (fun x => decide (v < x)) z n
set_option maxRecDepth 100000 in
set_option maxHeartbeats 8000000 in
theorem iadd_any (w : World) (lo hi b m : Nat) (f : Int → Value) (A : Option Addr) (n c : Nat) (id v : Int) (z : Nat → Int) (hm : MapOf w b m f) (hm' : m ≤ 1048576) (hid : (Lit.int .i64 id).wf = true) (hf : f id = .slice A n c) (h : Ints w lo hi A n z) (hi' : hi ≤ w.heap.size) (hn : n ≤ 1048576) :
    Calls Try.prog 57 #[.map (some b), .int .i64 id, .int .i64 v] w (PutRet w b m f id (addL z v n)) := by
  obtain ⟨i1, r1, r2, r3, r4⟩ := info_parts info_int
  have hbs := hm.lt
  have H := Lib.hid h
  have HM := Lib.hid hm
  have HW := Lib.hid hid
  have HF := Lib.hid hf
  clear h hm hid hf
  go_enter Try.func57, Try.ntmps57
  go_upto_region 1 with (first | (refine wpList_mapLook _ rfl (.tmp 11) (.tmp 12) rfl (b := b) (f := f) (by rfl) HM.out id (by rfl) HW.out ?_; rw [HF.out]) | (at_make; refine wpList_make_own _ rfl _ _ _ rfl w.heap.size 3 i1 _ 1 Try.underlying26 r1 r2 r3 .i64 .i64 _ (n + 1) rfl rfl (by omega) (by rw [r4]; omega) (by unfold maxLen; omega) (Nat.le_refl _) ?_; intro wm hownm hgm))
  have HB0 := Lib.hid ((Below.refl w.heap.size w).grown hgm (Nat.le_refl _) (by simp))
  have HO0 := Lib.hid (show OwnI wm w.heap.size wm.heap.size (some ⟨w.heap.size, 0, none⟩) 0 (n + 1) (atL (foL [] (fun x => decide (x < v)) z 0)) from RowOwn.made hownm)
  clear hownm hgm
  go_upto_region 2 with (refine wpList_mapLook _ rfl (.tmp 17) (.tmp 18) rfl (b := b) (f := f) (by rfl) (HM.out.below HB0.out hbs) id (by rfl) HW.out ?_; rw [HF.out])
  go_wp2_with fail
  go_loopw [6, 21] (fun s i wr => ∃ (k : Nat) (B : Option Addr) (cb L : Nat), k ≤ n ∧ i = .int .i64 (k : Nat) ∧ s = .slice B L cb ∧ Hid (L = (foL [] (fun x => decide (x < v)) z k).length) ∧ Hid (OwnI wr w.heap.size wr.heap.size B L cb (atL (foL [] (fun x => decide (x < v)) z k))) ∧ Hid (Below w.heap.size w wr)) (fun _ i _ => n - (intOf i).toNat)
  case atStart => exact ⟨0, _, _, 0, Nat.zero_le _, rfl, rfl, Lib.hid rfl, HO0, HB0⟩
  case round =>
    obtain ⟨k, B, cb, L, hk, rfl, rfl, HL, HO, HB⟩ := hrel
    have hws := HB.out.size
    have hLn : L ≤ 0 + k := by rw [HL.out]; exact Nat.le_trans (foL_len [] (fun x => decide (x < v)) z k) (by simp)
    by_cases hkn : k < n
    rotate_left
    · have e9 : n = k := by omega
      subst e9
      go_upto_region 8 with (at_builtin; go_loud (refine wpList_rowAppendN _ rfl (.tmp 33) (.tmp 35) _ rfl 3 i1 _ 1 8 Try.underlying26 r1 r2 r3 r4 rfl (by decide) w.heap.size _ B L cb (intV (atL (foL [] (fun x => decide (x < v)) z n))) rfl (RowOwn.alloc HO.out _) _ _ _ 1 1 _ rfl (one_row _ _ _) (L + 1) rfl ?_ (by unfold maxLen; omega) (by omega) (by simp; omega) ?_); (focus (intro i hi; rfl)); intro B6 cb6 w6 hO6 hG6 hL6)
      have HL6 := Lib.hid (show L + 1 = (foL [] (fun x => decide (x < v)) z n ++ [v]).length by have e2 := HL.out; simp; omega)
      have HO6 := Lib.hid (show OwnI w6 w.heap.size w6.heap.size B6 (L + 1) cb6 (atL (foL [] (fun x => decide (x < v)) z n ++ [v])) by
        have e2 := HL.out
        have h9 := snoc_L (l := foL [] (fun x => decide (x < v)) z n) (x := v) (N := L + 1) (by omega) (by rw [← e2]; exact hO6)
        rw [show (foL [] (fun x => decide (x < v)) z n ++ [v]).length = L + 1 by simp; omega] at h9
        exact h9)
      have HB6 := Lib.hid (show Below w.heap.size w w6 from (HB.out.alloc hws _).grown hG6 (by simp; omega) (fun g hg => (HO.out.1.lt g hg).1))
      clear hO6 hG6 hL6
      obtain ⟨L0, HL0⟩ : ∃ x, Hid (x = (foL [] (fun x => decide (x < v)) z n).length) := ⟨L, HL⟩
      have hL0 : L0 ≤ n := by have e1 := HL.out; have e2 := HL0.out; omega
      clear HO HB HL HO0
      go_upto_region 9 with (refine wpList_mapLook _ rfl (.tmp 37) (.tmp 38) rfl (b := b) (f := f) (by rfl) (HM.out.below HB6.out hbs) id (by rfl) HW.out ?_; rw [HF.out])
      go_wp2_with fail
      go_loopw [6, 41] (fun s i wr => ∃ (k : Nat) (B : Option Addr) (cb L : Nat), k ≤ n ∧ i = .int .i64 (k : Nat) ∧ s = .slice B L cb ∧ Hid (L = (foL (foL [] (fun x => decide (x < v)) z n ++ [v]) (fun x => decide (v < x)) z k).length) ∧ Hid (OwnI wr w.heap.size wr.heap.size B L cb (atL (foL (foL [] (fun x => decide (x < v)) z n ++ [v]) (fun x => decide (v < x)) z k))) ∧ Hid (Below w.heap.size w wr)) (fun _ i _ => n - (intOf i).toNat)
      case atStart => exact ⟨0, _, _, _, Nat.zero_le _, rfl, rfl, HL6, HO6, HB6⟩
      case round =>
        obtain ⟨k, B, cb, L, hk, rfl, rfl, HL, HO, HB⟩ := hrel
        have hws := HB.out.size
        have hLn : L ≤ (L0 + 1) + k := by rw [HL.out]; exact Nat.le_trans (foL_len (foL [] (fun x => decide (x < v)) z n ++ [v]) (fun x => decide (v < x)) z k) (by have e := HL0.out; simp; omega)
        by_cases hkn : k < n
        rotate_left
        · have e9 : n = k := by omega
          subst e9
          go_wp2_with (refine wpList_mapPut _ rfl (.tmp 53) (.tmp 54) (.tmp 55) rfl (b := b) (n := m) (f := f) (by rfl) (HM.out.below HB.out hbs) (by unfold maxLen; omega) id (.slice B (addL z v n).length cb) (by rfl) (by have e := HL.out; rw [e]; rfl) HW.out ?_; intro w9 hM9 hG9)
          have hE9 : Exc (fun g => g = b) wr w9 := Exc.grown (Exc.refl _ _) (fun g e => Or.inl (by cases e; rfl)) hG9
          have hO9 : OwnI wr w.heap.size wr.heap.size B (addL z v n).length cb (atL (addL z v n)) := by have e := HL.out; unfold addL; rw [← e]; exact HO.out
          exact bodyPost_end (v := .tuple #[]) (by simp [results, Try.results57, go_sem]) rfl ⟨B, cb, rfl, hM9, (OwnI.only (r := some b) (fun g e => Or.inl (by cases e; exact hbs)) hO9 hG9).wide (Nat.le_refl _) hE9.size, (Exc.of_belowR HB.out).trans hE9⟩
        have HR := Lib.hid (H.out.below hi' HB.out)
        obtain ⟨q, off, rfl, _, hb2, c0⟩ := Ints.at_ HR.out hkn
        have hbw : q < wr.heap.size := by omega
        by_cases hv : v < z k
        rotate_left
        · have HE := Lib.hid (show foL (foL [] (fun x => decide (x < v)) z n ++ [v]) (fun x => decide (v < x)) z (k + 1) = foL (foL [] (fun x => decide (x < v)) z n ++ [v]) (fun x => decide (v < x)) z k from if_neg (by simpa using hv))
          go_wp2_with fail
          go_roundw
          case rel =>
            have e := HE.out
            refine ⟨k + 1, B, cb, L, by omega, by go_num, rfl, ?_, ?_, HB⟩
            · rw [e]; exact HL
            · rw [e]; exact HO
          case measure => simp [intOf]; omega
        · have HE := Lib.hid (show foL (foL [] (fun x => decide (x < v)) z n ++ [v]) (fun x => decide (v < x)) z (k + 1) = foL (foL [] (fun x => decide (x < v)) z n ++ [v]) (fun x => decide (v < x)) z k ++ [z k] from if_pos (by simpa using hv))
          have hLm : L + 1 ≤ 2097154 := by omega
          go_upto_region 13 with (at_builtin; go_loud (refine wpList_rowAppendN _ rfl (.tmp 48) (.tmp 50) _ rfl 3 i1 _ 1 8 Try.underlying26 r1 r2 r3 r4 rfl (by decide) w.heap.size _ B L cb (intV (atL (foL (foL [] (fun x => decide (x < v)) z n ++ [v]) (fun x => decide (v < x)) z k))) rfl (RowOwn.alloc HO.out _) _ _ _ 1 1 _ rfl (one_row _ _ _) (L + 1) rfl ?_ (by unfold maxLen; omega) (by omega) (by simp; omega) ?_); (focus (intro i hi; rfl)); intro B6 cb6 w6 hO6 hG6 hL6)
          have HO6 := Lib.hid (show OwnI w6 w.heap.size w6.heap.size B6 (L + 1) cb6 (atL (foL (foL [] (fun x => decide (x < v)) z n ++ [v]) (fun x => decide (v < x)) z (k + 1))) by
            have e := HE.out
            have e2 := HL.out
            have h9 := snoc_L (l := foL (foL [] (fun x => decide (x < v)) z n ++ [v]) (fun x => decide (v < x)) z k) (x := z k) (N := L + 1) (by omega) (by rw [← e2]; exact hO6)
            rw [e]
            rw [show (foL (foL [] (fun x => decide (x < v)) z n ++ [v]) (fun x => decide (v < x)) z k ++ [z k]).length = L + 1 by simp; omega] at h9
            exact h9)
          have HB6 := Lib.hid (show Below w.heap.size w w6 from (HB.out.alloc hws _).grown hG6 (by simp; omega) (fun g hg => (HO.out.1.lt g hg).1))
          clear hO6 hG6 hL6
          go_wp2_with fail
          go_roundw
          case rel =>
            refine ⟨k + 1, B6, cb6, L + 1, by omega, by go_num, rfl, Lib.hid ?_, HO6, HB6⟩
            have e := HE.out
            have e2 := HL.out
            rw [e, e2]; simp
          case measure => simp [intOf]; omega
    have HR := Lib.hid (H.out.below hi' HB.out)
    obtain ⟨q, off, rfl, _, hb2, c0⟩ := Ints.at_ HR.out hkn
    have hbw : q < wr.heap.size := by omega
    by_cases hv : z k < v
    rotate_left
    · have HE := Lib.hid (show foL [] (fun x => decide (x < v)) z (k + 1) = foL [] (fun x => decide (x < v)) z k from if_neg (by simpa using hv))
      go_wp2_with fail
      go_roundw
      case rel =>
        have e := HE.out
        refine ⟨k + 1, B, cb, L, by omega, by go_num, rfl, ?_, ?_, HB⟩
        · rw [e]; exact HL
        · rw [e]; exact HO
      case measure => simp [intOf]; omega
    · have HE := Lib.hid (show foL [] (fun x => decide (x < v)) z (k + 1) = foL [] (fun x => decide (x < v)) z k ++ [z k] from if_pos (by simpa using hv))
      have hLm : L + 1 ≤ 2097154 := by omega
      go_upto_region 6 with (at_builtin; go_loud (refine wpList_rowAppendN _ rfl (.tmp 28) (.tmp 30) _ rfl 3 i1 _ 1 8 Try.underlying26 r1 r2 r3 r4 rfl (by decide) w.heap.size _ B L cb (intV (atL (foL [] (fun x => decide (x < v)) z k))) rfl (RowOwn.alloc HO.out _) _ _ _ 1 1 _ rfl (one_row _ _ _) (L + 1) rfl ?_ (by unfold maxLen; omega) (by omega) (by simp; omega) ?_); (focus (intro i hi; rfl)); intro B6 cb6 w6 hO6 hG6 hL6)
      have HO6 := Lib.hid (show OwnI w6 w.heap.size w6.heap.size B6 (L + 1) cb6 (atL (foL [] (fun x => decide (x < v)) z (k + 1))) by
        have e := HE.out
        have e2 := HL.out
        have h9 := snoc_L (l := foL [] (fun x => decide (x < v)) z k) (x := z k) (N := L + 1) (by omega) (by rw [← e2]; exact hO6)
        rw [e]
        rw [show (foL [] (fun x => decide (x < v)) z k ++ [z k]).length = L + 1 by simp; omega] at h9
        exact h9)
      have HB6 := Lib.hid (show Below w.heap.size w w6 from (HB.out.alloc hws _).grown hG6 (by simp; omega) (fun g hg => (HO.out.1.lt g hg).1))
      clear hO6 hG6 hL6
      go_wp2_with fail
      go_roundw
      case rel =>
        refine ⟨k + 1, B6, cb6, L + 1, by omega, by go_num, rfl, Lib.hid ?_, HO6, HB6⟩
        have e := HE.out
        have e2 := HL.out
        rw [e, e2]; simp
      case measure => simp [intOf]; omega
end Go.Proofs.Ytelcclhaepfmgaa
