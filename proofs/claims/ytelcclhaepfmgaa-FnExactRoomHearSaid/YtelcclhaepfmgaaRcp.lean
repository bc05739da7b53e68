/- Rooms: a copy that shares nothing. -/
import Derived.Test.YtelcclhaepfmgaaRmc
namespace Go.Proofs.Ytelcclhaepfmgaa
open Go Go.RowKit
set_option linter.unusedVariables false
set_option linter.unusedSimpArgs false
theorem grown_belowR {w wr w5 w7 : World} {o : Obj} {r : Option Nat} (h : Below w.heap.size w wr) (h5 : Below wr.heap.size wr w5) (hg : (w5.alloc o).grownBy w7 r) (hr : ∀ g, r = some g → w.heap.size ≤ g) : Below w.heap.size w w7 := by
  have h1 : Below w.heap.size w (w5.alloc o) := (h.trans (h5.mono h.size)).alloc (Nat.le_trans h.size h5.size) _
  exact h1.trans ⟨hg.os, hg.tape, hg.output, hg.size, fun i hi => hg.block i (by have := h1.size; omega) (fun e => by have := hr i e.symm; omega)⟩
def CopyRm (n : Nat) (M : Nat → Mb) (w : World) (e : Ending) (w' : World) : Prop :=
  ∃ B cb M', RmO w.heap.size B n cb M' w' ∧ (∀ i, i < n → (M' i).p = (M i).p) ∧ e = .returned (.slice B n cb) ∧ Below w.heap.size w w'
set_option maxRecDepth 100000 in
set_option maxHeartbeats 8000000 in
theorem l31Copy_any (w : World) (lo hi : Nat) (A : Option Addr) (n c : Nat) (M : Nat → Mb) (h : Room w lo hi A n M) (hi' : hi ≤ w.heap.size) (hn : n ≤ 1048576) (hb : ∀ i, i < n → (M i).p.n ≤ 1048576) :
    Calls Try.prog 52 #[.slice A n c] w (CopyRm n M w) := by
  obtain ⟨i0, q1, q2, q3, q4⟩ := info_parts info_mb
  obtain ⟨i1, r1, r2, r3, r4⟩ := info_parts info_int
  have H := Lib.hid h
  have HN := Lib.hid hb
  clear h hb
  go_enter Try.func52, Try.ntmps52
  go_wp2_with fail
  have hS : RmO w.heap.size (some ⟨w.heap.size, 0, none⟩) 0 0 M (w.alloc (.cells #[] 28)) :=
    ⟨(empty_row w 28 3 (MbF M)).wide (Nat.le_refl _) (by simp), fun i hi => absurd hi (by omega), fun i hi => absurd hi (by omega), fun i j _ hj => absurd hj (by omega)⟩
  have HS := Lib.hid hS
  clear hS
  go_loopw [3, 4] (fun s i wr => ∃ (k : Nat) (B : Option Addr) (cb : Nat) (M' : Nat → Mb), k ≤ n ∧ i = .int .i64 (k : Nat) ∧ s = .slice B k cb ∧ Hid (RmO w.heap.size B k cb M' wr) ∧ Hid (∀ i, i < k → (M' i).p = (M i).p) ∧ Hid (Below w.heap.size w wr)) (fun _ i _ => n - (intOf i).toNat)
  case atStart => exact ⟨0, _, 0, M, Nat.zero_le _, rfl, rfl, HS, Lib.hid (fun i hi => rfl), Lib.hid (Ba _ _)⟩
  case round =>
    obtain ⟨k, B, cb, M', hk, rfl, rfl, HO, HP, HB⟩ := hrel
    clear HS
    have hws := HB.out.size
    by_cases hkn : k < n
    rotate_left
    · obtain rfl : k = n := by omega
      go_wp2_with fail
      go_ret
      exact ⟨B, cb, M', HO.out, HP.out, rfl, HB.out⟩
    have HR := Lib.hid (H.out.1.below hi' HB.out)
    have HZ := Lib.hid ((H.out.2 k hkn).below hi' HB.out)
    have hzn := HN.out k hkn
    obtain ⟨b, off, rfl, _, hb2, c0, c1, c2⟩ := Mb_at HR.out hkn
    have hbw : b < wr.heap.size := by omega
    have hbX : ¬ (Value.slice B k cb).ownBlock = some b := fun e => by have := (HO.out.row.1.lt _ e).1; omega
    have hgd : ∀ W : World, W.drew.heap.size = W.heap.size := fun _ => rfl
    have hwi : hi ≤ wr.heap.size := by omega
    go_wp2_with fail
    refine wp_region_mix (Exc (fun g => (Value.slice B k cb).ownBlock = some g) wr) (by kernel_rfl) (by kernel_rfl) (Exc.drew (Exc.refl _ _)) ?_
    repeat (first
      | (refine mix_skip rfl ?_; have e0 : True := trivial; clear e0; refine mix_putK ?_; intro K hK; go_simp; refine hK _ ?_; clear hK K)
      | (refine mix_readE rfl rfl rfl ?_; apply Exists.intro; refine ⟨fun w' hb' => ?_, ?_⟩; (focus (obtain ⟨hc', hf'⟩ := exc_cells hb'; clear hb'; go_simp; try exact rfl)); have e0 : True := trivial; clear e0; refine mix_putK ?_; intro K hK; go_simp; refine hK _ ?_; clear hK K)
      | (refine mix_pureE rfl rfl ?_; apply Exists.intro; refine ⟨fun w' => ?_, ?_⟩; (focus (first | (fail) | (go_simp; try exact rfl))); have e0 : True := trivial; clear e0; refine mix_putK ?_; intro K hK; go_simp; refine hK _ ?_; clear hK K)
      | (refine mix_eff rfl rfl ?_; go_wp2_with ((first | (at_builtin; go_loud (refine wpList_rowAppendN _ rfl (.tmp 23) (.tmp 28) _ rfl 3 i1 _ 1 8 Try.underlying26 r1 r2 r3 r4 rfl (by decide) wr.heap.size _ (some ⟨wr.heap.size, 0, none⟩) 0 0 (intV fun _ => 0) rfl (empty_at _ 3 wr.heap.size 1 (intV fun _ => 0) (by simp)) _ _ (M k).A (M k).p.n (M k).c (intV (M k).p.z) rfl (RowAt.below hwi HZ.out (by repeat (first | (with_reducible exact Below.refl _ _) | (with_reducible refine Bal ?_ _) | (with_reducible refine Below.drew ?_) | (with_reducible refine below_drewN ?_ _) | (with_reducible refine Bset ?_ ?_ _; focus (first | (with_reducible exact Nat.le_refl _) | (simp; done) | (simp; omega) | omega)) | (with_reducible refine Bt ?_ (by assumption)) | (with_reducible refine Bp (g := g) ?_ (by assumption) (by assumption))))) (M k).p.n (Nat.zero_add _) ?_ (by unfold maxLen; omega) (by omega) (by simp) ?_); (focus (intro i hi; rfl)); intro A5 c5 w5 hO5 hG5 hL5; have hb5 : Below wr.heap.size wr w5 := (show Below wr.heap.size wr _ by repeat (first | (with_reducible exact Below.refl _ _) | (with_reducible refine Bal ?_ _) | (with_reducible refine Below.drew ?_) | (with_reducible refine below_drewN ?_ _) | (with_reducible refine Bset ?_ ?_ _; focus (first | (with_reducible exact Nat.le_refl _) | (simp; done) | (simp; omega) | omega)) | (with_reducible refine Bt ?_ (by assumption)) | (with_reducible refine Bp (g := g) ?_ (by assumption) (by assumption)))).grown hG5 (by simp) (fun g hg => by cases hg; exact Nat.le_refl _); have hE5 : Exc (fun g => (Value.slice B k cb).ownBlock = some g) wr w5 := Exc.grown (Exc.alloc (Exc.drew (Exc.refl _ _)) _) (fun g hg => by cases hg; exact Or.inr (Nat.le_refl _)) hG5; have hz5 := hb5.size) | (at_builtin; go_loud (refine wpList_rowAppendN _ rfl (.tmp 12) (.tmp 31) _ rfl 28 i0 _ 3 40 Try.underlying23 q1 q2 q3 q4 rfl (by decide) w.heap.size _ B k cb (MbF M') rfl (RowOwn.alloc (HO.out.row.below (Nat.le_refl _) hb5) _) _ _ _ 1 1 _ rfl (mb_at _ w5.heap.size _ _ _ _ rfl) (k + 1) rfl ?_ (by unfold maxLen; omega) (by omega) (by simp; omega) ?_); (focus (intro i hi; rcases (by omega : i = 0 ∨ i = 1 ∨ i = 2) with rfl | rfl | rfl <;> rfl)); intro B6 cb6 w7 hO7 hG7 hL7; have hE7 : Exc (fun g => (Value.slice B k cb).ownBlock = some g) wr w7 := Exc.grown (Exc.alloc hE5 _) (fun g hg => Or.inl hg) hG7))); refine then_mix rfl ?_ ?_; (focus (first | (intro h; have h2 : false = true := h; cases h2) | (intro _; assumption) | (intro _; repeat (first | assumption | (with_reducible exact Exc.refl _ _) | (with_reducible refine Exc.drew ?_) | (with_reducible refine Exc.alloc ?_ _) | (with_reducible refine Exc.setC ?_ ?_ _; focus (simp))))))))
    refine mix_nil ?_
    go_wp2_with fail
    go_roundw
    case rel =>
      refine ⟨k + 1, B6, cb6, snocM M' k ⟨(M k).p, A5, c5⟩, by omega, by go_num, rfl, Lib.hid (RmO.snoc HO.out hws (hb5.alloc hb5.size _) ?_ hG7 hO7 ?_ hL7), Lib.hid (fun i hi => ?_), Lib.hid (grown_belowR HB.out hb5 hG7 (fun g hg => (HO.out.row.1.lt g hg).1))⟩
      · refine OwnI.wide (lo := wr.heap.size) (hi := w5.heap.size) (OwnI.alloc (OwnI.congr (z := (M k).p.z) ?_ (fun j hj => rfl)) _) (Nat.le_refl _) (by simp)
        refine RowOwn.congr hO5 fun j hj => ?_
        show (if j < 0 * 1 then intV (fun _ => 0) j else intV (M k).p.z (j - 0 * 1)) = intV (M k).p.z j
        rw [if_neg (by omega), Nat.zero_mul, Nat.sub_zero]
      · intro j hj
        rcases (by omega : j = 0 ∨ j = 1 ∨ j = 2) with rfl | rfl | rfl <;> rfl
      · unfold snocM
        by_cases e : i < k
        · rw [if_pos e]; exact HP.out i e
        · obtain rfl : i = k := by omega
          rw [if_neg e]
    case measure => simp [intOf]; omega
end Go.Proofs.Ytelcclhaepfmgaa
