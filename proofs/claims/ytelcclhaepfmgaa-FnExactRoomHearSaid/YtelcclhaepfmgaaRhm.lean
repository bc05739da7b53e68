/- Rooms: members of their own, who hear what a hearing says. -/
import Derived.Test.YtelcclhaepfmgaaRhn
import Derived.Test.YtelcclhaepfmgaaRgv
namespace Go.Proofs.Ytelcclhaepfmgaa
open Go Go.RowKit Go.Maps
set_option linter.unusedVariables false
set_option linter.unusedSimpArgs false
theorem exec_mapLook {o : Oper} {a : Act} {w : World} (m x : Operand) (hop : o.op = Op.lookup 60 m x false) {b n : Nat} {f : Int → Value} (hm : a.eval m = .map (some b)) (h : MapOf w b n f) (k : Int) (hx : a.eval x = .int .i64 k) (hk : (Lit.int .i64 k).wf = true) (u : Value) (hu : f k = u) :
    (execOp a.eval o).run Try.prog w = .ok (.value u) w := by
  subst hu
  have hrun := h.look hk
  simp [execOp, hop, hm, hx, hrun, Result.andThen]
theorem MapOf.exc {X : Nat → Prop} {w w' : World} {b n : Nat} {f : Int → Value} (h : MapOf w b n f) (hE : Exc X w w') (hX : ¬ X b) : MapOf w' b n f := by
  have hl := h.lt
  obtain ⟨D, ⟨es, clock, h1, h3⟩, h2⟩ := h
  exact ⟨D, ⟨es, clock, (hE.block b hl hX).trans h1, h3⟩, h2⟩
set_option maxRecDepth 100000 in
set_option maxHeartbeats 8000000 in
theorem iroom_any (w : World) (lo hi b m : Nat) (T : Int → List Int) (A : Option Addr) (n c : Nat) (M : Nat → Mb) (hT : Hg w b m T) (h : RowAt w lo hi A n 3 (MbF M)) (hi' : hi ≤ w.heap.size) (hn : n ≤ 1048576) (hid : ∀ i, i < n → (Lit.int .i64 (M i).p.id).wf = true) (hTn : ∀ i, i < n → (T (M i).p.id).length ≤ 1048576) :
    Calls Try.prog 50 #[.map (some b), .slice A n c] w (RmHas n (fun i => mkM (M i).p.id (M i).p.s (T (M i).p.id)) w) := by
  obtain ⟨i0, q1, q2, q3, q4⟩ := info_parts info_mb
  obtain ⟨i1, r1, r2, r3, r4⟩ := info_parts info_int
  obtain ⟨TA, Tc, hT⟩ := hT
  have hbT := hT.lt
  have H := Lib.hid h
  have HT := Lib.hid hT
  have HI := Lib.hid hid
  have HN := Lib.hid hTn
  clear h hT hid hTn
  go_enter Try.func50, Try.ntmps50
  go_wp2_with (at_make; refine wpList_make_own _ rfl _ _ _ rfl w.heap.size 28 i0 _ 3 Try.underlying23 q1 q2 q3 .i64 .i64 _ n rfl rfl rfl (by rw [q4]; omega) (by unfold maxLen; omega) (Nat.le_refl _) ?_; intro w0 hown0 hg0)
  have HS := Lib.hid (show RmO w.heap.size (some ⟨w.heap.size, 0, none⟩) 0 n M w0 from ⟨RowOwn.made hown0, fun i hi => absurd hi (by omega), fun i hi => absurd hi (by omega), fun i j _ hj => absurd hj (by omega)⟩)
  have HB0 := Lib.hid ((Below.refl w.heap.size w).grown hg0 (Nat.le_refl _) (by simp))
  clear hown0 hg0
  go_loopw [5, 13] (fun s i wr => ∃ (k : Nat) (B : Option Addr) (cb : Nat) (M' : Nat → Mb), k ≤ n ∧ i = .int .i64 (k : Nat) ∧ s = .slice B k cb ∧ Hid (RmO w.heap.size B k cb M' wr) ∧ Hid (∀ i, i < k → (M' i).p = mkM (M i).p.id (M i).p.s (T (M i).p.id)) ∧ Hid (Below w.heap.size w wr)) (fun _ i _ => n - (intOf i).toNat)
  case atStart => exact ⟨0, _, n, M, Nat.zero_le _, rfl, rfl, HS, Lib.hid (fun i hi => absurd hi (by omega)), HB0⟩
  case round =>
    obtain ⟨k, B, cb, M', hk, rfl, rfl, HO, HP, HB⟩ := hrel
    clear HS HB0
    have hws := HB.out.size
    by_cases hkn : k < n
    rotate_left
    · obtain rfl : k = n := by omega
      go_wp2_with fail
      go_ret
      exact ⟨B, cb, M', HO.out, HP.out, rfl, HB.out⟩
    have HR := Lib.hid (H.out.below hi' HB.out)
    have hzn := HN.out k hkn
    have HW := Lib.hid (HI.out k hkn)
    obtain ⟨q, off, rfl, _, hb2, c0, c1, c2⟩ := Mb_at HR.out hkn
    have hbw : q < wr.heap.size := by omega
    go_upto_region 5 with fail
    obtain ⟨wm, hwm⟩ : ∃ v, v = wr.alloc (.cells #[.int .i64 (M k).p.id, .bool (M k).p.s, .slice (M k).A (M k).p.n (M k).c] 28) := ⟨_, rfl⟩
    rw [← hwm]
    have hbm : Below wr.heap.size wr wm := by rw [hwm]; exact Ba _ _
    have hzm : wr.heap.size < wm.heap.size := by rw [hwm]; simp
    have g0 : wm.cell? ⟨wr.heap.size, 0, none⟩ = some (.int .i64 (M k).p.id) := by rw [hwm]; go_simp; try rfl
    have g1 : wm.cell? ⟨wr.heap.size, 1, none⟩ = some (.bool (M k).p.s) := by rw [hwm]; go_simp; try rfl
    clear hwm
    have HBm := Lib.hid (HB.out.trans (hbm.mono hws))
    have HOm := Lib.hid (HO.out.below hbm)
    have HTm := Lib.hid (HT.out.below HBm.out)
    have hwm := HBm.out.size
    have hOb : ∀ g, (Value.slice B k cb).ownBlock = some g → w.heap.size ≤ g ∧ g < wr.heap.size := fun g hg => HO.out.row.1.lt g hg
    have hne : ¬ (Value.slice B k cb).ownBlock = some wr.heap.size := fun e => by have := hOb _ e; omega
    have hnb : ¬ (Value.slice B k cb).ownBlock = some b := fun e => by have := hOb _ e; omega
    clear hbm HO
    refine wp_region_mix (Exc (fun g => (Value.slice B k cb).ownBlock = some g) wm) (by kernel_rfl) (by kernel_rfl) (Exc.drew (Exc.refl _ _)) ?_
    repeat (first
      | (refine mix_skip rfl ?_; have e0 : True := trivial; clear e0; refine mix_putK ?_; intro K hK; go_simp; refine hK _ ?_; clear hK K)
      | (refine mix_readE rfl rfl rfl ?_; apply Exists.intro; refine ⟨fun w' hb' => ?_, ?_⟩; (focus (exact exec_mapLook (.tmp 23) (.tmp 25) rfl (by rfl) (MapOf.exc HTm.out.1 hb' hnb) (M k).p.id (by rfl) HW.out (.slice (TA (M k).p.id) (T (M k).p.id).length (Tc (M k).p.id)) rfl)); have e0 : True := trivial; clear e0; refine mix_putK ?_; intro K hK; go_simp; refine hK _ ?_; clear hK K)
      | (refine mix_readE rfl rfl rfl ?_; apply Exists.intro; refine ⟨fun w' hb' => ?_, ?_⟩; (focus (obtain ⟨hc', hf'⟩ := exc_cells hb'; clear hb'; go_simp; try exact rfl)); have e0 : True := trivial; clear e0; refine mix_putK ?_; intro K hK; go_simp; refine hK _ ?_; clear hK K)
      | (refine mix_pureE rfl rfl ?_; apply Exists.intro; refine ⟨fun w' => ?_, ?_⟩; (focus (first | (exact exec_mapLook (.tmp 23) (.tmp 25) rfl (by rfl) (MapOf.exc HTm.out.1 hb' hnb) (M k).p.id (by rfl) HW.out (.slice (TA (M k).p.id) (T (M k).p.id).length (Tc (M k).p.id)) rfl) | (go_simp; try exact rfl))); have e0 : True := trivial; clear e0; refine mix_putK ?_; intro K hK; go_simp; refine hK _ ?_; clear hK K)
      | (refine mix_eff rfl rfl ?_; go_wp2_with ((first | (at_builtin; go_loud (refine wpList_rowAppendN _ rfl (.tmp 22) (.tmp 26) _ rfl 3 i1 _ 1 8 Try.underlying26 r1 r2 r3 r4 rfl (by decide) wm.heap.size _ (some ⟨wm.heap.size, 0, none⟩) 0 0 (intV fun _ => 0) rfl (empty_at _ 3 wm.heap.size 1 (intV fun _ => 0) (by simp)) _ _ (TA (M k).p.id) (T (M k).p.id).length (Tc (M k).p.id) (intV (atL (T (M k).p.id))) rfl (RowAt.below (Nat.le_refl _) (HTm.out.2 (M k).p.id).ints (by repeat (first | (with_reducible exact Below.refl _ _) | (with_reducible refine Bal ?_ _) | (with_reducible refine Below.drew ?_) | (with_reducible refine below_drewN ?_ _) | (with_reducible refine Bset ?_ ?_ _; focus (first | (with_reducible exact Nat.le_refl _) | (simp; done) | (simp; omega) | omega)) | (with_reducible refine Bt ?_ (by assumption)) | (with_reducible refine Bp (g := g) ?_ (by assumption) (by assumption))))) (T (M k).p.id).length (Nat.zero_add _) ?_ (by unfold maxLen; omega) (by omega) (by simp) ?_); (focus (intro i hi; rfl)); intro A5 c5 w5 hO5 hG5 hL5; have hb5 : Below wm.heap.size wm w5 := (show Below wm.heap.size wm _ by repeat (first | (with_reducible exact Below.refl _ _) | (with_reducible refine Bal ?_ _) | (with_reducible refine Below.drew ?_) | (with_reducible refine below_drewN ?_ _) | (with_reducible refine Bset ?_ ?_ _; focus (first | (with_reducible exact Nat.le_refl _) | (simp; done) | (simp; omega) | omega)) | (with_reducible refine Bt ?_ (by assumption)) | (with_reducible refine Bp (g := g) ?_ (by assumption) (by assumption)))).grown hG5 (by simp) (fun g hg => by cases hg; exact Nat.le_refl _); have hE5 : Exc (fun g => (Value.slice B k cb).ownBlock = some g) wm w5 := Exc.grown (Exc.alloc (Exc.drew (Exc.refl _ _)) _) (fun g hg => by cases hg; exact Or.inr (Nat.le_refl _)) hG5; have hz5 := hb5.size) | (at_builtin; go_loud (refine wpList_rowAppendN _ rfl (.tmp 17) (.tmp 29) _ rfl 28 i0 _ 3 40 Try.underlying23 q1 q2 q3 q4 rfl (by decide) w.heap.size _ B k cb (MbF M') rfl (RowOwn.alloc (HOm.out.row.below (Nat.le_refl _) hb5) _) _ _ _ 1 1 _ rfl (mb_at _ w5.heap.size _ _ _ _ rfl) (k + 1) rfl ?_ (by unfold maxLen; omega) (by omega) (by simp; omega) ?_); (focus (intro i hi; rcases (by omega : i = 0 ∨ i = 1 ∨ i = 2) with rfl | rfl | rfl <;> rfl)); intro B6 cb6 w7 hO7 hG7 hL7; have hE7 : Exc (fun g => (Value.slice B k cb).ownBlock = some g) wm w7 := Exc.grown (Exc.alloc hE5 _) (fun g hg => Or.inl hg) hG7))); refine then_mix rfl ?_ ?_; (focus (first | (intro h; have h2 : false = true := h; cases h2) | (intro _; assumption) | (intro _; repeat (first | assumption | (with_reducible exact Exc.refl _ _) | (with_reducible refine Exc.drew ?_) | (with_reducible refine Exc.alloc ?_ _) | (with_reducible refine Exc.setC ?_ ?_ _; focus (simp))))))))
    refine mix_nil ?_
    go_wp2_with fail
    go_roundw
    case rel =>
      refine ⟨k + 1, B6, cb6, snocM M' k ⟨mkM (M k).p.id (M k).p.s (T (M k).p.id), A5, c5⟩, by omega, by go_num, rfl, Lib.hid (RmO.snoc HOm.out hwm (hb5.alloc hb5.size _) ?_ hG7 hO7 ?_ hL7), Lib.hid (fun i hi => ?_), Lib.hid (grown_belowR HBm.out hb5 hG7 (fun g hg => (HOm.out.row.1.lt g hg).1))⟩
      · refine OwnI.wide (lo := wm.heap.size) (hi := w5.heap.size) (OwnI.alloc (OwnI.congr (z := atL (T (M k).p.id)) ?_ (fun j hj => rfl)) _) (Nat.le_refl _) (by simp)
        refine RowOwn.congr hO5 fun j hj => ?_
        show (if j < 0 * 1 then intV (fun _ => 0) j else intV (atL (T (M k).p.id)) (j - 0 * 1)) = intV (atL (T (M k).p.id)) j
        rw [if_neg (by omega), Nat.zero_mul, Nat.sub_zero]
      · intro j hj
        rcases (by omega : j = 0 ∨ j = 1 ∨ j = 2) with rfl | rfl | rfl <;> rfl
      · unfold snocM
        by_cases e : i < k
        · rw [if_pos e]; exact HP.out i e
        · obtain rfl : i = k := by omega
          rw [if_neg e]
    case measure => simp [intOf]; omega
end Go.Proofs.Ytelcclhaepfmgaa
