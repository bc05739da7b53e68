/- Rooms: who leaves, by the reference. -/
import Derived.Test.YtelcclhaepfmgaaRwo
namespace Go.Proofs.Ytelcclhaepfmgaa
open Go Go.RowKit
set_option linter.unusedVariables false
set_option linter.unusedSimpArgs false
def Mm0 : Mm := ⟨0, false, 0, fun _ => 0⟩
def lessM (m : Mm) (v : Int) : Mm := ⟨m.id, m.s, (woL m.z v m.n).length, atL (woL m.z v m.n)⟩
/-- The members but v, who do not hear it. -/
def lvL (r : Nat → Mm) (v : Int) : Nat → List Mm
  | 0 => []
  | n + 1 => if (r n).id = v then lvL r v n else lvL r v n ++ [lessM (r n) v]
theorem lvL_len (r : Nat → Mm) (v : Int) : ∀ n, (lvL r v n).length ≤ n
  | 0 => Nat.le_refl _
  | n + 1 => by
    have := lvL_len r v n
    unfold lvL
    split
    · omega
    · simp; omega
def leaveOk (n : Nat) (r : Nat → Mm) (id : Int) : Prop := RmOk n r ∧ ¬ placeI n r id < 0
instance (n : Nat) (r : Nat → Mm) (id : Int) : Decidable (leaveOk n r id) := inferInstanceAs (Decidable (_ ∧ _))
/-- A room of the call's own that says what L says. -/
def RmRet (L : List Mm) (w : World) (e : Ending) (w' : World) : Prop :=
  ∃ B cb M', RmO w.heap.size B L.length cb M' w' ∧ (∀ i, i < L.length → (M' i).p = L.getD i Mm0) ∧ e = .returned (.tuple #[.slice B L.length cb, .bool true]) ∧ Below w.heap.size w w'
theorem Exc.of_belowR {X : Nat → Prop} {w w' : World} (h : Below w.heap.size w w') : Exc X w w' := ⟨h.os, h.tape, h.output, h.size, fun k hk _ => h.block k hk⟩
set_option maxRecDepth 100000 in
set_option maxHeartbeats 8000000 in
theorem slv_no (w : World) (lo hi : Nat) (A : Option Addr) (n c : Nat) (M : Nat → Mb) (id : Int) (h : Room w lo hi A n M) (hi' : hi ≤ w.heap.size) (hn : n ≤ 1048576) (hb : ∀ i, i < n → (M i).p.n ≤ 1048576) (hno : ¬ leaveOk n (plain M) id) :
    Calls Try.prog 33 #[.slice A n c, .int .i64 id] w (RmNo w) := by
  have hv := fun W (hw : Below w.heap.size w W) => srv_any W lo hi A n c M (h.below hi' hw) (Nat.le_trans hi' hw.size) hn hb
  have hp := fun W (hw : Below w.heap.size w W) => l31At_any W lo hi A n c id M (h.1.below hi' hw) (Nat.le_trans hi' hw.size) hn
  by_cases h1 : RmOk n (plain M)
  rotate_left
  · rw [show rmB n (plain M) = false from decide_eq_false h1] at hv
    have HV := Lib.hid hv
    clear hv hp h hno h1
    go_enter Try.func33, Try.ntmps33
    go_wp2_with fail
    refine (HV.out _ ?_).mono ?_
    focus (repeat (first | (with_reducible exact Below.refl _ _) | (with_reducible refine Bal ?_ _) | (with_reducible refine Below.drew ?_) | (with_reducible refine below_drewN ?_ _) | (with_reducible refine Bset ?_ ?_ _; focus (first | (with_reducible exact Nat.le_refl _) | (simp; done) | (simp; omega) | omega)) | (with_reducible refine Bt ?_ (by assumption)) | (with_reducible refine Bp (g := g) ?_ (by assumption) (by assumption))))
    rintro e w1 ⟨rfl, hb1⟩
    have hz1 := hb1.size
    go_wp2_with fail
    refine bodyPost_retE rfl ?_
    apply Exists.intro
    refine ⟨?_, ?_⟩
    · simp only [results, Try.results33]
      go_simp
      first | done | rfl
    go_light
    refine ⟨_, rfl, no_row (wx := w1) rfl hz1, ?_⟩
    repeat (first | (with_reducible exact Below.refl _ _) | (with_reducible refine Bal ?_ _) | (with_reducible refine Below.drew ?_) | (with_reducible refine below_drewN ?_ _) | (with_reducible refine Bset ?_ ?_ _; focus (first | (with_reducible exact Nat.le_refl _) | (simp; done) | (simp; omega) | omega)) | (with_reducible refine Bt ?_ (by assumption)) | (with_reducible refine Bp (g := g) ?_ (by assumption) (by assumption)))
  rw [show rmB n (plain M) = true from decide_eq_true h1] at hv
  have HV := Lib.hid hv
  have HP := Lib.hid hp
  clear hv hp h
  obtain ⟨pv, hpv⟩ : ∃ v, placeI n (plain M) id = v := ⟨_, rfl⟩
  have h3 : pv < 0 := by
    by_cases h4 : pv < 0
    · exact h4
    · exact absurd ⟨h1, by rw [hpv]; exact h4⟩ hno
  have hvb : decide (pv < 0) = true := decide_eq_true h3
  clear hno h1 h3
  go_enter Try.func33, Try.ntmps33
  go_wp2_with fail
  refine (HV.out _ ?_).mono ?_
  focus (repeat (first | (with_reducible exact Below.refl _ _) | (with_reducible refine Bal ?_ _) | (with_reducible refine Below.drew ?_) | (with_reducible refine below_drewN ?_ _) | (with_reducible refine Bset ?_ ?_ _; focus (first | (with_reducible exact Nat.le_refl _) | (simp; done) | (simp; omega) | omega)) | (with_reducible refine Bt ?_ (by assumption)) | (with_reducible refine Bp (g := g) ?_ (by assumption) (by assumption))))
  rintro e w1 ⟨rfl, hb1⟩
  have hz1 := hb1.size
  have HB1 := Lib.hid (show Below w.heap.size w w1 by repeat (first | (with_reducible exact Below.refl _ _) | (with_reducible refine Bal ?_ _) | (with_reducible refine Below.drew ?_) | (with_reducible refine below_drewN ?_ _) | (with_reducible refine Bset ?_ ?_ _; focus (first | (with_reducible exact Nat.le_refl _) | (simp; done) | (simp; omega) | omega)) | (with_reducible refine Bt ?_ (by assumption)) | (with_reducible refine Bp (g := g) ?_ (by assumption) (by assumption))))
  go_wp2_with fail
  refine (HP.out _ HB1.out).mono ?_
  rintro e w2 ⟨rfl, hb2⟩
  rw [hpv]
  have hz2 := hb2.size
  go_wp2_with fail
  refine bodyPost_retE rfl ?_
  apply Exists.intro
  refine ⟨?_, ?_⟩
  · simp only [results, Try.results33]
    go_simp
    first | done | rfl
  go_light
  refine ⟨_, rfl, no_row (wx := w1) rfl (by omega), ?_⟩
  repeat (first | (with_reducible exact Below.refl _ _) | (with_reducible refine Bal ?_ _) | (with_reducible refine Below.drew ?_) | (with_reducible refine below_drewN ?_ _) | (with_reducible refine Bset ?_ ?_ _; focus (first | (with_reducible exact Nat.le_refl _) | (simp; done) | (simp; omega) | omega)) | (with_reducible refine Bt ?_ (by assumption)) | (with_reducible refine Bp (g := g) ?_ (by assumption) (by assumption)))
set_option maxRecDepth 100000 in
set_option maxHeartbeats 8000000 in
theorem slv_ok (w : World) (lo hi : Nat) (A : Option Addr) (n c : Nat) (M : Nat → Mb) (id : Int) (h : Room w lo hi A n M) (hi' : hi ≤ w.heap.size) (hn : n ≤ 1048576) (hb : ∀ i, i < n → (M i).p.n ≤ 1048576) (hok : leaveOk n (plain M) id) :
    Calls Try.prog 33 #[.slice A n c, .int .i64 id] w (RmRet (lvL (plain M) id n) w) := by
  obtain ⟨i0, q1, q2, q3, q4⟩ := info_parts info_mb
  have hv := fun W (hw : Below w.heap.size w W) => srv_any W lo hi A n c M (h.below hi' hw) (Nat.le_trans hi' hw.size) hn hb
  have hp := fun W (hw : Below w.heap.size w W) => l31At_any W lo hi A n c id M (h.1.below hi' hw) (Nat.le_trans hi' hw.size) hn
  obtain ⟨h1, h3⟩ := hok
  rw [show rmB n (plain M) = true from decide_eq_true h1] at hv
  obtain ⟨pv, hpv⟩ : ∃ v, placeI n (plain M) id = v := ⟨_, rfl⟩
  rw [hpv] at h3
  have hvb : decide (pv < 0) = false := decide_eq_false h3
  have HV := Lib.hid hv
  have HP := Lib.hid hp
  have H := Lib.hid h
  have HN := Lib.hid hb
  clear hv hp h h1 h3 hb
  go_enter Try.func33, Try.ntmps33
  go_wp2_with fail
  refine (HV.out _ ?_).mono ?_
  focus (repeat (first | (with_reducible exact Below.refl _ _) | (with_reducible refine Bal ?_ _) | (with_reducible refine Below.drew ?_) | (with_reducible refine below_drewN ?_ _) | (with_reducible refine Bset ?_ ?_ _; focus (first | (with_reducible exact Nat.le_refl _) | (simp; done) | (simp; omega) | omega)) | (with_reducible refine Bt ?_ (by assumption)) | (with_reducible refine Bp (g := g) ?_ (by assumption) (by assumption))))
  rintro e w1 ⟨rfl, hb1⟩
  have hz1 := hb1.size
  have HB1 := Lib.hid (show Below w.heap.size w w1 by repeat (first | (with_reducible exact Below.refl _ _) | (with_reducible refine Bal ?_ _) | (with_reducible refine Below.drew ?_) | (with_reducible refine below_drewN ?_ _) | (with_reducible refine Bset ?_ ?_ _; focus (first | (with_reducible exact Nat.le_refl _) | (simp; done) | (simp; omega) | omega)) | (with_reducible refine Bt ?_ (by assumption)) | (with_reducible refine Bp (g := g) ?_ (by assumption) (by assumption))))
  go_wp2_with fail
  refine (HP.out _ HB1.out).mono ?_
  rintro e w2 ⟨rfl, hb2⟩
  rw [hpv]
  have hz2 := hb2.size
  have HB2 := Lib.hid (show Below w.heap.size w w2 by repeat (first | (with_reducible exact Below.refl _ _) | (with_reducible refine Bal ?_ _) | (with_reducible refine Below.drew ?_) | (with_reducible refine below_drewN ?_ _) | (with_reducible refine Bset ?_ ?_ _; focus (first | (with_reducible exact Nat.le_refl _) | (simp; done) | (simp; omega) | omega)) | (with_reducible refine Bt ?_ (by assumption)) | (with_reducible refine Bp (g := g) ?_ (by assumption) (by assumption))))
  clear hb1 hb2
  go_wp2_with fail
  have hwl : w.heap.size ≤ w2.heap.size := by omega
  have hS : RmO w.heap.size (some ⟨w2.heap.size, 0, none⟩) 0 0 M (w2.alloc (.cells #[] 28)) :=
    ⟨(empty_row w2 28 3 (MbF M)).wide hwl (by simp), fun i hi => absurd hi (by omega), fun i hi => absurd hi (by omega), fun i j _ hj => absurd hj (by omega)⟩
  have HS := Lib.hid hS
  have HBS := Lib.hid (HB2.out.alloc hwl (.cells #[] 28))
  clear hS
  go_loopw [6, 7] (fun s i wr => ∃ (k : Nat) (B : Option Addr) (cb L : Nat) (M' : Nat → Mb), k ≤ n ∧ i = .int .i64 (k : Nat) ∧ s = .slice B L cb ∧ Hid (L = (lvL (plain M) id k).length) ∧ Hid (RmO w.heap.size B L cb M' wr) ∧ Hid (∀ i, i < L → (M' i).p = (lvL (plain M) id k).getD i Mm0) ∧ Hid (Below w.heap.size w wr)) (fun _ i _ => n - (intOf i).toNat)
  case atStart => exact ⟨0, _, 0, 0, M, Nat.zero_le _, rfl, rfl, Lib.hid rfl, HS, Lib.hid (fun i hi => absurd hi (by omega)), HBS⟩
  case round =>
    obtain ⟨k, B, cb, L, M', hk, rfl, rfl, HL, HO, HPP, HB⟩ := hrel
    clear HS HBS
    have hws := HB.out.size
    have hLk : L ≤ k := by have := lvL_len (plain M) id k; have e := HL.out; omega
    by_cases hkn : k < n
    rotate_left
    · obtain rfl : k = n := by omega
      go_wp2_with fail
      refine bodyPost_retE rfl ?_
      apply Exists.intro
      refine ⟨?_, ?_⟩
      · simp only [results, Try.results33]
        go_simp
        first | done | rfl
      go_light
      have e := HL.out
      subst e
      exact ⟨B, cb, M', HO.out, HPP.out, rfl, HB.out⟩
    have HR := Lib.hid (H.out.1.below hi' HB.out)
    have HZ := Lib.hid ((H.out.2 k hkn).below hi' HB.out)
    have hzn := HN.out k hkn
    obtain ⟨b, off, rfl, _, hb2, c0, c1, c2⟩ := Mb_at HR.out hkn
    have hbw : b < wr.heap.size := by omega
    by_cases hv : (M k).p.id = id
    · have HE := Lib.hid (show lvL (plain M) id (k + 1) = lvL (plain M) id k from if_pos hv)
      go_wp2_with fail
      go_roundw
      case rel =>
        have e := HE.out
        refine ⟨k + 1, B, cb, L, M', by omega, by go_num, rfl, ?_, HO, ?_, HB⟩
        · rw [e]; exact HL
        · rw [e]; exact HPP
      case measure => simp [intOf]; omega
    have HE := Lib.hid (show lvL (plain M) id (k + 1) = lvL (plain M) id k ++ [lessM (M k).p id] from if_neg hv)
    have hbX : ¬ (Value.slice B L cb).ownBlock = some b := fun e => by have := (HO.out.row.1.lt _ e).1; omega
    have hgd : ∀ W : World, W.drew.heap.size = W.heap.size := fun _ => rfl
    have hwi : hi ≤ wr.heap.size := by omega
    go_wp2_with fail
    refine wp_region_mix (Exc (fun g => (Value.slice B L cb).ownBlock = some g) wr) (by kernel_rfl) (by kernel_rfl) (Exc.drew (Exc.refl _ _)) ?_
    repeat (first
      | (refine mix_skip rfl ?_; have e0 : True := trivial; clear e0; refine mix_putK ?_; intro K hK; go_simp; refine hK _ ?_; clear hK K)
      | (refine mix_readE rfl rfl rfl ?_; apply Exists.intro; refine ⟨fun w' hb' => ?_, ?_⟩; (focus (obtain ⟨hc', hf'⟩ := exc_cells hb'; clear hb'; go_simp; try exact rfl)); have e0 : True := trivial; clear e0; refine mix_putK ?_; intro K hK; go_simp; refine hK _ ?_; clear hK K)
      | (refine mix_pureE rfl rfl ?_; apply Exists.intro; refine ⟨fun w' => ?_, ?_⟩; (focus (first | (fail) | (go_simp; try exact rfl))); have e0 : True := trivial; clear e0; refine mix_putK ?_; intro K hK; go_simp; refine hK _ ?_; clear hK K)
      | (refine mix_eff rfl rfl ?_; go_wp2_with ((first | (go_at_call 58; refine (l31Without_any _ lo hi (M k).A (M k).p.n (M k).c id (M k).p.z (RowAt.below hwi HZ.out (by repeat (first | (with_reducible exact Below.refl _ _) | (with_reducible refine Bal ?_ _) | (with_reducible refine Below.drew ?_) | (with_reducible refine below_drewN ?_ _) | (with_reducible refine Bset ?_ ?_ _; focus (first | (with_reducible exact Nat.le_refl _) | (simp; done) | (simp; omega) | omega)) | (with_reducible refine Bt ?_ (by assumption)) | (with_reducible refine Bp (g := g) ?_ (by assumption) (by assumption))))) (by first | exact Nat.le_refl _ | (simp; done) | (simp; omega) | omega) hzn).mono ?_; rintro e w5 ⟨A5, c5, hO5, rfl, hb5'⟩; have hb5 : Below wr.heap.size wr w5 := Below.trans (Below.drew (Below.refl _ _)) hb5'; have hE5 : Exc (fun g => (Value.slice B L cb).ownBlock = some g) wr w5 := Exc.of_belowR hb5; have hz5 := hb5.size) | (at_builtin; go_loud (refine wpList_rowAppendN _ rfl (.tmp 32) (.tmp 51) _ rfl 28 i0 _ 3 40 Try.underlying23 q1 q2 q3 q4 rfl (by decide) w.heap.size _ B L cb (MbF M') rfl (RowOwn.alloc (HO.out.row.below (Nat.le_refl _) hb5) _) _ _ _ 1 1 _ rfl (mb_at _ w5.heap.size _ _ _ _ rfl) (L + 1) rfl ?_ (by unfold maxLen; omega) (by omega) (by simp; omega) ?_); (focus (intro i hi; rcases (by omega : i = 0 ∨ i = 1 ∨ i = 2) with rfl | rfl | rfl <;> rfl)); intro B6 cb6 w7 hO7 hG7 hL7; have hE7 : Exc (fun g => (Value.slice B L cb).ownBlock = some g) wr w7 := Exc.grown (Exc.alloc hE5 _) (fun g hg => Or.inl hg) hG7))); refine then_mix rfl ?_ ?_; (focus (first | (intro h; have h2 : false = true := h; cases h2) | (intro _; assumption) | (intro _; repeat (first | assumption | (with_reducible exact Exc.refl _ _) | (with_reducible refine Exc.drew ?_) | (with_reducible refine Exc.alloc ?_ _) | (with_reducible refine Exc.setC ?_ ?_ _; focus (simp))))))))
    refine mix_nil ?_
    go_wp2_with fail
    go_roundw
    case rel =>
      have e := HE.out
      have e2 := HL.out
      refine ⟨k + 1, B6, cb6, L + 1, snocM M' L ⟨lessM (M k).p id, A5, c5⟩, by omega, by go_num, rfl, Lib.hid (by rw [e, e2]; simp), Lib.hid (RmO.snoc HO.out hws (hb5.alloc hb5.size _) ?_ hG7 hO7 ?_ hL7), Lib.hid (fun i hi => ?_), Lib.hid (grown_belowR HB.out hb5 hG7 (fun g hg => (HO.out.row.1.lt g hg).1))⟩
      · exact OwnI.wide (lo := wr.heap.size) (hi := w5.heap.size) (OwnI.alloc hO5 _) (Nat.le_refl _) (by simp)
      · intro j hj
        rcases (by omega : j = 0 ∨ j = 1 ∨ j = 2) with rfl | rfl | rfl <;> rfl
      · rw [e]
        unfold snocM
        by_cases e3 : i < L
        · rw [if_pos e3, HPP.out i e3]; simp [List.getD, List.getElem?_append, show i < (lvL (plain M) id k).length by omega]
        · obtain rfl : i = L := by omega
          rw [if_neg e3]; rw [e2]; simp [List.getD]
    case measure => simp [intOf]; omega
end Go.Proofs.Ytelcclhaepfmgaa
