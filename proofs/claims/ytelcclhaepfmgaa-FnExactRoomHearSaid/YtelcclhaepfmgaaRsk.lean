/- Rooms: who joins, by the reference, where it succeeds (printed by gen_rsk.py). -/
import Derived.Test.YtelcclhaepfmgaaRsj
namespace Go.Proofs.Ytelcclhaepfmgaa
open Go Go.RowKit
set_option linter.unusedVariables false
set_option linter.unusedSimpArgs false
theorem own_leR {e : TypeId} {w : World} {lo hi n c sz : Nat} {A : Option Addr} {f : Nat → Value} (h : RowOwn e w lo hi A n c sz f) : n ≤ c := by
  rcases RowOwn.cases h with ⟨_, h1, h2⟩ | ⟨g, _, _, _, _, h1, _⟩
  · omega
  · exact h1
theorem wpList_upto {P : Program} (w : World) {ops : Array Oper} {rest : List Oper} {o : Oper} {a : Act} {Q : Exit → Act → World → Prop} (hgd : o.guard = none) (x l : Operand) (t e : TypeId) (i : TypeInfo) (sz k n c : Nat) (A : Option Addr)
    (ho : o.op = .slice t x none (some l) none) (hx : a.eval x = .slice A n c) (hl : a.eval l = .int .i64 (k : Nat)) (ht : P.underlying t = some (.slice e)) (hi : P.info? e = some i) (hs : i.size = sz) (hk : k ≤ n) (hc : n ≤ c)
    (h : wpList P ops Q rest (a.put o.dst (.slice A k c)) w) : wpList P ops Q (o :: rest) a w := by
  have hrun := exec_upto (P := P) (w := w) x l ho hx hl ht hi hs (Nat.le_trans hk hc)
  refine wpList_plain hgd fun K hK => ?_
  unfold Oper.wp
  rw [hrun]
  exact hK _ _ h
def insR (r : Nat → Mm) (a : Nat) (x : Mm) : Nat → Mm := fun i => if i < a then r i else if i = a then x else r (i - 1)
def JoinRet (n a : Nat) (r : Nat → Mm) (x : Mm) (w : World) (e : Ending) (w' : World) : Prop :=
  ∃ B cb M', RmO w.heap.size B (n + 1) cb M' w' ∧ (∀ i, i < n + 1 → (M' i).p = insR r a x i) ∧ e = .returned (.tuple #[.slice B (n + 1) cb, .bool true]) ∧ Below w.heap.size w w'
theorem ins_mb {w : World} {e : TypeId} {lo hi n a c : Nat} {A : Option Addr} {M : Nat → Mb} {x : Mb} (ha : a ≤ n)
    (h : RowOwn e w lo hi A (n + 1) c 3 (catF ((a + 1) * 3) (catF (a * 3) (catF (0 * 3) (MbF M) (MbF M)) (fun j => [Value.int .i64 x.p.id, .bool x.p.s, .slice x.A x.p.n x.c].getD j (.int .i64 x.p.id))) fun j => MbF M (a * 3 + j))) :
    RowOwn e w lo hi A (n + 1) c 3 (MbF (insM M a x)) := by
  refine RowOwn.congr h fun j hj => ?_
  have hd := Nat.div_add_mod j 3
  show (if j < (a + 1) * 3 then (if j < a * 3 then (if j < 0 * 3 then MbF M j else MbF M (j - 0 * 3)) else _) else MbC (M ((a * 3 + (j - (a + 1) * 3)) / 3)) ((a * 3 + (j - (a + 1) * 3)) % 3)) = MbC (if j / 3 < a then M (j / 3) else if j / 3 = a then x else M (j / 3 - 1)) (j % 3)
  by_cases h1 : j < (a + 1) * 3
  · rw [if_pos h1]
    by_cases h2 : j < a * 3
    · rw [if_pos h2, if_neg (by omega), if_pos (by omega), Nat.zero_mul, Nat.sub_zero]; rfl
    · rw [if_neg h2, if_neg (by omega), if_pos (by omega)]
      rcases (by omega : j - a * 3 = 0 ∧ j % 3 = 0 ∨ j - a * 3 = 1 ∧ j % 3 = 1 ∨ j - a * 3 = 2 ∧ j % 3 = 2) with ⟨e1, e2⟩ | ⟨e1, e2⟩ | ⟨e1, e2⟩ <;> rw [e1, e2] <;> rfl
  · rw [if_neg h1, if_neg (by omega), if_neg (by omega)]
    rw [show (a * 3 + (j - (a + 1) * 3)) / 3 = j / 3 - 1 by omega, show (a * 3 + (j - (a + 1) * 3)) % 3 = j % 3 by omega]
theorem RmO.ins {lo lo2 n a c c2 z5 : Nat} {B B2 : Option Addr} {M : Nat → Mb} {x : Mb} {wr w7 : World} (h : RmO lo2 B n c M wr) (hlo : lo ≤ lo2) (ha : a ≤ n) (hb : Below wr.heap.size wr w7)
    (hr : RowOwn 28 w7 wr.heap.size w7.heap.size B2 (n + 1) c2 3 (MbF (insM M a x))) (hx : OwnI w7 z5 (z5 + 1) x.A x.p.n x.c x.p.z) (hxb : ownM x = some z5) (hz : wr.heap.size ≤ z5) (hz7 : z5 + 1 ≤ w7.heap.size)
    (hB : ∀ g, (Value.slice B2 (n + 1) c2).ownBlock = some g → wr.heap.size ≤ g ∧ g ≠ z5) (hle : lo2 ≤ wr.heap.size := by omega) : RmO lo B2 (n + 1) c2 (insM M a x) w7 := by
  have hM : ∀ i, i < n → ∀ g, ownM (M i) = some g → g < wr.heap.size := fun i hi g hg => ((h.hears i hi).1.lt g hg).2
  have hOld : ∀ i, i < n → OwnI w7 lo w7.heap.size (M i).A (M i).p.n (M i).c (M i).p.z := fun i hi => ((h.hears i hi).below (Nat.le_refl _) hb).wide hlo hb.size
  have key : ∀ i, i < n + 1 → (∃ k, k < n ∧ insM M a x i = M k ∧ (k = i ∧ i < a ∨ k + 1 = i ∧ a < i)) ∨ (i = a ∧ insM M a x i = x) := by
    intro i hi
    by_cases h1 : i < a
    · exact Or.inl ⟨i, by omega, if_pos h1, Or.inl ⟨rfl, h1⟩⟩
    · by_cases h2 : i = a
      · exact Or.inr ⟨h2, (if_neg h1).trans (if_pos h2)⟩
      · exact Or.inl ⟨i - 1, by omega, (if_neg h1).trans (if_neg h2), Or.inr ⟨by omega, by omega⟩⟩
  refine ⟨hr.wide (by omega) (Nat.le_refl _), fun i hi => ?_, fun i hi g hg e => ?_, fun i j hij hj g hg e => ?_⟩
  · rcases key i hi with ⟨k, hk, e, _⟩ | ⟨_, e⟩
    · rw [e]; exact hOld k hk
    · rw [e]; exact hx.wide (by omega) hz7
  · rcases key i hi with ⟨k, hk, e2, _⟩ | ⟨_, e2⟩
    · rw [e2] at hg; have h1 := hM k hk g hg; have h2 := (hB g e).1; omega
    · rw [e2, hxb] at hg; cases hg; exact (hB _ e).2 rfl
  · rcases key i (by omega) with ⟨k, hk, e2, o1⟩ | ⟨o1, e2⟩
    · rw [e2] at hg
      rcases key j hj with ⟨l, hl, e3, o2⟩ | ⟨o2, e3⟩
      · rw [e3] at e; exact h.two k l (by omega) hl g hg e
      · rw [e3, hxb] at e; cases e; have h1 := hM k hk _ hg; omega
    · rw [e2, hxb] at hg
      cases hg
      rcases key j hj with ⟨l, hl, e3, o2⟩ | ⟨o2, e3⟩
      · rw [e3] at e; have h1 := hM l hl _ e; omega
      · omega
set_option maxRecDepth 100000 in
set_option maxHeartbeats 8000000 in
theorem sjn_ok (w : World) (lo hi : Nat) (A : Option Addr) (n c : Nat) (M : Nat → Mb) (id : Int) (s : Bool) (a : Nat) (h : Room w lo hi A n M) (hi' : hi ≤ w.heap.size) (hn : n ≤ 1048576) (hb : ∀ i, i < n → (M i).p.n ≤ 1048576) (hok : joinOk n (plain M) id) (ha : JAt n (plain M) id a) :
    Calls Try.prog 21 #[.slice A n c, .int .i64 id, .bool s] w (JoinRet n a (plain M) ⟨id, s, 0, fun _ => 0⟩ w) := by
  obtain ⟨i0, q1, q2, q3, q4⟩ := info_parts info_mb
  have hv := fun W (hw : Below w.heap.size w W) => srv_any W lo hi A n c M (h.below hi' hw) (Nat.le_trans hi' hw.size) hn hb
  have ht := fun W : World => l6In_any id 0 99 W
  have hp := fun W (hw : Below w.heap.size w W) => l31At_any W lo hi A n c id M (h.1.below hi' hw) (Nat.le_trans hi' hw.size) hn
  have hcp := fun W (hw : Below w.heap.size w W) => l31Copy_any W lo hi A n c M (h.below hi' hw) (Nat.le_trans hi' hw.size) hn hb
  obtain ⟨h1, h2, h3, h4⟩ := hok
  rw [show rmB n (plain M) = true from decide_eq_true h1] at hv
  rw [inB_t h2.1 h2.2] at ht
  obtain ⟨pv, hpv⟩ : ∃ v, placeI n (plain M) id = v := ⟨_, rfl⟩
  rw [hpv] at h3
  have hvb : decide (0 ≤ pv) = false := decide_eq_false (by omega)
  have hn6 : ¬ (n : Int) = 6 := by omega
  have hn6' : n ≤ 5 := by have := h1.1; omega
  have HV := Lib.hid hv
  have HT := Lib.hid ht
  have HP := Lib.hid hp
  have HC := Lib.hid hcp
  obtain ⟨haL, haB, haE⟩ := ha
  clear hv ht hp hcp h h1 h2 h3 h4
  go_enter Try.func21, Try.ntmps21
  go_wp2_with fail
  refine (HV.out _ ?_).mono ?_
  focus (repeat (first | (with_reducible exact Below.refl _ _) | (with_reducible refine Bal ?_ _) | (with_reducible refine Below.drew ?_) | (with_reducible refine below_drewN ?_ _) | (with_reducible refine Bset ?_ ?_ _; focus (first | (with_reducible exact Nat.le_refl _) | (simp; done) | (simp; omega) | omega)) | (with_reducible refine Bt ?_ (by assumption)) | (with_reducible refine Bp (g := g) ?_ (by assumption) (by assumption))))
  rintro e w1 ⟨rfl, hb1⟩
  have hz1 := hb1.size
  have HB1 := Lib.hid (show Below w.heap.size w w1 by repeat (first | (with_reducible exact Below.refl _ _) | (with_reducible refine Bal ?_ _) | (with_reducible refine Below.drew ?_) | (with_reducible refine below_drewN ?_ _) | (with_reducible refine Bset ?_ ?_ _; focus (first | (with_reducible exact Nat.le_refl _) | (simp; done) | (simp; omega) | omega)) | (with_reducible refine Bt ?_ (by assumption)) | (with_reducible refine Bp (g := g) ?_ (by assumption) (by assumption))))
  go_wp2_with fail
  refine (HT.out _).mono ?_
  rintro e w' ⟨rfl, rfl⟩
  go_wp2_with fail
  refine (HP.out _ HB1.out).mono ?_
  rintro e w2 ⟨rfl, hb2⟩
  rw [hpv]
  have hz2 := hb2.size
  have HB2 := Lib.hid (show Below w.heap.size w w2 by repeat (first | (with_reducible exact Below.refl _ _) | (with_reducible refine Bal ?_ _) | (with_reducible refine Below.drew ?_) | (with_reducible refine below_drewN ?_ _) | (with_reducible refine Bset ?_ ?_ _; focus (first | (with_reducible exact Nat.le_refl _) | (simp; done) | (simp; omega) | omega)) | (with_reducible refine Bt ?_ (by assumption)) | (with_reducible refine Bp (g := g) ?_ (by assumption) (by assumption))))
  clear hb1 hb2
  go_wp2_with fail
  refine (HC.out _ HB2.out).mono ?_
  rintro e w3 ⟨B3, cb3, M3, hO3, hp3, rfl, hb3⟩
  have hz3 := hb3.size
  have HO3 := Lib.hid hO3
  have HP3 := Lib.hid hp3
  have HB3 := Lib.hid (HB2.out.trans (hb3.mono HB2.out.size))
  clear hO3 hp3 hb3
  go_wp2_with fail
  go_loopw [9] (fun i wr => ∃ k, k ≤ a ∧ i = .int .i64 (k : Nat) ∧ Hid (Below w3.heap.size w3 wr)) (fun i _ => a - (intOf i).toNat)
  case atStart => exact ⟨0, Nat.zero_le _, rfl, Lib.hid (Below.refl _ _)⟩
  case round =>
    obtain ⟨k, hk, rfl, hB⟩ := hrel
    have hbs := hB.out.size
    by_cases hka : k < a
    · have hkn : k < n := by omega
      obtain ⟨b, off, rfl, _, hb2, c0, c1, c2⟩ := Mb_at (HO3.out.row.row.below (Nat.le_refl _) hB.out) hkn
      have hbw : b < wr.heap.size := by omega
      have hid := haB k hka
      rw [← show (M3 k).p = plain M k from HP3.out k hkn] at hid
      go_wp2_with fail
      go_roundw
      case rel => exact ⟨k + 1, by omega, by go_num, hB⟩
      case measure => simp [intOf]; omega
    obtain rfl : k = a := by omega
    clear hka hk haB
    by_cases hkn : k < n
    · obtain ⟨b, off, hAe, _, hb2, c0, c1, c2⟩ := Mb_at (HO3.out.row.row.below (Nat.le_refl _) hB.out) hkn
      subst hAe
      have hbw : b < wr.heap.size := by omega
      have hid := haE hkn
      rw [← show (M3 k).p = plain M k from HP3.out k hkn] at hid
      have hidb : decide ((M3 k).p.id < id) = false := decide_eq_false (by omega)
      clear hid haE
      have HBr := hB
      have HOr := Lib.hid (HO3.out.below HBr.out)
      clear hB
      have hzr := HBr.out.size
      have hnc : n ≤ cb3 := own_leR HOr.out.row
      have hlo : w2.heap.size ≤ wr.heap.size := by omega
      go_upto_region 8 with (first | (refine wpList_upto _ rfl (.tmp 49) (.tmp 50) _ _ i0 3 k n cb3 _ rfl rfl rfl Try.underlying23 q1 q3 haL hnc ?_) | (at_builtin; go_loud (refine wpList_rowAppendN _ rfl (.tmp 48) (.tmp 51) _ rfl 28 i0 _ 3 40 Try.underlying23 q1 q2 q3 q4 rfl (by decide) wr.heap.size _ (some ⟨wr.heap.size, 0, none⟩) 0 0 (MbF M3) rfl (empty_at _ 28 wr.heap.size 3 (MbF M3) (by simp)) _ _ (some ⟨b, off, none⟩) k cb3 (MbF M3) rfl ((RowAt.upto HOr.out.row.row haL).below (Nat.le_refl _) (by repeat (first | (with_reducible exact Below.refl _ _) | (with_reducible refine Bal ?_ _) | (with_reducible refine Below.drew ?_) | (with_reducible refine below_drewN ?_ _) | (with_reducible refine Bset ?_ ?_ _; focus (first | (with_reducible exact Nat.le_refl _) | (simp; done) | (simp; omega) | omega)) | (with_reducible refine Bt ?_ (by assumption)) | (with_reducible refine Bp (g := g) ?_ (by assumption) (by assumption))))) k (Nat.zero_add _) ?_ (by unfold maxLen; omega) (by omega) (by simp) ?_); (focus (intro i hi; exact mb_one _ _)); intro B5 cb5 w5 hO5 hG5 hL5; have hb5 : Below wr.heap.size wr w5 := (show Below wr.heap.size wr _ by repeat (first | (with_reducible exact Below.refl _ _) | (with_reducible refine Bal ?_ _) | (with_reducible refine Below.drew ?_) | (with_reducible refine below_drewN ?_ _) | (with_reducible refine Bset ?_ ?_ _; focus (first | (with_reducible exact Nat.le_refl _) | (simp; done) | (simp; omega) | omega)) | (with_reducible refine Bt ?_ (by assumption)) | (with_reducible refine Bp (g := g) ?_ (by assumption) (by assumption)))).grown hG5 (by simp) (fun g hg => by cases hg; exact Nat.le_refl _); have hz5 := hb5.size) | (at_builtin; go_loud (refine wpList_rowAppendN _ rfl (.tmp 52) (.tmp 57) _ rfl 28 i0 _ 3 40 Try.underlying23 q1 q2 q3 q4 rfl (by decide) wr.heap.size _ B5 k cb5 _ rfl (RowOwn.alloc (RowOwn.alloc hO5 _) _) _ _ _ 1 1 _ rfl (mb_at _ (w5.heap.size + 1) _ _ _ _ (by simp)) (k + 1) rfl ?_ (by unfold maxLen; omega) (by omega) (by simp; omega) ?_); (focus (intro i hi; rcases (by omega : i = 0 ∨ i = 1 ∨ i = 2) with rfl | rfl | rfl <;> rfl)); intro B6 cb6 w6 hO6 hG6 hL6))
      have hE5 := Lib.hid (show OwnI (w5.alloc (.cells #[] 3)) w5.heap.size (w5.heap.size + 1) (some ⟨w5.heap.size, 0, none⟩) 0 0 (fun _ => 0) from empty_at w5 3 w5.heap.size 1 (intV fun _ => 0) rfl)
      have hB5g : ∀ g, (Value.slice B5 k cb5).ownBlock = some g → wr.heap.size ≤ g ∧ g < w5.heap.size := fun g hg => hO5.1.lt g hg
      have hb6 : Below wr.heap.size wr w6 := ((hb5.alloc hz5 _).alloc (by simp; omega) _).grown hG6 (by simp; omega) (fun g hg => (hB5g g hg).1)
      have hz6 := hb6.size
      have hs6 := hG6.size
      simp at hs6
      have hB6g : ∀ g, (Value.slice B6 (k + 1) cb6).ownBlock = some g → wr.heap.size ≤ g ∧ g < w6.heap.size ∧ g ≠ w5.heap.size := fun g hg => ⟨(hO6.1.lt g hg).1, (hO6.1.lt g hg).2, fun e => by
        rcases hL6 with h | h
        · rw [h] at hg; have := hB5g g hg; omega
        · rw [h] at hg; simp at hg; omega⟩
      have HE6 := Lib.hid (RowOwn.apartR (fun g hg e => by have h1 := (hB5g g hg).2; simp [Value.ownBlock] at e; omega) (RowOwn.alloc hE5.out _) hG6)
      have HO6 := Lib.hid hO6
      clear hO5 hO6 hG5 hG6 hL5 hL6 hE5
      go_wp2_with (first | (refine wpList_from _ rfl (.tmp 60) (.tmp 61) _ _ i0 3 k n cb3 _ rfl rfl rfl Try.underlying23 q1 q3 haL hnc ?_) | (at_builtin; go_loud (refine wpList_rowAppendN _ rfl (.tmp 59) (.tmp 62) _ rfl 28 i0 _ 3 40 Try.underlying23 q1 q2 q3 q4 rfl (by decide) wr.heap.size _ B6 (k + 1) cb6 _ rfl HO6.out _ _ (fromA (some ⟨b, off, none⟩) cb3 k 3) (n - k) (cb3 - k) _ rfl ((RowAt.from HOr.out.row.row haL hnc).below (Nat.le_refl _) hb6) (n + 1) (by omega) ?_ (by unfold maxLen; omega) (by omega) (by omega) ?_); (focus (intro i hi; exact mb_one _ _)); intro B7 cb7 w7 hO7 hG7 hL7))
      refine bodyPost_retE rfl ?_
      apply Exists.intro
      refine ⟨?_, ?_⟩
      · simp only [results, Try.results21]
        go_simp
        first | done | rfl
      go_light
      have hb7 : Below wr.heap.size wr w7 := hb6.grown hG7 hz6 (fun g hg => (hB6g g hg).1)
      have hz7 := hG7.size
      refine ⟨B7, cb7, insM M3 k ⟨⟨id, s, 0, fun _ => 0⟩, some ⟨w5.heap.size, 0, none⟩, 0⟩, RmO.ins HOr.out (by omega) haL hb7 (ins_mb haL hO7) (RowOwn.apartR (fun g hg e => by have h1 := (hB6g g hg).2.2; simp [Value.ownBlock] at e; omega) HE6.out hG7) rfl hz5 (by omega) ?_, fun i hi => ?_, rfl, ?_⟩
      · intro g hg
        rcases hL7 with h | h
        · rw [h] at hg; exact ⟨(hB6g g hg).1, (hB6g g hg).2.2⟩
        · rw [h] at hg; cases hg; omega
      · unfold insM insR
        by_cases e1 : i < k
        · rw [if_pos e1, if_pos e1]; exact HP3.out i (by omega)
        · rw [if_neg e1, if_neg e1]
          by_cases e2 : i = k
          · rw [if_pos e2, if_pos e2]
          · rw [if_neg e2, if_neg e2]; exact HP3.out (i - 1) (by omega)
      · exact (HB3.out.trans (HBr.out.mono HB3.out.size)).trans (hb7.mono (by have := HB3.out.size; omega))
    · clear haE
      have HBr := hB
      have HOr := Lib.hid (HO3.out.below HBr.out)
      clear hB
      have hzr := HBr.out.size
      have hnc : n ≤ cb3 := own_leR HOr.out.row
      have hlo : w2.heap.size ≤ wr.heap.size := by omega
      go_upto_region 8 with (first | (refine wpList_upto _ rfl (.tmp 49) (.tmp 50) _ _ i0 3 k n cb3 _ rfl rfl rfl Try.underlying23 q1 q3 haL hnc ?_) | (at_builtin; go_loud (refine wpList_rowAppendN _ rfl (.tmp 48) (.tmp 51) _ rfl 28 i0 _ 3 40 Try.underlying23 q1 q2 q3 q4 rfl (by decide) wr.heap.size _ (some ⟨wr.heap.size, 0, none⟩) 0 0 (MbF M3) rfl (empty_at _ 28 wr.heap.size 3 (MbF M3) (by simp)) _ _ B3 k cb3 (MbF M3) rfl ((RowAt.upto HOr.out.row.row haL).below (Nat.le_refl _) (by repeat (first | (with_reducible exact Below.refl _ _) | (with_reducible refine Bal ?_ _) | (with_reducible refine Below.drew ?_) | (with_reducible refine below_drewN ?_ _) | (with_reducible refine Bset ?_ ?_ _; focus (first | (with_reducible exact Nat.le_refl _) | (simp; done) | (simp; omega) | omega)) | (with_reducible refine Bt ?_ (by assumption)) | (with_reducible refine Bp (g := g) ?_ (by assumption) (by assumption))))) k (Nat.zero_add _) ?_ (by unfold maxLen; omega) (by omega) (by simp) ?_); (focus (intro i hi; exact mb_one _ _)); intro B5 cb5 w5 hO5 hG5 hL5; have hb5 : Below wr.heap.size wr w5 := (show Below wr.heap.size wr _ by repeat (first | (with_reducible exact Below.refl _ _) | (with_reducible refine Bal ?_ _) | (with_reducible refine Below.drew ?_) | (with_reducible refine below_drewN ?_ _) | (with_reducible refine Bset ?_ ?_ _; focus (first | (with_reducible exact Nat.le_refl _) | (simp; done) | (simp; omega) | omega)) | (with_reducible refine Bt ?_ (by assumption)) | (with_reducible refine Bp (g := g) ?_ (by assumption) (by assumption)))).grown hG5 (by simp) (fun g hg => by cases hg; exact Nat.le_refl _); have hz5 := hb5.size) | (at_builtin; go_loud (refine wpList_rowAppendN _ rfl (.tmp 52) (.tmp 57) _ rfl 28 i0 _ 3 40 Try.underlying23 q1 q2 q3 q4 rfl (by decide) wr.heap.size _ B5 k cb5 _ rfl (RowOwn.alloc (RowOwn.alloc hO5 _) _) _ _ _ 1 1 _ rfl (mb_at _ (w5.heap.size + 1) _ _ _ _ (by simp)) (k + 1) rfl ?_ (by unfold maxLen; omega) (by omega) (by simp; omega) ?_); (focus (intro i hi; rcases (by omega : i = 0 ∨ i = 1 ∨ i = 2) with rfl | rfl | rfl <;> rfl)); intro B6 cb6 w6 hO6 hG6 hL6))
      have hE5 := Lib.hid (show OwnI (w5.alloc (.cells #[] 3)) w5.heap.size (w5.heap.size + 1) (some ⟨w5.heap.size, 0, none⟩) 0 0 (fun _ => 0) from empty_at w5 3 w5.heap.size 1 (intV fun _ => 0) rfl)
      have hB5g : ∀ g, (Value.slice B5 k cb5).ownBlock = some g → wr.heap.size ≤ g ∧ g < w5.heap.size := fun g hg => hO5.1.lt g hg
      have hb6 : Below wr.heap.size wr w6 := ((hb5.alloc hz5 _).alloc (by simp; omega) _).grown hG6 (by simp; omega) (fun g hg => (hB5g g hg).1)
      have hz6 := hb6.size
      have hs6 := hG6.size
      simp at hs6
      have hB6g : ∀ g, (Value.slice B6 (k + 1) cb6).ownBlock = some g → wr.heap.size ≤ g ∧ g < w6.heap.size ∧ g ≠ w5.heap.size := fun g hg => ⟨(hO6.1.lt g hg).1, (hO6.1.lt g hg).2, fun e => by
        rcases hL6 with h | h
        · rw [h] at hg; have := hB5g g hg; omega
        · rw [h] at hg; simp at hg; omega⟩
      have HE6 := Lib.hid (RowOwn.apartR (fun g hg e => by have h1 := (hB5g g hg).2; simp [Value.ownBlock] at e; omega) (RowOwn.alloc hE5.out _) hG6)
      have HO6 := Lib.hid hO6
      clear hO5 hO6 hG5 hG6 hL5 hL6 hE5
      go_wp2_with (first | (refine wpList_from _ rfl (.tmp 60) (.tmp 61) _ _ i0 3 k n cb3 _ rfl rfl rfl Try.underlying23 q1 q3 haL hnc ?_) | (at_builtin; go_loud (refine wpList_rowAppendN _ rfl (.tmp 59) (.tmp 62) _ rfl 28 i0 _ 3 40 Try.underlying23 q1 q2 q3 q4 rfl (by decide) wr.heap.size _ B6 (k + 1) cb6 _ rfl HO6.out _ _ (fromA B3 cb3 k 3) (n - k) (cb3 - k) _ rfl ((RowAt.from HOr.out.row.row haL hnc).below (Nat.le_refl _) hb6) (n + 1) (by omega) ?_ (by unfold maxLen; omega) (by omega) (by omega) ?_); (focus (intro i hi; exact mb_one _ _)); intro B7 cb7 w7 hO7 hG7 hL7))
      refine bodyPost_retE rfl ?_
      apply Exists.intro
      refine ⟨?_, ?_⟩
      · simp only [results, Try.results21]
        go_simp
        first | done | rfl
      go_light
      have hb7 : Below wr.heap.size wr w7 := hb6.grown hG7 hz6 (fun g hg => (hB6g g hg).1)
      have hz7 := hG7.size
      refine ⟨B7, cb7, insM M3 k ⟨⟨id, s, 0, fun _ => 0⟩, some ⟨w5.heap.size, 0, none⟩, 0⟩, RmO.ins HOr.out (by omega) haL hb7 (ins_mb haL hO7) (RowOwn.apartR (fun g hg e => by have h1 := (hB6g g hg).2.2; simp [Value.ownBlock] at e; omega) HE6.out hG7) rfl hz5 (by omega) ?_, fun i hi => ?_, rfl, ?_⟩
      · intro g hg
        rcases hL7 with h | h
        · rw [h] at hg; exact ⟨(hB6g g hg).1, (hB6g g hg).2.2⟩
        · rw [h] at hg; cases hg; omega
      · unfold insM insR
        by_cases e1 : i < k
        · rw [if_pos e1, if_pos e1]; exact HP3.out i (by omega)
        · rw [if_neg e1, if_neg e1]
          by_cases e2 : i = k
          · rw [if_pos e2, if_pos e2]
          · rw [if_neg e2, if_neg e2]; exact HP3.out (i - 1) (by omega)
      · exact (HB3.out.trans (HBr.out.mono HB3.out.size)).trans (hb7.mono (by have := HB3.out.size; omega))
end Go.Proofs.Ytelcclhaepfmgaa
