/- Rooms: who leaves, by the program. -/
import Derived.Test.YtelcclhaepfmgaaRhm
namespace Go.Proofs.Ytelcclhaepfmgaa
open Go Go.RowKit Go.Maps
set_option linter.unusedVariables false
set_option linter.unusedSimpArgs false
theorem Exc.toBelow {X : Nat → Prop} {w w' : World} {B : Nat} (h : Exc X w w') (hX : ∀ k, k < B → ¬ X k) (hB : B ≤ w.heap.size) : Below B w w' := ⟨h.os, h.tape, h.output, h.size, fun k hk => h.block k (by omega) (hX k hk)⟩
def skM (M : Nat → Mb) (p : Nat) : Nat → Mb := fun i => if i < p then M i else M (i + 1)
theorem woL_at (l : List Int) (v : Int) : woL (atL l) v l.length = l.filter (fun x => decide (x ≠ v)) := by
  have h := woL_lz (mkM 0 false l) v
  rw [lz_mk] at h
  exact h
theorem skM_snoc {w : World} {e : TypeId} {lo hi q k p c : Nat} {A : Option Addr} {M : Nat → Mb} (hk : k ≠ p) (hq : q = if k ≤ p then k else k - 1) (h : RowOwn e w lo hi A (q + 1) c 3 (MbF (snocM (skM M p) q (M k)))) : RowOwn e w lo hi A (q + 1) c 3 (MbF (skM M p)) := by
  refine RowOwn.congr h (RowF_congr (by decide) fun i hi => ?_)
  unfold snocM
  by_cases e : i < q
  · rw [if_pos e]
  · rw [if_neg e]
    obtain rfl : i = q := by omega
    unfold skM
    by_cases e2 : k ≤ p
    · rw [if_pos e2] at hq
      subst hq
      rw [if_pos (by omega)]
    · rw [if_neg e2] at hq
      subst hq
      rw [if_neg (by omega), show k - 1 + 1 = k by omega]
/-- A hearing whose lists lie apart from V. -/
def Hgd (w : World) (b m : Nat) (T : Int → List Int) (V : Value) : Prop := ∃ (A : Int → Option Addr) (c : Int → Nat), Hrg w b m (fun v => ⟨A v, (T v).length, c v, atL (T v)⟩) ∧ ∀ v g, (Value.slice (A v) (T v).length (c v)).ownBlock = some g → V.ownBlock ≠ some g
theorem Hgd.hg {w : World} {b m : Nat} {T : Int → List Int} {V : Value} (h : Hgd w b m T V) : Hg w b m T := let ⟨A, c, h1, _⟩ := h; ⟨A, c, h1⟩
theorem Hgd.of_hg {w w' : World} {b m : Nat} {T : Int → List Int} {V : Value} (h : Hg w b m T) (hb : Below w.heap.size w w') (hV : ∀ g, V.ownBlock = some g → w.heap.size ≤ g) : Hgd w' b m T V :=
  let ⟨A, c, h1⟩ := h; ⟨A, c, h1.below hb, fun v g hg e => by have h2 := ((h1.2 v).1.lt g hg).2; have h3 := hV g e; omega⟩
theorem Hgd.below {w w' : World} {b m : Nat} {T : Int → List Int} {V : Value} (h : Hgd w b m T V) (hb : Below w.heap.size w w') : Hgd w' b m T V := let ⟨A, c, h1, h2⟩ := h; ⟨A, c, h1.below hb, h2⟩
theorem Hgd.mono {w : World} {b m m' : Nat} {T : Int → List Int} {V : Value} (h : Hgd w b m T V) (hm : m ≤ m') : Hgd w b m' T V := let ⟨A, c, ⟨h1, h2⟩, h3⟩ := h; ⟨A, c, ⟨h1.mono hm, h2⟩, h3⟩
theorem Hgd.grown {w w' : World} {b m : Nat} {T : Int → List Int} {V V' : Value} {o : Obj} (h : Hgd w b m T V) (hb : ∀ g, V.ownBlock = some g → g ≠ b) (hG : (w.alloc o).grownBy w' V.ownBlock) (hL : V'.ownBlock = V.ownBlock ∨ V'.ownBlock = some (w.alloc o).heap.size) : Hgd w' b m T V' := by
  obtain ⟨A, c, ⟨h1, h2⟩, hD⟩ := h
  have hs := hG.size
  simp at hs
  refine ⟨A, c, ⟨(h1.alloc o).only hG (fun e => hb _ e.symm rfl), fun v => ?_⟩, fun v g hg e => ?_⟩
  · exact (RowOwn.apartR (fun g hg e => hD v g e hg) (OwnI.alloc (h2 v) o) hG).wide (Nat.le_refl _) (by omega)
  · rcases hL with hl | hl
    · rw [hl] at e; exact hD v g hg e
    · rw [hl] at e; cases e; have h3 := ((h2 v).1.lt _ hg).2; simp at h3; omega
theorem Hgd.put {w w' : World} {b m : Nat} {T : Int → List Int} {id : Int} {L : List Int} {e : Ending} {A : Int → Option Addr} {c : Int → Nat} {V : Value} (h : Hrg w b m (fun v => ⟨A v, (T v).length, c v, atL (T v)⟩)) (hD : ∀ v g, (Value.slice (A v) (T v).length (c v)).ownBlock = some g → V.ownBlock ≠ some g) (hV : ∀ g, V.ownBlock = some g → g < w.heap.size) (hp : PutRet w b m (fun v => slV ⟨A v, (T v).length, c v, atL (T v)⟩) id L e w') :
    e = .returned (.tuple #[]) ∧ Hgd w' b (m + 1) (fun v => if v = id then L else T v) V ∧ Exc (fun g => g = b) w w' := by
  obtain ⟨B, cb, h1, h2, h3, h4⟩ := hp
  refine ⟨h1, ⟨fun v => if v = id then B else A v, fun v => if v = id then cb else c v, ⟨?_, fun v => ?_⟩, fun v g hg e => ?_⟩, h4⟩
  · rw [show (fun v => slV (⟨if v = id then B else A v, (if v = id then L else T v).length, if v = id then cb else c v, atL (if v = id then L else T v)⟩ : Sl)) = (fun x => if x = id then Value.slice B L.length cb else slV ⟨A x, (T x).length, c x, atL (T x)⟩) from funext fun v => by
      by_cases e : v = id
      · simp only [if_pos e]; rfl
      · simp only [if_neg e]]
    exact h2
  · by_cases e : v = id
    · simp only [if_pos e]
      exact h3.wide (by have := h.lt; omega) (Nat.le_refl _)
    · simp only [if_neg e]
      exact RowOwn.wide (RowOwn.exc (h.2 v) h4 (fun k hk e => by omega)) (Nat.le_refl _) h4.size
  · by_cases e2 : v = id
    · simp only [if_pos e2] at hg
      have h5 := (h3.1.lt g hg).1
      have h6 := hV g e
      omega
    · simp only [if_neg e2] at hg
      exact hD v g hg e
set_option maxRecDepth 100000 in
set_option maxHeartbeats 8000000 in
theorem ilv_no (w : World) (lo hi : Nat) (A : Option Addr) (n c : Nat) (M : Nat → Mb) (id : Int) (h : Room w lo hi A n M) (hi' : hi ≤ w.heap.size) (hn : n ≤ 1048576) (hb : ∀ i, i < n → (M i).p.n ≤ 1048576) (hno : ¬ leaveOk n (plain M) id) :
    Calls Try.prog 23 #[.slice A n c, .int .i64 id] w (RmNo w) := by
  have hv := fun W (hw : Below w.heap.size w W) => irv_any W lo hi A n c M (h.below hi' hw) (Nat.le_trans hi' hw.size) hn hb
  have hp := fun W (hw : Below w.heap.size w W) => placeOf_any W lo hi A n c id M (h.1.below hi' hw) (Nat.le_trans hi' hw.size) hn
  by_cases h1 : RmOk n (plain M)
  rotate_left
  · rw [show rmB n (plain M) = false from decide_eq_false h1] at hv
    have HV := Lib.hid hv
    clear hv hp h hno h1
    go_enter Try.func23, Try.ntmps23
    go_wp2_with fail
    refine (HV.out _ ?_).mono ?_
    focus (repeat (first | (with_reducible exact Below.refl _ _) | (with_reducible refine Bal ?_ _) | (with_reducible refine Below.drew ?_) | (with_reducible refine below_drewN ?_ _) | (with_reducible refine Bset ?_ ?_ _; focus (first | (with_reducible exact Nat.le_refl _) | (simp; done) | (simp; omega) | omega)) | (with_reducible refine Bt ?_ (by assumption)) | (with_reducible refine Bp (g := g) ?_ (by assumption) (by assumption))))
    rintro e w1 ⟨rfl, hb1⟩
    have hz1 := hb1.size
    go_wp2_with fail
    refine bodyPost_retE rfl ?_
    apply Exists.intro
    refine ⟨?_, ?_⟩
    · simp only [results, Try.results23]
      go_simp
      first | done | rfl
    go_light
    refine ⟨_, rfl, no_row (wx := w1) rfl hz1, ?_⟩
    repeat (first | (with_reducible exact Below.refl _ _) | (with_reducible refine Bal ?_ _) | (with_reducible refine Below.drew ?_) | (with_reducible refine below_drewN ?_ _) | (with_reducible refine Bset ?_ ?_ _; focus (first | (with_reducible exact Nat.le_refl _) | (simp; done) | (simp; omega) | omega)) | (with_reducible refine Bt ?_ (by assumption)) | (with_reducible refine Bp (g := g) ?_ (by assumption) (by assumption)))
  rw [show rmB n (plain M) = true from decide_eq_true h1] at hv
  have HV := Lib.hid hv
  have HP := Lib.hid hp
  clear hv hp h
  obtain ⟨pv, hpv⟩ : ∃ v, placeI n (plain M) id = v := ⟨_, rfl⟩
  have h3 : pv < 0 := by
    by_cases h3 : pv < 0
    · exact h3
    · exact absurd ⟨h1, by rw [hpv]; exact h3⟩ hno
  clear hno h1
  go_enter Try.func23, Try.ntmps23
  go_wp2_with fail
  refine (HV.out _ ?_).mono ?_
  focus (repeat (first | (with_reducible exact Below.refl _ _) | (with_reducible refine Bal ?_ _) | (with_reducible refine Below.drew ?_) | (with_reducible refine below_drewN ?_ _) | (with_reducible refine Bset ?_ ?_ _; focus (first | (with_reducible exact Nat.le_refl _) | (simp; done) | (simp; omega) | omega)) | (with_reducible refine Bt ?_ (by assumption)) | (with_reducible refine Bp (g := g) ?_ (by assumption) (by assumption))))
  rintro e w1 ⟨rfl, hb1⟩
  have hz1 := hb1.size
  have HB1 := Lib.hid (show Below w.heap.size w w1 by repeat (first | (with_reducible exact Below.refl _ _) | (with_reducible refine Bal ?_ _) | (with_reducible refine Below.drew ?_) | (with_reducible refine below_drewN ?_ _) | (with_reducible refine Bset ?_ ?_ _; focus (first | (with_reducible exact Nat.le_refl _) | (simp; done) | (simp; omega) | omega)) | (with_reducible refine Bt ?_ (by assumption)) | (with_reducible refine Bp (g := g) ?_ (by assumption) (by assumption))))
  go_wp2_with fail
  refine (HP.out _ HB1.out).mono ?_
  rintro e w2 ⟨rfl, hb2⟩
  rw [hpv]
  have hz2 := hb2.size
  go_wp2_with fail
  refine bodyPost_retE rfl ?_
  apply Exists.intro
  refine ⟨?_, ?_⟩
  · simp only [results, Try.results23]
    go_simp
    first | done | rfl
  go_light
  refine ⟨_, rfl, no_row (wx := w1) rfl (by omega), ?_⟩
  repeat (first | (with_reducible exact Below.refl _ _) | (with_reducible refine Bal ?_ _) | (with_reducible refine Below.drew ?_) | (with_reducible refine below_drewN ?_ _) | (with_reducible refine Bset ?_ ?_ _; focus (first | (with_reducible exact Nat.le_refl _) | (simp; done) | (simp; omega) | omega)) | (with_reducible refine Bt ?_ (by assumption)) | (with_reducible refine Bp (g := g) ?_ (by assumption) (by assumption)))
set_option maxRecDepth 100000 in
set_option maxHeartbeats 8000000 in
theorem ilv_ok (w : World) (lo hi : Nat) (A : Option Addr) (n c : Nat) (M : Nat → Mb) (id : Int) (p : Nat) (h : Room w lo hi A n M) (hi' : hi ≤ w.heap.size) (hn : n ≤ 1048576) (hb : ∀ i, i < n → (M i).p.n ≤ 1048576) (hok : leaveOk n (plain M) id) (hp : atR (plain M) id n = p) :
    Calls Try.prog 23 #[.slice A n c, .int .i64 id] w (RmGives (n - 1) (fun i => nm (delR (plain M) p id i)) true w) := by
  obtain ⟨i0, q1, q2, q3, q4⟩ := info_parts info_mb
  have hv := fun W (hw : Below w.heap.size w W) => irv_any W lo hi A n c M (h.below hi' hw) (Nat.le_trans hi' hw.size) hn hb
  have hpl := fun W (hw : Below w.heap.size w W) => placeOf_any W lo hi A n c id M (h.1.below hi' hw) (Nat.le_trans hi' hw.size) hn
  obtain ⟨h1, h3⟩ := hok
  rw [show rmB n (plain M) = true from decide_eq_true h1] at hv
  have hr := okM_iff.1 h1
  have hpn := atR_lt h3
  have hpi := atR_spec hpn
  rw [hp] at hpn hpi
  have hpi : (M p).p.id = id := hpi
  have hoth : ∀ i, i < n → i ≠ p → (M i).p.id ≠ id := fun i hi hne e => hne (hr.inj hi hpn (e.trans hpi.symm))
  have hdis : ∀ i j, i < n → j < n → i ≠ j → (M i).p.id ≠ (M j).p.id := fun i j hi hj hne e => hne (hr.inj hi hj e)
  have hn6 : n ≤ 6 := hr.six
  obtain ⟨pv, hpv⟩ : ∃ v, placeI n (plain M) id = v := ⟨_, rfl⟩
  rw [hpv] at h3
  have HV := Lib.hid hv
  have HP := Lib.hid hpl
  have H := Lib.hid h
  have HBD := Lib.hid hb
  have HOT := Lib.hid hoth
  have HDI := Lib.hid hdis
  have HR := Lib.hid hr
  have HWF := Lib.hid (fun i (hi : i < n) => wf_id (hr.rng i hi))
  have HPI := Lib.hid hpi
  clear hv hpl h h1 hb hoth hdis hr hp hpi
  go_enter Try.func23, Try.ntmps23
  go_wp2_with fail
  refine (HV.out _ ?_).mono ?_
  focus (repeat (first | (with_reducible exact Below.refl _ _) | (with_reducible refine Bal ?_ _) | (with_reducible refine Below.drew ?_) | (with_reducible refine below_drewN ?_ _) | (with_reducible refine Bset ?_ ?_ _; focus (first | (with_reducible exact Nat.le_refl _) | (simp; done) | (simp; omega) | omega)) | (with_reducible refine Bt ?_ (by assumption)) | (with_reducible refine Bp (g := g) ?_ (by assumption) (by assumption))))
  rintro e w1 ⟨rfl, hb1⟩
  have hz1 := hb1.size
  have HB1 := Lib.hid (show Below w.heap.size w w1 by repeat (first | (with_reducible exact Below.refl _ _) | (with_reducible refine Bal ?_ _) | (with_reducible refine Below.drew ?_) | (with_reducible refine below_drewN ?_ _) | (with_reducible refine Bset ?_ ?_ _; focus (first | (with_reducible exact Nat.le_refl _) | (simp; done) | (simp; omega) | omega)) | (with_reducible refine Bt ?_ (by assumption)) | (with_reducible refine Bp (g := g) ?_ (by assumption) (by assumption))))
  go_wp2_with fail
  refine (HP.out _ HB1.out).mono ?_
  rintro e w2 ⟨rfl, hb2⟩
  rw [hpv]
  have HB2 := Lib.hid (show Below w.heap.size w w2 by repeat (first | (with_reducible exact Below.refl _ _) | (with_reducible refine Bal ?_ _) | (with_reducible refine Below.drew ?_) | (with_reducible refine below_drewN ?_ _) | (with_reducible refine Bset ?_ ?_ _; focus (first | (with_reducible exact Nat.le_refl _) | (simp; done) | (simp; omega) | omega)) | (with_reducible refine Bt ?_ (by assumption)) | (with_reducible refine Bp (g := g) ?_ (by assumption) (by assumption))))
  have hz2 := HB2.out.size
  clear hb1 hb2 HB1 hz1
  go_wp2_with fail
  refine (inew_any w2 lo hi _ n c M (H.out.below hi' HB2.out) (by omega) hn HBD.out HWF.out).mono ?_
  rintro e w3 ⟨rfl, hT3, hb3⟩
  have HT3 := Lib.hid hT3
  have hz3 := hT3.lt
  have HB3 := Lib.hid (HB2.out.trans (hb3.mono hz2))
  clear hT3 hb3
  go_upto_region 5 with (at_make; refine wpList_make_own _ rfl _ _ _ rfl w3.heap.size 28 i0 _ 3 Try.underlying23 q1 q2 q3 .i64 .i64 _ (n - 1) rfl rfl (by omega) (by rw [q4]; omega) (by unfold maxLen; omega) (Nat.le_refl _) ?_; intro w4 hown4 hg4)
  have hb4 : Below w3.heap.size w3 w4 := (Below.refl _ _).grown hg4 (Nat.le_refl _) (by simp)
  have HO4 := Lib.hid (show RowOwn 28 w4 w3.heap.size w4.heap.size (some ⟨w3.heap.size, 0, none⟩) 0 (n - 1) 3 (MbF (skM M p)) from RowOwn.made hown4)
  have HS4 := Lib.hid hb4.size
  have HT4 := Lib.hid (Hgd.of_hg (V := .slice (some ⟨w3.heap.size, 0, none⟩) 0 (n - 1)) HT3.out hb4 (fun g hg => by cases hg; exact Nat.le_refl _))
  have HB4 := Lib.hid (HB3.out.trans (hb4.mono (by omega)))
  clear hown4 hg4 hb4 HT3
  go_wp2_with fail
  go_loopw [7, 28] (fun s i wr => ∃ (k q : Nat) (B : Option Addr) (cb : Nat) (T : Int → List Int), k ≤ n ∧ i = .int .i64 (k : Nat) ∧ s = .slice B q cb ∧ Hid (q = if k ≤ p then k else k - 1) ∧ Hid (RowOwn 28 wr w3.heap.size wr.heap.size B q cb 3 (MbF (skM M p))) ∧ Hid (Hgd wr w2.heap.size (n + k) T (.slice B q cb)) ∧ Hid (∀ i, i < n → i ≠ p → T (M i).p.id = if i < k then (lz (M i).p).filter (fun x => decide (x ≠ id)) else lz (M i).p) ∧ Hid (Below w.heap.size w wr) ∧ Hid (w3.heap.size ≤ wr.heap.size)) (fun _ i _ => n - (intOf i).toNat)
  case atStart => exact ⟨0, 0, _, n - 1, _, Nat.zero_le _, rfl, rfl, Lib.hid (by simp), HO4, HT4, Lib.hid (fun i hi _ => (HR.out.hL hi).trans (if_neg (by omega)).symm), HB4, HS4⟩
  case round =>
    obtain ⟨k, q, B, cb, T, hk, rfl, rfl, HQ, HO, HT, HTE, HB, HW3⟩ := hrel
    clear HO4 HT4 HB4 HS4
    have hws := HB.out.size
    have hbT := HT.out.hg.lt
    have hw3 := HW3.out
    by_cases hkn : k < n
    rotate_left
    · obtain rfl : k = n := by omega
      have eq : q = k - 1 := by have e := HQ.out; rw [if_neg (by omega)] at e; exact e
      clear HQ
      subst eq
      go_wp2_with fail
      refine (iroom_any wr w3.heap.size wr.heap.size w2.heap.size (k + k) T B (k - 1) cb (skM M p) HT.out.hg HO.out.row (Nat.le_refl _) (by omega) ?_ ?_).mono ?_
      · intro i hi
        unfold skM
        split
        · exact HWF.out i (by omega)
        · exact HWF.out (i + 1) (by omega)
      · intro i hi
        unfold skM
        split
        · rename_i e
          rw [HTE.out i (by omega) (by omega), if_pos (by omega)]
          have h1 := List.length_filter_le (fun x => decide (x ≠ id)) (lz (M i).p)
          have h2 := HBD.out i (by omega)
          rw [lz_len] at h1
          omega
        · rename_i e
          rw [HTE.out (i + 1) (by omega) (by omega), if_pos (by omega)]
          have h1 := List.length_filter_le (fun x => decide (x ≠ id)) (lz (M (i + 1)).p)
          have h2 := HBD.out (i + 1) (by omega)
          rw [lz_len] at h1
          omega
      rintro e w9 ⟨B9, cb9, M9, hO9, hP9, rfl, hb9⟩
      have HO9 := Lib.hid (hO9.wide (lo' := w.heap.size) hws)
      have HP9 := Lib.hid hP9
      have HB9 := Lib.hid (HB.out.trans (hb9.mono hws))
      clear hO9 hP9 hb9
      go_wp2_with fail
      refine bodyPost_retE rfl ?_
      apply Exists.intro
      refine ⟨?_, ?_⟩
      · simp only [results, Try.results23]
        go_simp
        first | done | rfl
      go_light
      refine ⟨B9, cb9, M9, HO9.out, fun i hi => (HP9.out i hi).trans ?_, rfl, HB9.out⟩
      show mkM (skM M p i).p.id (skM M p i).p.s (T (skM M p i).p.id) = nm (lessM (if i < p then (M i).p else (M (i + 1)).p) id)
      unfold skM
      by_cases e : i < p
      · simp only [if_pos e]
        rw [HTE.out i (by omega) (by omega), if_pos (by omega)]
        exact (nm_eq (m := lessM (M i).p id) rfl rfl (lz_less _ _)).symm
      · simp only [if_neg e]
        rw [HTE.out (i + 1) (by omega) (by omega), if_pos (by omega)]
        exact (nm_eq (m := lessM (M (i + 1)).p id) rfl rfl (lz_less _ _)).symm
    have HRW := Lib.hid (H.out.1.below hi' HB.out)
    obtain ⟨b, off, rfl, _, hb2, c0, c1, c2⟩ := Mb_at HRW.out hkn
    have hbw : b < wr.heap.size := by omega
    go_upto_region 8 with fail
    obtain ⟨wm, hwm⟩ : ∃ v, v = wr.alloc (.cells #[.int .i64 (M k).p.id, .bool (M k).p.s, .slice (M k).A (M k).p.n (M k).c] 28) := ⟨_, rfl⟩
    rw [← hwm]
    have hbm : Below wr.heap.size wr wm := by rw [hwm]; exact Ba _ _
    have hzm : wr.heap.size < wm.heap.size := by rw [hwm]; simp
    have g0 : wm.cell? ⟨wr.heap.size, 0, none⟩ = some (.int .i64 (M k).p.id) := by rw [hwm]; go_simp; try rfl
    have g1 : wm.cell? ⟨wr.heap.size, 1, none⟩ = some (.bool (M k).p.s) := by rw [hwm]; go_simp; try rfl
    have g2 : wm.cell? ⟨wr.heap.size, 2, none⟩ = some (.slice (M k).A (M k).p.n (M k).c) := by rw [hwm]; go_simp; try rfl
    clear hwm
    have HBm := Lib.hid (HB.out.trans (hbm.mono hws))
    have HOm := Lib.hid ((HO.out.below (Nat.le_refl _) hbm).wide (Nat.le_refl _) (by omega : wr.heap.size ≤ wm.heap.size))
    have HTm := Lib.hid (HT.out.below hbm)
    clear hbm HO HT HB HRW
    by_cases hkp : k = p
    · subst hkp
      have hid := HPI.out
      go_wp2_with fail
      go_roundw
      case rel =>
        refine ⟨k + 1, q, B, cb, T, by omega, by go_num, rfl, Lib.hid ?_, HOm, Lib.hid (HTm.out.mono (by omega)), Lib.hid (fun i hi hne => ?_), HBm, Lib.hid (by omega)⟩
        · have e := HQ.out
          rw [if_pos (by omega)] at e
          rw [if_neg (by omega)]; omega
        · rw [HTE.out i hi hne]
          by_cases e : i < k
          · rw [if_pos e, if_pos (by omega)]
          · rw [if_neg e, if_neg (by omega)]
      case measure => simp [intOf]; omega
    have hid := HOT.out k hkn hkp
    go_wp2_with fail
    obtain ⟨TA, Tc, hT, hTD⟩ := HTm.out
    refine (idrop_any wm (w2.heap.size + 1) wm.heap.size w2.heap.size (n + k) (fun v => slV ⟨TA v, (T v).length, Tc v, atL (T v)⟩) (TA (M k).p.id) (T (M k).p.id).length (Tc (M k).p.id) (M k).p.id id (atL (T (M k).p.id)) hT.1 (by omega) (HWF.out k hkn) rfl (hT.2 (M k).p.id).ints (Nat.le_refl _) ?_).mono ?_
    · rw [HTE.out k hkn hkp, if_neg (by omega), lz_len]; exact HBD.out k hkn
    rintro e w5 hp5
    obtain ⟨rfl, hT5, hE5⟩ := Hgd.put hT hTD (fun g hg => (HOm.out.1.lt g hg).2) hp5
    have HT5 := Lib.hid hT5
    have hz5 := hE5.size
    have hmb : ¬ wr.heap.size = w2.heap.size := by omega
    have g0 : w5.cell? ⟨wr.heap.size, 0, none⟩ = some (.int .i64 (M k).p.id) := (hE5.cell hzm hmb).trans g0
    have g1 : w5.cell? ⟨wr.heap.size, 1, none⟩ = some (.bool (M k).p.s) := (hE5.cell hzm hmb).trans g1
    have g2 : w5.cell? ⟨wr.heap.size, 2, none⟩ = some (.slice (M k).A (M k).p.n (M k).c) := (hE5.cell hzm hmb).trans g2
    have HO5 := Lib.hid ((HOm.out.exc hE5 (fun g hg e => by omega)).wide (Nat.le_refl _) hz5)
    have HB5 := Lib.hid (HBm.out.trans (hE5.toBelow (B := w.heap.size) (fun g hg e => by omega) (by omega)))
    clear hp5 hT5 hE5 hT hTD HTm HOm HBm
    have hq6 : q ≤ 6 := by have e := HQ.out; split at e <;> omega
    have hlo : w3.heap.size ≤ w5.heap.size := by omega
    go_upto_region 11 with (at_builtin; go_loud (refine wpList_rowAppendN _ rfl (.tmp 41) (.tmp 43) _ rfl 28 i0 _ 3 40 Try.underlying23 q1 q2 q3 q4 rfl (by decide) w3.heap.size _ B q cb _ rfl (RowOwn.alloc HO5.out _) _ _ _ 1 1 _ rfl (mb_at _ w5.heap.size _ _ _ _ rfl) (q + 1) rfl ?_ (by unfold maxLen; omega) (by omega) (by simp; omega) ?_); (focus (intro i hi; rcases (by omega : i = 0 ∨ i = 1 ∨ i = 2) with rfl | rfl | rfl <;> rfl)); intro B6 cb6 w6 hO6 hG6 hL6)
    have hz6 := hG6.size
    simp at hz6
    have hb6 : Below w3.heap.size w5 w6 := ((Below.refl _ _).alloc (by omega) _).grown hG6 (by simp; omega) (fun g hg => (HO5.out.1.lt g hg).1)
    have HO6 := Lib.hid (skM_snoc hkp HQ.out (snoc_mb (x := M k) hO6 (fun j hj => by rcases (by omega : j = 0 ∨ j = 1 ∨ j = 2) with rfl | rfl | rfl <;> rfl)))
    have HT6 := Lib.hid (HT5.out.grown (fun g hg e => by have := (HO5.out.1.lt g hg).1; omega) hG6 hL6)
    have HB6 := Lib.hid (HB5.out.trans (hb6.mono (by omega)))
    clear hO6 hG6 hL6 hb6 HO5 HT5 HB5
    go_wp2_with fail
    go_roundw
    case rel =>
      refine ⟨k + 1, q + 1, B6, cb6, _, by omega, by go_num, rfl, Lib.hid ?_, HO6, HT6, Lib.hid (fun i hi hne => ?_), HB6, Lib.hid (by omega)⟩
      · have e := HQ.out
        by_cases e2 : k ≤ p
        · rw [if_pos e2] at e; rw [if_pos (by omega)]; omega
        · rw [if_neg e2] at e; rw [if_neg (by omega)]; omega
      · by_cases e : i = k
        · subst e
          rw [if_pos rfl, if_pos (by omega), HTE.out i hi hne, if_neg (by omega), woL_at]
        · rw [if_neg (HDI.out i k hi hkn e), HTE.out i hi hne]
          by_cases e2 : i < k
          · rw [if_pos e2, if_pos (by omega)]
          · rw [if_neg e2, if_neg (by omega)]
    case measure => simp [intOf]; omega
end Go.Proofs.Ytelcclhaepfmgaa
