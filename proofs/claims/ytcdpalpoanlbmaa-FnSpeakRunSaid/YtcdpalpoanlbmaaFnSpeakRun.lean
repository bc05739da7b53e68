/- The law FnSpeakRun of the program is true at every input: the call returns true, and each argument reads behind the call as before. Conditions: none. -/
import Derived.Test.YtcdpalpoanlbmaaSd
import Derived.Test.YtcdpalpoanlbmaaSn
import Derived.Test.YtcdpalpoanlbmaaSo
import Derived.WalkKit
import Derived.ProofKit
import Derived.OpenShut
import Derived.ShutString
import Derived.ChangeOld
import Derived.Below
import Derived.IntWalk
import Derived.Deep.DeepCutAuto
namespace Go.Proofs.Ytcdpalpoanlbmaa
open Go.RowKit
set_option linter.unusedVariables false
set_option linter.unusedSimpArgs false

theorem bel_box {W w1 : World} (hb : Below W.heap.size W w1) (b : Nat) (h1 : b < W.heap.size) {f : Nat → Option Value} (hf : ∀ o : Nat, W.cell? ⟨b, o, none⟩ = f o) (hz : ∀ o : Nat, W.frozen? ⟨b, o, none⟩ = false) : (∀ o : Nat, w1.cell? ⟨b, o, none⟩ = f o) ∧ ∀ o : Nat, w1.frozen? ⟨b, o, none⟩ = false :=
  ⟨fun o => (hb.cell (p := ⟨b, o, none⟩) h1).trans (hf o), fun o => (hb.frozen (p := ⟨b, o, none⟩) h1).trans (hz o)⟩
theorem below_cells {B : Nat} {W w1 : World} (hb : Below B W w1) : (∀ b o, b < B → w1.cell? ⟨b, o, none⟩ = W.cell? ⟨b, o, none⟩) ∧ (∀ b o, b < B → w1.frozen? ⟨b, o, none⟩ = W.frozen? ⟨b, o, none⟩) :=
  ⟨fun b o h => hb.cell (p := ⟨b, o, none⟩) h, fun b o h => hb.frozen (p := ⟨b, o, none⟩) h⟩
theorem It_at {w : World} {lo hi : Nat} {A : Option Addr} {n : Nat} {z : Nat → Int} (h : Ints w lo hi A n z) {k : Nat} (hk : k < n) :
    ∃ b off, A = some ⟨b, off, none⟩ ∧ b < hi ∧ w.cell? ⟨b, off + k, none⟩ = some (.int .i64 (z k)) := by
  obtain ⟨b, off, h1, h2⟩ := h
  obtain ⟨e, h3, h4⟩ := h1 (by omega)
  exact ⟨b, off, e, h4, h2 k (by omega)⟩
theorem run_step {m : Nat} {S : Nat → Sr} (hok : RunOk m S) {k : Nat} (hk : k < m) : ∃ ta tb td v xv wv, runT S k = (ta, tb, td) ∧ runT S (k + 1) = (v, xv, wv) ∧ ∀ (W : World) (lo hi : Nat) (A : Option Addr) (c : Nat), Ints W lo hi A (S k).n (S k).z → hi ≤ W.heap.size → (S k).n ≤ 1048576 →
    Calls Try.prog 9 #[.agg #[.int .i64 ta, .int .i64 tb, .int .i64 td], .slice A (S k).n c] W fun e w' => e = .returned (.tuple #[.agg #[.int .i64 v, .int .i64 xv, .int .i64 wv], .bool true]) ∧ Below W.heap.size W w' := by
  obtain ⟨ta, tb, td, ht⟩ : ∃ a b d, runT S k = (a, b, d) := ⟨_, _, _, rfl⟩
  have hstep := runT_ok hok k hk
  rw [ht] at hstep
  obtain ⟨e1, e2, e3, e4⟩ := sp_yes hstep
  refine ⟨ta, tb, td, stN ta tb td (S k).n (S k).z, stX ta tb td (S k).n (S k).z, stW ta tb td (S k).n (S k).z, ht, ?_, fun W lo hi A c h hh hn => ?_⟩
  · show (let t := runT S k; (stN t.1 t.2.1 t.2.2 (S k).n (S k).z, stX t.1 t.2.1 t.2.2 (S k).n (S k).z, stW t.1 t.2.1 t.2.2 (S k).n (S k).z)) = _
    rw [ht]
  · have h1 := istp_any ta tb td W (c := c) h hh hn
    rw [e1, e2, e3, e4] at h1
    exact h1
theorem run_said {m : Nat} {S : Nat → Sr} : (runR m S).length = 0 ∨ (RunOk m S ∧ (runR m S).length = m ∧ ∀ k, k < m → atLS (runR m S) k = (runT S (k + 1)).1) := by
  unfold runR
  split
  · rename_i h
    exact .inr ⟨h, runL_len S m, fun k hk => runL_at hk⟩
  · exact .inl rfl
set_option maxRecDepth 100000 in
set_option maxHeartbeats 16000000 in
theorem walk_FnSpeakRun (A : Option Addr) (n c : Nat) (w : World) (h : IsInts .u8 w A n c) :
    Calls Try.prog 3 #[.slice A n c] w fun e w' => e = .returned (.bool true) ∧ Below w.heap.size w w' := by
  have H := Lib.hid h
  clear h
  by_cases hn0 : 1048576 < n
  · go_enter Try.func3, Try.ntmps3
    go_wp2_with fail
    go_ret
    exact ⟨rfl, Below.refl _ _⟩
  have hn : n ≤ 1048576 := by omega
  clear hn0
  go_enter Try.func3, Try.ntmps3
  go_wp2_with fail
  refine (draw_srun w A n c H.out hn).mono ?_
  rintro e w1 ⟨B1, cb1, m, S, hM, hm, hS4, rfl, hb1⟩
  have HM := Lib.hid (hM.wide (Nat.zero_le _) (Nat.le_refl _))
  have hz1 := hb1.size
  have hi := fun (W : World) (hW : Below w1.heap.size w1 W) => irun_any W 0 w1.heap.size B1 m cb1 S (HM.out.below (Nat.le_refl _) hW) hW.size (by omega) (fun i hi => by have := hS4 i hi; omega)
  have hs := fun (W : World) (hW : Below w1.heap.size w1 W) => srun_any W 0 w1.heap.size B1 m cb1 S (HM.out.below (Nat.le_refl _) hW) hW.size (by omega) (fun i hi => by have := hS4 i hi; omega)
  have hrl : (runR m S).length ≤ 20 := runR_len
  have hsd := @run_said m S
  generalize runR m S = l at hi hs hrl hsd
  generalize l.length = q at hi hs hrl hsd
  have HI := Lib.hid hi
  have HS := Lib.hid hs
  have H4 := Lib.hid hS4
  have HD := Lib.hid hsd
  have HB1 := Lib.hid hb1
  clear hi hs hS4 hsd hM hb1 H
  go_wp2_with fail
  refine (HI.out w1 (Below.refl _ _)).mono ?_
  rintro e w2 ⟨B2, c2, hO2, rfl, hb2⟩
  have HO2 := Lib.hid hO2
  have HB2 := Lib.hid hb2
  have hz2 := hb2.size
  clear hO2 hb2 HI
  go_wp2_with fail
  refine (HS.out w2 HB2.out).mono ?_
  rintro e w3 ⟨B3, c3, hO3, rfl, hb3⟩
  have HO3 := Lib.hid hO3
  have HB3 := Lib.hid hb3
  have hz3 := hb3.size
  have HX3 := Lib.hid (HO2.out.ints.below (Nat.le_refl _) hb3)
  have HM3 := Lib.hid ((HM.out.below (B := w1.heap.size) (Nat.le_refl _) (HB2.out.trans (hb3.mono hz2))).wide (Nat.le_refl _) (show w1.heap.size ≤ w3.heap.size by omega))
  have HW3 := Lib.hid (HB1.out.trans ((HB2.out.mono hz1).trans (hb3.mono (by omega))))
  clear hO3 hb3 HS HO2 HB2 HB1 HB3 HM
  go_wp2_with fail
  refine (sameInts_same w3 HX3.out HO3.out.ints hz3 (Nat.le_refl _) (by omega)).mono ?_
  rintro e w4 ⟨rfl, hb4⟩
  have HX4 := Lib.hid (HX3.out.below hz3 hb4)
  have HO4 := Lib.hid (HO3.out.ints.below (Nat.le_refl _) hb4)
  have HM4 := Lib.hid ((HM3.out.below (Nat.le_refl _) hb4).wide (Nat.le_refl _) hb4.size)
  have HW4 := Lib.hid (HW3.out.trans (hb4.mono (by have := HW3.out.size; omega)))
  have hz4 := hb4.size
  clear hb4 HX3 HO3 HM3 HW3
  by_cases hq : q = 0
  · subst hq
    go_wp2_with fail
    refine (sameInts_same w4 HX4.out HO4.out (by omega) hz4 (by omega)).mono ?_
    rintro e w5 ⟨rfl, hb5⟩
    go_wp2_with fail
    go_ret
    go_light
    exact ⟨rfl, HW4.out.trans (hb5.mono (by have := HW4.out.size; omega))⟩
  have hqb : ((q : Int) == 0) = false := by simpa using hq
  obtain ⟨hok, rfl, hat⟩ : RunOk m S ∧ q = m ∧ ∀ k, k < m → atLS l k = (runT S (k + 1)).1 := HD.out.resolve_left hq
  have HK := Lib.hid hok
  have HA := Lib.hid hat
  clear hok hat HD HO4
  go_upto_region 9 with fail
  obtain ⟨w5, hw5⟩ : ∃ v, v = w4.alloc (.cells #[.int .i64 (-1), .int .i64 (-1), .int .i64 0] 29) := ⟨_, rfl⟩
  rw [← hw5]
  have HP5 := Lib.hid (show SpAt w5 w4.heap.size (runT S 0) by
    rw [hw5]
    refine ⟨?_, ?_, ?_, fun j => ?_, by simp⟩
    · go_simp; try rfl
    · go_simp; try rfl
    · go_simp; try rfl
    · go_simp; try rfl)
  have hb5 : Below w4.heap.size w4 w5 := by rw [hw5]; exact Ba _ _
  have HB5 := Lib.hid hb5
  clear hw5 hb5 hqb
  go_wp2_with fail
  go_loopw [7] (fun i wr => ∃ (k : Nat), k ≤ q ∧ i = .int .i64 (k : Nat) ∧ Hid (SpAt wr w4.heap.size (runT S k)) ∧ Hid (Below w4.heap.size w4 wr)) (fun i _ => q - (intOf i).toNat)
  case atStart => exact ⟨0, Nat.zero_le _, rfl, HP5, HB5⟩
  clear HP5 HB5
  case round =>
    obtain ⟨k, hk, rfl, HP, HB⟩ := hrel
    by_cases hkq : k < q
    rotate_left
    · obtain rfl : k = q := by omega
      go_wp2_with fail
      go_ret
      go_light
      exact ⟨rfl, HW4.out.trans (HB.out.mono (by have := HW4.out.size; omega))⟩
    obtain ⟨ta, tb, td, v, xv, wv, ht, ht1, hst⟩ := run_step HK.out hkq
    have hav := HA.out k hkq
    rw [ht1] at hav
    have hav : atLS l k = v := hav
    have hsp := HP.out
    rw [ht] at hsp
    have HSP := Lib.hid hsp
    obtain ⟨d0, d1, d2, -, dl⟩ := hsp
    have d0 : wr.cell? ⟨w4.heap.size, 0, none⟩ = some (.int .i64 ta) := d0
    have d1 : wr.cell? ⟨w4.heap.size, 1, none⟩ = some (.int .i64 tb) := d1
    have d2 : wr.cell? ⟨w4.heap.size, 2, none⟩ = some (.int .i64 td) := d2
    have HT1 := Lib.hid ht1
    have HRr := Lib.hid (HM4.out.below (Nat.le_refl _) HB.out)
    obtain ⟨b, off, rfl, -, hbl, ck⟩ := Sr_at HRr.out.1 hkq
    obtain ⟨bo, offo, rfl, hbo, co⟩ := It_at (HX4.out.below (by omega) HB.out) hkq
    rw [hav] at co
    have hbw : b < wr.heap.size := by omega
    have hbow : bo < wr.heap.size := by omega
    have HSS := Lib.hid (fun (W : World) (hW : Below wr.heap.size wr W) => hst W 0 w4.heap.size (S k).A (S k).c ((HRr.out.2 k hkq).below (by omega) hW) (by have := hW.size; omega) (by have := H4.out k hkq; omega))
    clear hst ht ht1 hav HP
    go_upto_region 12 with fail
    go_cut [8, 9] (fun s8 s9 wx => ∃ (b8 : Nat), s8 = .pointer (some ⟨b8, 0, none⟩) ∧ s9 = .bool true ∧ Hid (SpAt wx b8 (v, xv, wv)) ∧ Hid (Below wr.heap.size wr wx) ∧ wr.heap.size ≤ b8)
    case first =>
      have hgd : ∀ W : World, W.drew.heap.size = W.heap.size := fun _ => rfl
      refine wp_region_anyR (R := fun a b => Below (wr.heap.size) a b) (by kernel_rfl) (fun w => Below.refl _ _) (fun _ _ _ h k => Below.trans h k) (by kernel_rfl) ?_
      simp only [List.size_toArray, List.length_cons, List.length_nil, Nat.zero_add, Nat.reduceAdd]
      refine any_read 0 (by decide +kernel) rfl rfl rfl ?_; apply Exists.intro; refine ⟨fun w' hb' => ?_, ?_⟩; (focus (obtain ⟨hc', hf'⟩ := below_cells hb'; clear hb'; go_simp; try exact rfl)); have e0 : True := trivial; clear e0; refine any_putK ?_; intro K hK; go_simp; refine hK _ ?_; clear hK K
      refine any_pure 1 (by decide +kernel) rfl rfl ?_; apply Exists.intro; refine ⟨fun w' => ?_, ?_⟩; (focus (first | (fail) | (go_simp; try exact rfl))); have e0 : True := trivial; clear e0; refine any_putK ?_; intro K hK; go_simp; refine hK _ ?_; clear hK K
      refine any_pure 2 (by decide +kernel) rfl rfl ?_; apply Exists.intro; refine ⟨fun w' => ?_, ?_⟩; (focus (first | (fail) | (go_simp; try exact rfl))); have e0 : True := trivial; clear e0; refine any_putK ?_; intro K hK; go_simp; refine hK _ ?_; clear hK K
      refine any_pure 3 (by decide +kernel) rfl rfl ?_; apply Exists.intro; refine ⟨fun w' => ?_, ?_⟩; (focus (first | (fail) | (go_simp; try exact rfl))); have e0 : True := trivial; clear e0; refine any_putK ?_; intro K hK; go_simp; refine hK _ ?_; clear hK K
      refine any_read 4 (by decide +kernel) rfl rfl rfl ?_; apply Exists.intro; refine ⟨fun w' hb' => ?_, ?_⟩; (focus (obtain ⟨hc', hf'⟩ := below_cells hb'; clear hb'; go_simp; try exact rfl)); have e0 : True := trivial; clear e0; refine any_putK ?_; intro K hK; go_simp; refine hK _ ?_; clear hK K
      refine any_branch (by decide +kernel) ?_
      simp only [List.size_toArray, List.length_cons, List.length_nil, Nat.zero_add, Nat.reduceAdd]
      repeat' (first | exact lt_zero | refine lt_succ ?_ ?_ | exact any_none (by decide +kernel) | fail)
      · refine any_one rfl rfl rfl ?_
        go_wp2_with (fail)
        refine then_any rfl ?_ ?_; focus (first | (intro h; have h2 : false = true := h; cases h2) | (intro _; show Below _ _ _; first | (with_reducible assumption) | (first | exact Below.mono (by with_reducible assumption) (by first | exact Nat.le_refl _ | (simp [World.setCell]; done) | (simp [World.setCell]; omega) | omega) | (repeat (first | (with_reducible exact Below.refl _ _) | (with_reducible exact below_undrew _ _) | (with_reducible refine Below.drew ?_) | (with_reducible refine Below.alloc ?_ (by first | exact Nat.le_refl _ | (simp [World.setCell]; done) | (simp [World.setCell]; omega) | omega) _))))))
        refine any_branch (by decide +kernel) ?_
        simp only [List.size_toArray, List.length_cons, List.length_nil, Nat.zero_add, Nat.reduceAdd]
        repeat' (first | exact lt_zero | refine lt_succ ?_ ?_ | exact any_none (by decide +kernel) | fail)
        · refine any_one rfl rfl rfl ?_
          go_wp2_with ((go_at_call 9; refine (HSS.out _ (by repeat (first | (with_reducible exact Below.refl _ _) | (with_reducible refine Bal ?_ _) | (with_reducible refine Below.drew ?_) | (with_reducible refine below_drewN ?_ _) | (with_reducible refine Bset ?_ ?_ _; focus (first | (with_reducible exact Nat.le_refl _) | (simp; done) | (simp; omega) | omega)) | (with_reducible refine Bt ?_ (by assumption)) | (with_reducible refine Bp (g := g) ?_ (by assumption) (by assumption))))).mono ?_; rintro e wp1 ⟨rfl, hbp1⟩; have hzp1 := hbp1.size; (try simp at hzp1); (first | (have g0_1 := (bel_box (W := World.alloc _ _) hbp1 (wr.heap.size) (by simp) (f := fun o => ([.int .i64 0, .int .i64 0, .int .i64 0] : List Value)[o]?) (fun o => by simp [go_sem]) (fun o => by simp [go_sem])); obtain ⟨g0_1, f0_1⟩ := g0_1; have s0_1 : wr.heap.size < wp1.heap.size := (by have := hbp1.size; simp at this; omega)) | (have g0_1 := (bel_box (W := World.drew (World.alloc _ _)) hbp1 (wr.heap.size) (by simp) (f := fun o => ([.int .i64 0, .int .i64 0, .int .i64 0] : List Value)[o]?) (fun o => by simp [go_sem]) (fun o => by simp [go_sem])); obtain ⟨g0_1, f0_1⟩ := g0_1; have s0_1 : wr.heap.size < wp1.heap.size := (by have := hbp1.size; simp at this; omega)) | (have g0_1 := (bel_box (W := World.alloc (World.drew _) _) hbp1 (wr.heap.size) (by simp) (f := fun o => ([.int .i64 0, .int .i64 0, .int .i64 0] : List Value)[o]?) (fun o => by simp [go_sem]) (fun o => by simp [go_sem])); obtain ⟨g0_1, f0_1⟩ := g0_1; have s0_1 : wr.heap.size < wp1.heap.size := (by have := hbp1.size; simp at this; omega)) | skip)))
          refine then_any rfl ?_ ?_; focus (first | (intro h; have h2 : false = true := h; cases h2) | (intro _; show Below _ _ _; first | (with_reducible assumption) | (first | exact Below.mono (by with_reducible assumption) (by first | exact Nat.le_refl _ | (simp [World.setCell]; done) | (simp [World.setCell]; omega) | omega) | (repeat (first | (with_reducible exact Below.refl _ _) | (with_reducible exact below_undrew _ _) | (with_reducible refine Below.drew ?_) | (with_reducible refine Below.alloc ?_ (by first | exact Nat.le_refl _ | (simp [World.setCell]; done) | (simp [World.setCell]; omega) | omega) _))))))
          refine any_pure 6 (by decide +kernel) rfl rfl ?_; apply Exists.intro; refine ⟨fun w' => ?_, ?_⟩; (focus (first | (fail) | (go_simp; try exact rfl))); have e0 : True := trivial; clear e0; refine any_putK ?_; intro K hK; go_simp; refine hK _ ?_; clear hK K
          refine any_pure 7 (by decide +kernel) rfl rfl ?_; apply Exists.intro; refine ⟨fun w' => ?_, ?_⟩; (focus (first | (fail) | (go_simp; try exact rfl))); have e0 : True := trivial; clear e0; refine any_putK ?_; intro K hK; go_simp; refine hK _ ?_; clear hK K
          refine any_pure 8 (by decide +kernel) rfl rfl ?_; apply Exists.intro; refine ⟨fun w' => ?_, ?_⟩; (focus (first | (fail) | (go_simp; try exact rfl))); have e0 : True := trivial; clear e0; refine any_putK ?_; intro K hK; go_simp; refine hK _ ?_; clear hK K
          refine any_branch (by decide +kernel) ?_
          simp only [List.size_toArray, List.length_cons, List.length_nil, Nat.zero_add, Nat.reduceAdd]
          repeat' (first | exact lt_zero | refine lt_succ ?_ ?_ | exact any_none (by decide +kernel) | fail)
          · refine any_one rfl rfl rfl ?_
            go_wp2_with (fail)
            refine then_any rfl ?_ ?_; focus (first | (intro h; have h2 : false = true := h; cases h2) | (intro _; show Below _ _ _; first | (with_reducible assumption) | (first | exact Below.mono (by with_reducible assumption) (by first | exact Nat.le_refl _ | (simp [World.setCell]; done) | (simp [World.setCell]; omega) | omega) | (repeat (first | (with_reducible exact Below.refl _ _) | (with_reducible exact below_undrew _ _) | (with_reducible refine Below.drew ?_) | (with_reducible refine Below.alloc ?_ (by first | exact Nat.le_refl _ | (simp [World.setCell]; done) | (simp [World.setCell]; omega) | omega) _))))))
            refine any_pure 11 (by decide +kernel) rfl rfl ?_; apply Exists.intro; refine ⟨fun w' => ?_, ?_⟩; (focus (first | (fail) | (go_simp; try exact rfl))); have e0 : True := trivial; clear e0; refine any_putK ?_; intro K hK; go_simp; refine hK _ ?_; clear hK K
            refine any_end (by decide +kernel) ?_
            go_wp2_with fail
            go_meet
            refine ⟨_, rfl, rfl, Lib.hid ?_, Lib.hid ?_, ?_⟩
            · refine ⟨?_, ?_, ?_, fun j => ?_, ?_⟩
              · go_simp
              · go_simp
              · go_simp
              · go_simp
              · exact (by first | exact Nat.le_refl _ | (simp [World.setCell]; done) | (simp [World.setCell]; omega) | omega)
            · have hl2 : Below wr.heap.size wr wp1 := Below.trans (show Below wr.heap.size wr _ by repeat (first | (with_reducible exact Below.refl _ _) | (with_reducible refine Bal ?_ _) | (with_reducible refine Below.drew ?_) | (with_reducible refine below_drewN ?_ _) | (with_reducible refine Bset ?_ ?_ _; focus (first | (with_reducible exact Nat.le_refl _) | (simp; done) | (simp; omega) | omega)) | (with_reducible refine Bt ?_ (by assumption)) | (with_reducible refine Bp (g := g) ?_ (by assumption) (by assumption)))) (hbp1.mono (by first | exact Nat.le_refl _ | (simp [World.setCell]; done) | (simp [World.setCell]; omega) | omega))
              repeat (first | (with_reducible exact hl2) | (with_reducible refine Bal ?_ _) | (with_reducible refine Below.drew ?_) | (with_reducible refine Bset ?_ ?_ _; focus (first | (with_reducible exact Nat.le_refl _) | (simp; done) | (simp; omega) | omega)))
            · exact (by first | exact Nat.le_refl _ | (simp [World.setCell]; done) | (simp [World.setCell]; omega) | omega)
      · refine any_one rfl rfl rfl ?_
        go_wp2_with ((go_at_call 9; refine (HSS.out _ (by repeat (first | (with_reducible exact Below.refl _ _) | (with_reducible refine Bal ?_ _) | (with_reducible refine Below.drew ?_) | (with_reducible refine below_drewN ?_ _) | (with_reducible refine Bset ?_ ?_ _; focus (first | (with_reducible exact Nat.le_refl _) | (simp; done) | (simp; omega) | omega)) | (with_reducible refine Bt ?_ (by assumption)) | (with_reducible refine Bp (g := g) ?_ (by assumption) (by assumption))))).mono ?_; rintro e wp1 ⟨rfl, hbp1⟩; have hzp1 := hbp1.size; (try simp at hzp1); (first | (have g0_1 := (bel_box (W := World.alloc _ _) hbp1 (wr.heap.size) (by simp) (f := fun o => ([.int .i64 0, .int .i64 0, .int .i64 0] : List Value)[o]?) (fun o => by simp [go_sem]) (fun o => by simp [go_sem])); obtain ⟨g0_1, f0_1⟩ := g0_1; have s0_1 : wr.heap.size < wp1.heap.size := (by have := hbp1.size; simp at this; omega)) | (have g0_1 := (bel_box (W := World.drew (World.alloc _ _)) hbp1 (wr.heap.size) (by simp) (f := fun o => ([.int .i64 0, .int .i64 0, .int .i64 0] : List Value)[o]?) (fun o => by simp [go_sem]) (fun o => by simp [go_sem])); obtain ⟨g0_1, f0_1⟩ := g0_1; have s0_1 : wr.heap.size < wp1.heap.size := (by have := hbp1.size; simp at this; omega)) | (have g0_1 := (bel_box (W := World.alloc (World.drew _) _) hbp1 (wr.heap.size) (by simp) (f := fun o => ([.int .i64 0, .int .i64 0, .int .i64 0] : List Value)[o]?) (fun o => by simp [go_sem]) (fun o => by simp [go_sem])); obtain ⟨g0_1, f0_1⟩ := g0_1; have s0_1 : wr.heap.size < wp1.heap.size := (by have := hbp1.size; simp at this; omega)) | skip)))
        refine then_any rfl ?_ ?_; focus (first | (intro h; have h2 : false = true := h; cases h2) | (intro _; show Below _ _ _; first | (with_reducible assumption) | (first | exact Below.mono (by with_reducible assumption) (by first | exact Nat.le_refl _ | (simp [World.setCell]; done) | (simp [World.setCell]; omega) | omega) | (repeat (first | (with_reducible exact Below.refl _ _) | (with_reducible exact below_undrew _ _) | (with_reducible refine Below.drew ?_) | (with_reducible refine Below.alloc ?_ (by first | exact Nat.le_refl _ | (simp [World.setCell]; done) | (simp [World.setCell]; omega) | omega) _))))))
        refine any_pure 6 (by decide +kernel) rfl rfl ?_; apply Exists.intro; refine ⟨fun w' => ?_, ?_⟩; (focus (first | (fail) | (go_simp; try exact rfl))); have e0 : True := trivial; clear e0; refine any_putK ?_; intro K hK; go_simp; refine hK _ ?_; clear hK K
        refine any_pure 7 (by decide +kernel) rfl rfl ?_; apply Exists.intro; refine ⟨fun w' => ?_, ?_⟩; (focus (first | (fail) | (go_simp; try exact rfl))); have e0 : True := trivial; clear e0; refine any_putK ?_; intro K hK; go_simp; refine hK _ ?_; clear hK K
        refine any_pure 8 (by decide +kernel) rfl rfl ?_; apply Exists.intro; refine ⟨fun w' => ?_, ?_⟩; (focus (first | (fail) | (go_simp; try exact rfl))); have e0 : True := trivial; clear e0; refine any_putK ?_; intro K hK; go_simp; refine hK _ ?_; clear hK K
        refine any_branch (by decide +kernel) ?_
        simp only [List.size_toArray, List.length_cons, List.length_nil, Nat.zero_add, Nat.reduceAdd]
        repeat' (first | exact lt_zero | refine lt_succ ?_ ?_ | exact any_none (by decide +kernel) | fail)
        · refine any_one rfl rfl rfl ?_
          go_wp2_with (fail)
          refine then_any rfl ?_ ?_; focus (first | (intro h; have h2 : false = true := h; cases h2) | (intro _; show Below _ _ _; first | (with_reducible assumption) | (first | exact Below.mono (by with_reducible assumption) (by first | exact Nat.le_refl _ | (simp [World.setCell]; done) | (simp [World.setCell]; omega) | omega) | (repeat (first | (with_reducible exact Below.refl _ _) | (with_reducible exact below_undrew _ _) | (with_reducible refine Below.drew ?_) | (with_reducible refine Below.alloc ?_ (by first | exact Nat.le_refl _ | (simp [World.setCell]; done) | (simp [World.setCell]; omega) | omega) _))))))
          refine any_branch (by decide +kernel) ?_
          simp only [List.size_toArray, List.length_cons, List.length_nil, Nat.zero_add, Nat.reduceAdd]
          repeat' (first | exact lt_zero | refine lt_succ ?_ ?_ | exact any_none (by decide +kernel) | fail)
          · refine any_one rfl rfl rfl ?_
            go_wp2_with (fail)
            refine then_any rfl ?_ ?_; focus (first | (intro h; have h2 : false = true := h; cases h2) | (intro _; show Below _ _ _; first | (with_reducible assumption) | (first | exact Below.mono (by with_reducible assumption) (by first | exact Nat.le_refl _ | (simp [World.setCell]; done) | (simp [World.setCell]; omega) | omega) | (repeat (first | (with_reducible exact Below.refl _ _) | (with_reducible exact below_undrew _ _) | (with_reducible refine Below.drew ?_) | (with_reducible refine Below.alloc ?_ (by first | exact Nat.le_refl _ | (simp [World.setCell]; done) | (simp [World.setCell]; omega) | omega) _))))))
            refine any_pure 11 (by decide +kernel) rfl rfl ?_; apply Exists.intro; refine ⟨fun w' => ?_, ?_⟩; (focus (first | (fail) | (go_simp; try exact rfl))); have e0 : True := trivial; clear e0; refine any_putK ?_; intro K hK; go_simp; refine hK _ ?_; clear hK K
            refine any_end (by decide +kernel) ?_
            go_wp2_with fail
            go_meet
            refine ⟨_, rfl, rfl, Lib.hid ?_, Lib.hid ?_, ?_⟩
            · refine ⟨?_, ?_, ?_, fun j => ?_, ?_⟩
              · go_simp
              · go_simp
              · go_simp
              · go_simp
              · exact (by first | exact Nat.le_refl _ | (simp [World.setCell]; done) | (simp [World.setCell]; omega) | omega)
            · have hl2 : Below wr.heap.size wr wp1 := Below.trans (show Below wr.heap.size wr _ by repeat (first | (with_reducible exact Below.refl _ _) | (with_reducible refine Bal ?_ _) | (with_reducible refine Below.drew ?_) | (with_reducible refine below_drewN ?_ _) | (with_reducible refine Bset ?_ ?_ _; focus (first | (with_reducible exact Nat.le_refl _) | (simp; done) | (simp; omega) | omega)) | (with_reducible refine Bt ?_ (by assumption)) | (with_reducible refine Bp (g := g) ?_ (by assumption) (by assumption)))) (hbp1.mono (by first | exact Nat.le_refl _ | (simp [World.setCell]; done) | (simp [World.setCell]; omega) | omega))
              repeat (first | (with_reducible exact hl2) | (with_reducible refine Bal ?_ _) | (with_reducible refine Below.drew ?_) | (with_reducible refine Bset ?_ ?_ _; focus (first | (with_reducible exact Nat.le_refl _) | (simp; done) | (simp; omega) | omega)))
            · exact (by first | exact Nat.le_refl _ | (simp [World.setCell]; done) | (simp [World.setCell]; omega) | omega)
    case rest =>
      obtain ⟨b8, rfl, rfl, HX, HW, hb8⟩ := hcut
      obtain ⟨w6, rfl⟩ : ∃ v, v = wc := ⟨_, rfl⟩
      have hW6 := HW.out
      have co6 := (hW6.cell (p := ⟨bo, offo + k, none⟩) hbow).trans co
      have HSP6 := Lib.hid (HSP.out.keep (fun o => hW6.cell (p := ⟨w4.heap.size, o, none⟩) dl) (fun o => hW6.frozen (p := ⟨w4.heap.size, o, none⟩) dl) (Nat.lt_of_lt_of_le dl hW6.size))
      have HB6 := Lib.hid (HB.out.trans (hW6.mono (by have := HB.out.size; omega)))
      have hbo6 : bo < w6.heap.size := by have := hW6.size; omega
      obtain ⟨x0, x1, x2, -, xl⟩ := HX.out
      have x0 : w6.cell? ⟨b8, 0, none⟩ = some (.int .i64 v) := x0
      have x1 : w6.cell? ⟨b8, 1, none⟩ = some (.int .i64 xv) := x1
      have x2 : w6.cell? ⟨b8, 2, none⟩ = some (.int .i64 wv) := x2
      obtain ⟨e0, e1, e2, ef, el⟩ := HSP6.out
      have e0 : w6.cell? ⟨w4.heap.size, 0, none⟩ = some (.int .i64 ta) := e0
      have e1 : w6.cell? ⟨w4.heap.size, 1, none⟩ = some (.int .i64 tb) := e1
      have e2 : w6.cell? ⟨w4.heap.size, 2, none⟩ = some (.int .i64 td) := e2
      have f0 := ef 0
      have f1 := ef 1
      have f2 := ef 2
      have hne : ¬ b8 = w4.heap.size := by omega
      have hne2 : ¬ w4.heap.size = b8 := by omega
      have hvv : (v != v) = false := by simp
      have hz6 : w4.heap.size ≤ w6.heap.size := by omega
      clear ef hW6 HW HX HB HSP ck co d0 d1 d2 HSS
      go_upto_region 13 with fail
      refine wp_region_mix (Exc (fun _ => False) w6) (by kernel_rfl) (by kernel_rfl) (Exc.drew (Exc.refl _ _)) ?_
      repeat (first
        | (refine mix_skip rfl ?_; have e0 : True := trivial; clear e0; refine mix_putK ?_; intro K hK; go_simp; refine hK _ ?_; clear hK K)
        | (refine mix_readE rfl rfl rfl ?_; apply Exists.intro; refine ⟨fun w' hb' => ?_, ?_⟩; (focus (obtain ⟨hc', hf'⟩ := exc_cells hb'; clear hb'; go_simp; try exact rfl)); have e0 : True := trivial; clear e0; refine mix_putK ?_; intro K hK; go_simp; refine hK _ ?_; clear hK K)
        | (refine mix_pureE rfl rfl ?_; apply Exists.intro; refine ⟨fun w' => ?_, ?_⟩; (focus (first | (fail) | (go_simp; try exact rfl))); have e0 : True := trivial; clear e0; refine mix_putK ?_; intro K hK; go_simp; refine hK _ ?_; clear hK K)
        | (refine mix_eff rfl rfl ?_; go_wp2_with (fail); refine then_mix rfl ?_ ?_; (focus (first | (intro h; have h2 : false = true := h; cases h2) | (intro _; assumption) | (intro _; repeat (first | assumption | (with_reducible exact Exc.refl _ _) | (with_reducible refine Exc.drew ?_) | (with_reducible refine Exc.alloc ?_ _) | (with_reducible refine Exc.setC ?_ ?_ _; focus (simp))))))))
      refine mix_nil ?_
      have hz6d : w4.heap.size ≤ w6.drew.heap.size := hz6
      obtain ⟨w7, hw7⟩ : ∃ v, v = w6.drew := ⟨_, rfl⟩
      go_wp2_with fail
      go_roundw
      case rel => exact ⟨k + 1, by omega, by go_num, Lib.hid (by rw [HT1.out]; exact SpAt.put HSP6.out), Lib.hid (Below.drew (HB6.out.grown (((grown_setCell _ ⟨w4.heap.size, 0, none⟩ _).trans (grown_setCell _ ⟨w4.heap.size, 1, none⟩ _)).trans (grown_setCell _ ⟨w4.heap.size, 2, none⟩ _)) hz6 (fun g hg => by cases hg; exact Nat.le_refl _)))⟩
      case measure => simp [intOf]; omega

end Go.Proofs.Ytcdpalpoanlbmaa
namespace Go.Proofs.Ytcdpalpoanlbmaa.fnSpeakRun
open Go.ChangeShapes Go.WideShapes Go.ChangeAt Go.RowKit
set_option linter.unusedVariables false

theorem own : ownKnob Try.prog.godebug = none := by kernel_rfl
theorem laidOut : laidOutB Try.prog = true := by kernel_rfl

set_option maxRecDepth 100000 in
theorem lifted (os : Os) (started : os.Started) (H : Type) (enc : TypeId × Value → H) :
    ReturnsInHanded {} Try.checked os 3 .any (Rows.fnSpeakRunSpec.pre6 enc Try.prog Try.f3 Rows.fnSpeakRunRow.domain false) (Rows.fnSpeakRunSpec.post enc Try.prog Try.f3 false true false false) := by
  refine returnsInHanded_of_change (C := Try.checked) own started (by kernel_rfl) Try.func3
    (ChangeSpec.witness6 (enc := enc) (C := Try.checked) false ⟨#[], #[.slice none 0 0], []⟩ 8 (by kernel_rfl) (by kernel_rfl) (by kernel_rfl) (by kernel_rfl)) ?_
  intro W base args ds gs before hval0 hW hcnd _
  have hval : ∀ (j : Nat) t v, Try.f3.params[j]? = some t → args[j]? = some v → Value.okWide Try.prog W .any base t v := hval0
  have hW' := hW
  obtain ⟨p, q, hA0, hV, rfl, hfz, hnd⟩ := hW
  have hA : DataW.TrodAll enc Try.prog W 0 (fun _ => true) true Try.f3.params.toList args.toList ds p := hA0
  rw [Try.params3] at hA hval
  obtain ⟨v0, vs0, d0, ds0, p0, q0, hargs, rfl, rfl, h0, r0⟩ := trodAll_cons hA
  obtain ⟨rfl, rfl, rfl⟩ := trodAll_nil r0
  obtain rfl : args = #[v0] := by cases args; simp_all
  obtain ⟨rfl, rfl⟩ := trodVars_none hV
  have k0 := h0
  have lt0 : ∀ x ∈ p0, x.block < W.heap.size := by obtain ⟨m, hm⟩ := k0; exact DataW.trod_lt m _ _ _ hm
  obtain ⟨a0, n0, c0, rfl, w0⟩ := open_code (hval 0 22 v0 rfl rfl) h0
  clear hA0 hval0
  refine (walk_FnSpeakRun a0 n0 c0 W w0).mono fun e W' ⟨he, bel⟩ => ?_
  subst he
  exact ⟨_, rfl, _, _, _, [], _, [], hW', trodAll_mk1 (shut_bool Try.underlying4 _), (trodAll_cons_mk (Below.trod laidOut (by kernel_rfl) (of_decide_eq_true (by kernel_rfl)) k0 bel lt0) trodAll_mk0), rfl, bel.frame _, fun h => by cases h⟩

theorem over : Rows.fnSpeakRunRow.holds Try.pinned (OpenSpec.ofChange Rows.fnSpeakRunSpec) :=
  OpenClaim.holds_of_wide 3 Try.f3 rfl rfl rfl rfl rfl rfl rfl ⟨rfl, rfl, rfl, rfl, rfl⟩ rfl rfl rfl rfl rfl (by kernel_rfl) Try.func3 (by kernel_rfl)
    (of_decide_eq_true (by kernel_rfl)) (by unfold Func.isWrapper; first | (rw [if_pos (by decide +kernel)]; kernel_rfl) | (rw [if_neg (by decide +kernel)]; exact ⟨rfl, rfl⟩))
    (fun os started H enc _ => lifted os started H enc)

/-- The statement. -/
theorem proved : Rows.FnSpeakRunSaid := over
#print axioms proved
end Go.Proofs.Ytcdpalpoanlbmaa.fnSpeakRun
