/- The law FnExactBufferPut of the program is true at every input: the call returns true, and each argument reads behind the call as before. Conditions: none. -/
import Derived.Test.YtegdogamenoaiaaHxv
import Derived.WalkKit
import Derived.ProofKit
import Derived.OpenShut
import Derived.ShutString
import Derived.ChangeOld
import Derived.Below
import Derived.Test.YtegdogamenoaiaaHxv
import Derived.Deep.DeepCutAuto
namespace Go.Proofs.Ytegdogamenoaiaa
open Go.RowKit
set_option linter.unusedVariables false
set_option linter.unusedSimpArgs false

set_option maxRecDepth 100000 in
set_option maxHeartbeats 32000000 in
theorem walk_FnExactBufferPut (y d : Int) (A : Option Addr) (n c : Nat) (q : Nat → Hd) (pa pb pc pd : Int) (pk pz : Bool) (now : Int) (w : World) (h : RowAt w 0 w.heap.size A n 7 (HdF q)) (hm : n ≤ maxLen) (hnow : (Lit.int .i64 now).wf = true) :
    Calls Try.prog 4 #[.agg #[.int .i64 y, .int .i64 d, .slice A n c], .agg #[.int .i64 pa, .int .i64 pb, .int .i64 pc, .int .i64 pd, .bool pk, .bool pz], .int .i64 now] w fun e w' => e = .returned (.bool true) ∧ Below w.heap.size w w' := by
  unfold maxLen at hm
  have H := Lib.hid h
  clear h hnow
  by_cases hn0 : 1048576 < n
  · go_enter Try.func4, Try.ntmps4
    go_wp2_with fail
    refine (szBf_out _ A n c y d hn0 hm).mono ?_
    rintro e w0 ⟨rfl, hb0⟩
    go_wp2_with fail
    go_ret
    go_light
    refine ⟨rfl, ?_⟩
    repeat (first | (with_reducible exact Below.refl _ _) | (with_reducible refine Bal ?_ _) | (with_reducible refine Below.drew ?_) | (with_reducible refine below_drewN ?_ _) | (with_reducible refine Bset ?_ ?_ _; focus (first | (with_reducible exact Nat.le_refl _) | (simp; done) | (simp; omega) | omega)) | (with_reducible refine Bt ?_ (by assumption)) | (with_reducible refine Bp (g := g) ?_ (by assumption) (by assumption)))
  · have hn : n ≤ 1048576 := by omega
    clear hn0 hm
    have hx : ¬ (1048576 : Int) - n < 0 := by omega
    obtain ⟨yy, dd, k, nn, qq, hnn, hgv⟩ := gives_bp (y := y) (d := d) (now := now) (q := q) (x := ⟨pa, pb, pc, pd, pk, pz⟩) hn
    have HI := Lib.hid (fun W lo hi A c h1 h2 => (ibp_any W lo hi A n c y d now q ⟨pa, pb, pc, pd, pk, pz⟩ h1 h2 hn).mono fun e w' hr => hgv W e w' hr)
    have HS := Lib.hid (fun W lo hi A c h1 h2 h3 => (sbp_any W lo hi A n c y d now q ⟨pa, pb, pc, pd, pk, pz⟩ h1 h2 hn h3).mono fun e w' hr => hgv W e w' hr)
    clear hgv
    unfold PkV at HI HS
    simp only [] at HI HS
    go_enter Try.func4, Try.ntmps4
    go_wp2_with fail
    refine (szBf_in _ A n c y d hn).mono ?_
    rintro e w0 ⟨rfl, hb0⟩
    have hw0 : Below w.heap.size w w0 := by repeat (first | (with_reducible exact Below.refl _ _) | (with_reducible refine Bal ?_ _) | (with_reducible refine Below.drew ?_) | (with_reducible refine below_drewN ?_ _) | (with_reducible refine Bset ?_ ?_ _; focus (first | (with_reducible exact Nat.le_refl _) | (simp; done) | (simp; omega) | omega)) | (with_reducible refine Bt ?_ (by assumption)) | (with_reducible refine Bp (g := g) ?_ (by assumption) (by assumption)))
    have hz0 : w.heap.size ≤ w0.heap.size := hw0.size
    obtain ⟨hc0, hf0⟩ := bcell hb0
    have hy0 := hb0.size
    try simp at hy0
    have l0_0 : w.heap.size < w0.heap.size := by omega
    have g0_0_0 : w0.cell? ⟨w.heap.size, 0, none⟩ = some (.int .i64 y) := (hc0 (w.heap.size) 0 (by first | (simp; done) | (simp; omega) | omega)).trans (by go_simp; try rfl)
    have g0_0_1 : w0.cell? ⟨w.heap.size, 1, none⟩ = some (.int .i64 d) := (hc0 (w.heap.size) 1 (by first | (simp; done) | (simp; omega) | omega)).trans (by go_simp; try rfl)
    have g0_0_2 : w0.cell? ⟨w.heap.size, 2, none⟩ = some (.slice A n c) := (hc0 (w.heap.size) 2 (by first | (simp; done) | (simp; omega) | omega)).trans (by go_simp; try rfl)
    have l0_1 : w.heap.size + 1 < w0.heap.size := by omega
    have g0_1_0 : w0.cell? ⟨w.heap.size + 1, 0, none⟩ = some (.int .i64 pa) := (hc0 (w.heap.size + 1) 0 (by first | (simp; done) | (simp; omega) | omega)).trans (by go_simp; try rfl)
    have g0_1_1 : w0.cell? ⟨w.heap.size + 1, 1, none⟩ = some (.int .i64 pb) := (hc0 (w.heap.size + 1) 1 (by first | (simp; done) | (simp; omega) | omega)).trans (by go_simp; try rfl)
    have g0_1_2 : w0.cell? ⟨w.heap.size + 1, 2, none⟩ = some (.int .i64 pc) := (hc0 (w.heap.size + 1) 2 (by first | (simp; done) | (simp; omega) | omega)).trans (by go_simp; try rfl)
    have g0_1_3 : w0.cell? ⟨w.heap.size + 1, 3, none⟩ = some (.int .i64 pd) := (hc0 (w.heap.size + 1) 3 (by first | (simp; done) | (simp; omega) | omega)).trans (by go_simp; try rfl)
    have g0_1_4 : w0.cell? ⟨w.heap.size + 1, 4, none⟩ = some (.bool pk) := (hc0 (w.heap.size + 1) 4 (by first | (simp; done) | (simp; omega) | omega)).trans (by go_simp; try rfl)
    have g0_1_5 : w0.cell? ⟨w.heap.size + 1, 5, none⟩ = some (.bool pz) := (hc0 (w.heap.size + 1) 5 (by first | (simp; done) | (simp; omega) | omega)).trans (by go_simp; try rfl)
    have HB0 := Lib.hid hw0
    have Ha_0 := Lib.hid (H.out.below (Nat.le_refl _) hw0)
    clear hb0 hc0 hf0 hw0
    go_upto_region 5 with fail
    go_cut [8, 9] (fun s8 s9 wx => ∃ (b8 L2 H2 : Nat) (A2 : Option Addr) (c2 : Nat), s8 = .pointer (some ⟨b8, 0, none⟩) ∧ s9 = .int .i64 k ∧ Hid (Bx wx b8 yy dd A2 nn c2) ∧ Hid (RowOwn 54 wx L2 H2 A2 nn c2 7 (HdF qq)) ∧ Hid (Below w0.heap.size w0 wx) ∧ w0.heap.size ≤ b8 ∧ w0.heap.size ≤ L2 ∧ L2 ≤ H2 ∧ H2 ≤ wx.heap.size ∧ (b8 < L2 ∨ H2 ≤ b8))
    case first =>
      have hgd : ∀ W : World, W.drew.heap.size = W.heap.size := fun _ => rfl
      refine wp_region_anyR (R := fun a b => Below (w0.heap.size) a b) (by kernel_rfl) (fun w => Below.refl _ _) (fun _ _ _ h k => Below.trans h k) (by kernel_rfl) ?_
      simp only [List.size_toArray, List.length_cons, List.length_nil, Nat.zero_add, Nat.reduceAdd]
      refine any_read 0 (by decide +kernel) rfl rfl rfl ?_; apply Exists.intro; refine ⟨fun w' hb' => ?_, ?_⟩; (focus (obtain ⟨hc', hf'⟩ := below_cells hb'; clear hb'; go_simp; try exact rfl)); have e0 : True := trivial; clear e0; refine any_putK ?_; intro K hK; go_simp; refine hK _ ?_; clear hK K
      refine any_read 2 (by decide +kernel) rfl rfl rfl ?_; apply Exists.intro; refine ⟨fun w' hb' => ?_, ?_⟩; (focus (obtain ⟨hc', hf'⟩ := below_cells hb'; clear hb'; go_simp; try exact rfl)); have e0 : True := trivial; clear e0; refine any_putK ?_; intro K hK; go_simp; refine hK _ ?_; clear hK K
      refine any_pure 4 (by decide +kernel) rfl rfl ?_; apply Exists.intro; refine ⟨fun w' => ?_, ?_⟩; (focus (first | (fail) | (go_simp; try exact rfl))); have e0 : True := trivial; clear e0; refine any_putK ?_; intro K hK; go_simp; refine hK _ ?_; clear hK K
      refine any_branch (by decide +kernel) ?_
      simp only [List.size_toArray, List.length_cons, List.length_nil, Nat.zero_add, Nat.reduceAdd]
      repeat' (first | exact lt_zero | refine lt_succ ?_ ?_ | exact any_none (by decide +kernel) | fail)
      · refine any_one rfl rfl rfl ?_
        go_wp2_with (fail)
        refine then_any rfl ?_ ?_; focus (first | (intro h; have h2 : false = true := h; cases h2) | (intro _; show Below _ _ _; first | (with_reducible assumption) | (first | exact Below.mono (by with_reducible assumption) (by first | exact Nat.le_refl _ | (simp [World.setCell]; done) | (simp [World.setCell]; omega) | omega) | (repeat (first | (with_reducible exact Below.refl _ _) | (with_reducible exact below_undrew _ _) | (with_reducible refine Below.drew ?_) | (with_reducible refine Below.alloc ?_ (by first | exact Nat.le_refl _ | (simp [World.setCell]; done) | (simp [World.setCell]; omega) | omega) _))))))
        refine any_branch (by decide +kernel) ?_
        simp only [List.size_toArray, List.length_cons, List.length_nil, Nat.zero_add, Nat.reduceAdd]
        repeat' (first | exact lt_zero | refine lt_succ ?_ ?_ | exact any_none (by decide +kernel) | fail)
        · refine any_one rfl rfl rfl ?_
          go_wp2_with ((go_at_call 18; refine (toBf_any _ 0 w.heap.size A n c y d q (Ha_0.out.below (B := w0.heap.size) (by omega) (by repeat (first | (with_reducible exact Below.refl _ _) | (with_reducible refine Bal ?_ _) | (with_reducible refine Below.drew ?_) | (with_reducible refine below_drewN ?_ _) | (with_reducible refine Bset ?_ ?_ _; focus (first | (with_reducible exact Nat.le_refl _) | (simp; done) | (simp; omega) | omega)) | (with_reducible refine Bt ?_ (by assumption)) | (with_reducible refine Bp (g := g) ?_ (by assumption) (by assumption))))) (by first | exact Nat.le_refl _ | (simp; done) | (simp; omega) | omega) hn).mono ?_; rintro e wp1 ⟨AT, cT, hOT, rfl, hbp1⟩; have hzp1 := hbp1.size; (try simp at hzp1); (try (have g0_1 := (bel_cells hbp1 (w0.heap.size) (by simp) (f := fun o => ([.int .i64 0, .int .i64 0, .slice none 0 0] : List Value)[o]?) (fun o => by simp [go_sem]) (fun o => by simp [go_sem])); obtain ⟨g0_1, f0_1⟩ := g0_1; have s0_1 : w0.heap.size < wp1.heap.size := (by have := hbp1.size; simp at this; omega)))))
          refine then_any rfl ?_ ?_; focus (first | (intro h; have h2 : false = true := h; cases h2) | (intro _; show Below _ _ _; first | (with_reducible assumption) | (first | exact Below.mono (by with_reducible assumption) (by first | exact Nat.le_refl _ | (simp [World.setCell]; done) | (simp [World.setCell]; omega) | omega) | (repeat (first | (with_reducible exact Below.refl _ _) | (with_reducible exact below_undrew _ _) | (with_reducible refine Below.drew ?_) | (with_reducible refine Below.alloc ?_ (by first | exact Nat.le_refl _ | (simp [World.setCell]; done) | (simp [World.setCell]; omega) | omega) _))))))
          refine any_branch (by decide +kernel) ?_
          simp only [List.size_toArray, List.length_cons, List.length_nil, Nat.zero_add, Nat.reduceAdd]
          repeat' (first | exact lt_zero | refine lt_succ ?_ ?_ | exact any_none (by decide +kernel) | fail)
          · refine any_one rfl rfl rfl ?_
            go_wp2_with ((go_at_call 25; refine (toPk_any _ _ _ _ _ _ _).mono ?_; rintro e wp2 ⟨rfl, hbp2⟩; have hzp2 := hbp2.size; (try simp at hzp2); (try (have g0_2 := (bel_cells hbp2 (w0.heap.size) (by first | omega | (simp; omega)) g0_1 f0_1); obtain ⟨g0_2, f0_2⟩ := g0_2; have s0_2 : w0.heap.size < wp2.heap.size := (by omega))); (try (have g1_2 := (bel_cells hbp2 (wp1.heap.size) (by simp) (f := fun o => ([.int .i64 0, .int .i64 0, .slice none 0 0] : List Value)[o]?) (fun o => by simp [go_sem]) (fun o => by simp [go_sem])); obtain ⟨g1_2, f1_2⟩ := g1_2; have s1_2 : wp1.heap.size < wp2.heap.size := (by have := hbp2.size; simp at this; omega)))))
            refine then_any rfl ?_ ?_; focus (first | (intro h; have h2 : false = true := h; cases h2) | (intro _; show Below _ _ _; first | (with_reducible assumption) | (first | exact Below.mono (by with_reducible assumption) (by first | exact Nat.le_refl _ | (simp [World.setCell]; done) | (simp [World.setCell]; omega) | omega) | (repeat (first | (with_reducible exact Below.refl _ _) | (with_reducible exact below_undrew _ _) | (with_reducible refine Below.drew ?_) | (with_reducible refine Below.alloc ?_ (by first | exact Nat.le_refl _ | (simp [World.setCell]; done) | (simp [World.setCell]; omega) | omega) _))))))
            refine any_branch (by decide +kernel) ?_
            simp only [List.size_toArray, List.length_cons, List.length_nil, Nat.zero_add, Nat.reduceAdd]
            repeat' (first | exact lt_zero | refine lt_succ ?_ ?_ | exact any_none (by decide +kernel) | fail)
            · refine any_one rfl rfl rfl ?_
              go_wp2_with ((go_at_call 24; refine (HS.out _ _ _ _ _ (RowOwn.row (RowOwn.below (Nat.le_refl _) hOT (by repeat (first | (with_reducible exact Below.refl _ _) | (with_reducible refine Bal ?_ _) | (with_reducible refine Below.drew ?_) | (with_reducible refine below_drewN ?_ _) | (with_reducible refine Bset ?_ ?_ _; focus (first | (with_reducible exact Nat.le_refl _) | (simp; done) | (simp; omega) | omega)) | (with_reducible refine Bt ?_ (by assumption)) | (with_reducible refine Bp (g := g) ?_ (by assumption) (by assumption)))))) (by first | exact Nat.le_refl _ | (simp; done) | (simp; omega) | omega) (own_le hOT)).mono ?_; rintro e wp3 ⟨AX, cX, hO, rfl, hbp3⟩; obtain ⟨LX, hLX, hOX⟩ : ∃ L : Nat, L = _ ∧ RowOwn 54 wp3 L wp3.heap.size AX nn cX 7 (HdF qq) := ⟨_, rfl, hO⟩; (try simp at hLX); clear hO; have hzp3 := hbp3.size; (try simp at hzp3); (try (have g0_3 := (bel_cells hbp3 (w0.heap.size) (by first | omega | (simp; omega)) g0_2 f0_2); obtain ⟨g0_3, f0_3⟩ := g0_3; have s0_3 : w0.heap.size < wp3.heap.size := (by omega))); (try (have g1_3 := (bel_cells hbp3 (wp1.heap.size) (by first | omega | (simp; omega)) g1_2 f1_2); obtain ⟨g1_3, f1_3⟩ := g1_3; have s1_3 : wp1.heap.size < wp3.heap.size := (by omega))); (try (have g2_3 := (bel_cells hbp3 (wp2.heap.size) (by simp) (f := fun o => ([.int .i64 0, .int .i64 0, .slice none 0 0] : List Value)[o]?) (fun o => by simp [go_sem]) (fun o => by simp [go_sem])); obtain ⟨g2_3, f2_3⟩ := g2_3; have s2_3 : wp2.heap.size < wp3.heap.size := (by have := hbp3.size; simp at this; omega)))))
              refine then_any rfl ?_ ?_; focus (first | (intro h; have h2 : false = true := h; cases h2) | (intro _; show Below _ _ _; first | (with_reducible assumption) | (first | exact Below.mono (by with_reducible assumption) (by first | exact Nat.le_refl _ | (simp [World.setCell]; done) | (simp [World.setCell]; omega) | omega) | (repeat (first | (with_reducible exact Below.refl _ _) | (with_reducible exact below_undrew _ _) | (with_reducible refine Below.drew ?_) | (with_reducible refine Below.alloc ?_ (by first | exact Nat.le_refl _ | (simp [World.setCell]; done) | (simp [World.setCell]; omega) | omega) _))))))
              refine any_pure 6 (by decide +kernel) rfl rfl ?_; apply Exists.intro; refine ⟨fun w' => ?_, ?_⟩; (focus (first | (fail) | (go_simp; try exact rfl))); have e0 : True := trivial; clear e0; refine any_putK ?_; intro K hK; go_simp; refine hK _ ?_; clear hK K
              refine any_pure 7 (by decide +kernel) rfl rfl ?_; apply Exists.intro; refine ⟨fun w' => ?_, ?_⟩; (focus (first | (fail) | (go_simp; try exact rfl))); have e0 : True := trivial; clear e0; refine any_putK ?_; intro K hK; go_simp; refine hK _ ?_; clear hK K
              refine any_pure 8 (by decide +kernel) rfl rfl ?_; apply Exists.intro; refine ⟨fun w' => ?_, ?_⟩; (focus (first | (fail) | (go_simp; try exact rfl))); have e0 : True := trivial; clear e0; refine any_putK ?_; intro K hK; go_simp; refine hK _ ?_; clear hK K
              refine any_branch (by decide +kernel) ?_
              simp only [List.size_toArray, List.length_cons, List.length_nil, Nat.zero_add, Nat.reduceAdd]
              repeat' (first | exact lt_zero | refine lt_succ ?_ ?_ | exact any_none (by decide +kernel) | fail)
              · refine any_one rfl rfl rfl ?_
                go_wp2_with (fail)
                refine then_any rfl ?_ ?_; focus (first | (intro h; have h2 : false = true := h; cases h2) | (intro _; show Below _ _ _; first | (with_reducible assumption) | (first | exact Below.mono (by with_reducible assumption) (by first | exact Nat.le_refl _ | (simp [World.setCell]; done) | (simp [World.setCell]; omega) | omega) | (repeat (first | (with_reducible exact Below.refl _ _) | (with_reducible exact below_undrew _ _) | (with_reducible refine Below.drew ?_) | (with_reducible refine Below.alloc ?_ (by first | exact Nat.le_refl _ | (simp [World.setCell]; done) | (simp [World.setCell]; omega) | omega) _))))))
                refine any_pure 11 (by decide +kernel) rfl rfl ?_; apply Exists.intro; refine ⟨fun w' => ?_, ?_⟩; (focus (first | (fail) | (go_simp; try exact rfl))); have e0 : True := trivial; clear e0; refine any_putK ?_; intro K hK; go_simp; refine hK _ ?_; clear hK K
                refine any_end (by decide +kernel) ?_
                go_wp2_with fail
                go_meet
                refine ⟨_, LX, wp3.heap.size, AX, cX, rfl, rfl, Lib.hid ?_, Lib.hid ?_, Lib.hid ?_, ?_, ?_, ?_, ?_, ?_⟩
                · refine ⟨?_, ?_, ?_, fun j => ?_, ?_⟩
                  · go_simp
                  · go_simp
                  · go_simp
                  · go_simp
                  · exact (by first | exact Nat.le_refl _ | (simp [World.setCell]; done) | (simp [World.setCell]; omega) | omega)
                · repeat (first | (with_reducible exact hOX) | (with_reducible refine RowOwn.drew ?_) | (with_reducible refine RowOwn.alloc ?_ _) | (with_reducible refine RowOwn.setC ?_ ?_ _; focus (first | (left; first | omega | (simp; omega) | (simp; done)) | (right; first | omega | (simp; omega) | (simp; done)))))
                · repeat (first | (with_reducible exact Below.refl _ _) | (with_reducible refine Bal ?_ _) | (with_reducible refine Below.drew ?_) | (with_reducible refine below_drewN ?_ _) | (with_reducible refine Bset ?_ ?_ _; focus (first | (with_reducible exact Nat.le_refl _) | (simp; done) | (simp; omega) | omega)) | (with_reducible refine Bt ?_ (by assumption)) | (with_reducible refine Bp (g := g) ?_ (by assumption) (by assumption)))
                · exact (by first | exact Nat.le_refl _ | (simp [World.setCell]; done) | (simp [World.setCell]; omega) | omega)
                · omega
                · omega
                · exact (by first | exact Nat.le_refl _ | (simp [World.setCell]; done) | (simp [World.setCell]; omega) | omega)
                · first | omega | (simp; omega) | (simp; done)
      · refine any_one rfl rfl rfl ?_
        go_wp2_with ((go_at_call 18; refine (toBf_any _ 0 w.heap.size A n c y d q (Ha_0.out.below (B := w0.heap.size) (by omega) (by repeat (first | (with_reducible exact Below.refl _ _) | (with_reducible refine Bal ?_ _) | (with_reducible refine Below.drew ?_) | (with_reducible refine below_drewN ?_ _) | (with_reducible refine Bset ?_ ?_ _; focus (first | (with_reducible exact Nat.le_refl _) | (simp; done) | (simp; omega) | omega)) | (with_reducible refine Bt ?_ (by assumption)) | (with_reducible refine Bp (g := g) ?_ (by assumption) (by assumption))))) (by first | exact Nat.le_refl _ | (simp; done) | (simp; omega) | omega) hn).mono ?_; rintro e wp1 ⟨AT, cT, hOT, rfl, hbp1⟩; have hzp1 := hbp1.size; (try simp at hzp1); (try (have g0_1 := (bel_cells hbp1 (w0.heap.size) (by simp) (f := fun o => ([.int .i64 0, .int .i64 0, .slice none 0 0] : List Value)[o]?) (fun o => by simp [go_sem]) (fun o => by simp [go_sem])); obtain ⟨g0_1, f0_1⟩ := g0_1; have s0_1 : w0.heap.size < wp1.heap.size := (by have := hbp1.size; simp at this; omega)))))
        refine then_any rfl ?_ ?_; focus (first | (intro h; have h2 : false = true := h; cases h2) | (intro _; show Below _ _ _; first | (with_reducible assumption) | (first | exact Below.mono (by with_reducible assumption) (by first | exact Nat.le_refl _ | (simp [World.setCell]; done) | (simp [World.setCell]; omega) | omega) | (repeat (first | (with_reducible exact Below.refl _ _) | (with_reducible exact below_undrew _ _) | (with_reducible refine Below.drew ?_) | (with_reducible refine Below.alloc ?_ (by first | exact Nat.le_refl _ | (simp [World.setCell]; done) | (simp [World.setCell]; omega) | omega) _))))))
        refine any_branch (by decide +kernel) ?_
        simp only [List.size_toArray, List.length_cons, List.length_nil, Nat.zero_add, Nat.reduceAdd]
        repeat' (first | exact lt_zero | refine lt_succ ?_ ?_ | exact any_none (by decide +kernel) | fail)
        · refine any_one rfl rfl rfl ?_
          go_wp2_with (fail)
          refine then_any rfl ?_ ?_; focus (first | (intro h; have h2 : false = true := h; cases h2) | (intro _; show Below _ _ _; first | (with_reducible assumption) | (first | exact Below.mono (by with_reducible assumption) (by first | exact Nat.le_refl _ | (simp [World.setCell]; done) | (simp [World.setCell]; omega) | omega) | (repeat (first | (with_reducible exact Below.refl _ _) | (with_reducible exact below_undrew _ _) | (with_reducible refine Below.drew ?_) | (with_reducible refine Below.alloc ?_ (by first | exact Nat.le_refl _ | (simp [World.setCell]; done) | (simp [World.setCell]; omega) | omega) _))))))
          refine any_branch (by decide +kernel) ?_
          simp only [List.size_toArray, List.length_cons, List.length_nil, Nat.zero_add, Nat.reduceAdd]
          repeat' (first | exact lt_zero | refine lt_succ ?_ ?_ | exact any_none (by decide +kernel) | fail)
          · refine any_one rfl rfl rfl ?_
            go_wp2_with ((go_at_call 25; refine (toPk_any _ _ _ _ _ _ _).mono ?_; rintro e wp2 ⟨rfl, hbp2⟩; have hzp2 := hbp2.size; (try simp at hzp2); (try (have g0_2 := (bel_cells hbp2 (w0.heap.size) (by first | omega | (simp; omega)) g0_1 f0_1); obtain ⟨g0_2, f0_2⟩ := g0_2; have s0_2 : w0.heap.size < wp2.heap.size := (by omega))); (try (have g1_2 := (bel_cells hbp2 (wp1.heap.size) (by simp) (f := fun o => ([.int .i64 0, .int .i64 0, .slice none 0 0] : List Value)[o]?) (fun o => by simp [go_sem]) (fun o => by simp [go_sem])); obtain ⟨g1_2, f1_2⟩ := g1_2; have s1_2 : wp1.heap.size < wp2.heap.size := (by have := hbp2.size; simp at this; omega)))))
            refine then_any rfl ?_ ?_; focus (first | (intro h; have h2 : false = true := h; cases h2) | (intro _; show Below _ _ _; first | (with_reducible assumption) | (first | exact Below.mono (by with_reducible assumption) (by first | exact Nat.le_refl _ | (simp [World.setCell]; done) | (simp [World.setCell]; omega) | omega) | (repeat (first | (with_reducible exact Below.refl _ _) | (with_reducible exact below_undrew _ _) | (with_reducible refine Below.drew ?_) | (with_reducible refine Below.alloc ?_ (by first | exact Nat.le_refl _ | (simp [World.setCell]; done) | (simp [World.setCell]; omega) | omega) _))))))
            refine any_branch (by decide +kernel) ?_
            simp only [List.size_toArray, List.length_cons, List.length_nil, Nat.zero_add, Nat.reduceAdd]
            repeat' (first | exact lt_zero | refine lt_succ ?_ ?_ | exact any_none (by decide +kernel) | fail)
            · refine any_one rfl rfl rfl ?_
              go_wp2_with ((go_at_call 24; refine (HS.out _ _ _ _ _ (RowOwn.row (RowOwn.below (Nat.le_refl _) hOT (by repeat (first | (with_reducible exact Below.refl _ _) | (with_reducible refine Bal ?_ _) | (with_reducible refine Below.drew ?_) | (with_reducible refine below_drewN ?_ _) | (with_reducible refine Bset ?_ ?_ _; focus (first | (with_reducible exact Nat.le_refl _) | (simp; done) | (simp; omega) | omega)) | (with_reducible refine Bt ?_ (by assumption)) | (with_reducible refine Bp (g := g) ?_ (by assumption) (by assumption)))))) (by first | exact Nat.le_refl _ | (simp; done) | (simp; omega) | omega) (own_le hOT)).mono ?_; rintro e wp3 ⟨AX, cX, hO, rfl, hbp3⟩; obtain ⟨LX, hLX, hOX⟩ : ∃ L : Nat, L = _ ∧ RowOwn 54 wp3 L wp3.heap.size AX nn cX 7 (HdF qq) := ⟨_, rfl, hO⟩; (try simp at hLX); clear hO; have hzp3 := hbp3.size; (try simp at hzp3); (try (have g0_3 := (bel_cells hbp3 (w0.heap.size) (by first | omega | (simp; omega)) g0_2 f0_2); obtain ⟨g0_3, f0_3⟩ := g0_3; have s0_3 : w0.heap.size < wp3.heap.size := (by omega))); (try (have g1_3 := (bel_cells hbp3 (wp1.heap.size) (by first | omega | (simp; omega)) g1_2 f1_2); obtain ⟨g1_3, f1_3⟩ := g1_3; have s1_3 : wp1.heap.size < wp3.heap.size := (by omega))); (try (have g2_3 := (bel_cells hbp3 (wp2.heap.size) (by simp) (f := fun o => ([.int .i64 0, .int .i64 0, .slice none 0 0] : List Value)[o]?) (fun o => by simp [go_sem]) (fun o => by simp [go_sem])); obtain ⟨g2_3, f2_3⟩ := g2_3; have s2_3 : wp2.heap.size < wp3.heap.size := (by have := hbp3.size; simp at this; omega)))))
              refine then_any rfl ?_ ?_; focus (first | (intro h; have h2 : false = true := h; cases h2) | (intro _; show Below _ _ _; first | (with_reducible assumption) | (first | exact Below.mono (by with_reducible assumption) (by first | exact Nat.le_refl _ | (simp [World.setCell]; done) | (simp [World.setCell]; omega) | omega) | (repeat (first | (with_reducible exact Below.refl _ _) | (with_reducible exact below_undrew _ _) | (with_reducible refine Below.drew ?_) | (with_reducible refine Below.alloc ?_ (by first | exact Nat.le_refl _ | (simp [World.setCell]; done) | (simp [World.setCell]; omega) | omega) _))))))
              refine any_pure 6 (by decide +kernel) rfl rfl ?_; apply Exists.intro; refine ⟨fun w' => ?_, ?_⟩; (focus (first | (fail) | (go_simp; try exact rfl))); have e0 : True := trivial; clear e0; refine any_putK ?_; intro K hK; go_simp; refine hK _ ?_; clear hK K
              refine any_pure 7 (by decide +kernel) rfl rfl ?_; apply Exists.intro; refine ⟨fun w' => ?_, ?_⟩; (focus (first | (fail) | (go_simp; try exact rfl))); have e0 : True := trivial; clear e0; refine any_putK ?_; intro K hK; go_simp; refine hK _ ?_; clear hK K
              refine any_pure 8 (by decide +kernel) rfl rfl ?_; apply Exists.intro; refine ⟨fun w' => ?_, ?_⟩; (focus (first | (fail) | (go_simp; try exact rfl))); have e0 : True := trivial; clear e0; refine any_putK ?_; intro K hK; go_simp; refine hK _ ?_; clear hK K
              refine any_branch (by decide +kernel) ?_
              simp only [List.size_toArray, List.length_cons, List.length_nil, Nat.zero_add, Nat.reduceAdd]
              repeat' (first | exact lt_zero | refine lt_succ ?_ ?_ | exact any_none (by decide +kernel) | fail)
              · refine any_one rfl rfl rfl ?_
                go_wp2_with (fail)
                refine then_any rfl ?_ ?_; focus (first | (intro h; have h2 : false = true := h; cases h2) | (intro _; show Below _ _ _; first | (with_reducible assumption) | (first | exact Below.mono (by with_reducible assumption) (by first | exact Nat.le_refl _ | (simp [World.setCell]; done) | (simp [World.setCell]; omega) | omega) | (repeat (first | (with_reducible exact Below.refl _ _) | (with_reducible exact below_undrew _ _) | (with_reducible refine Below.drew ?_) | (with_reducible refine Below.alloc ?_ (by first | exact Nat.le_refl _ | (simp [World.setCell]; done) | (simp [World.setCell]; omega) | omega) _))))))
                refine any_pure 11 (by decide +kernel) rfl rfl ?_; apply Exists.intro; refine ⟨fun w' => ?_, ?_⟩; (focus (first | (fail) | (go_simp; try exact rfl))); have e0 : True := trivial; clear e0; refine any_putK ?_; intro K hK; go_simp; refine hK _ ?_; clear hK K
                refine any_end (by decide +kernel) ?_
                go_wp2_with fail
                go_meet
                refine ⟨_, LX, wp3.heap.size, AX, cX, rfl, rfl, Lib.hid ?_, Lib.hid ?_, Lib.hid ?_, ?_, ?_, ?_, ?_, ?_⟩
                · refine ⟨?_, ?_, ?_, fun j => ?_, ?_⟩
                  · go_simp
                  · go_simp
                  · go_simp
                  · go_simp
                  · exact (by first | exact Nat.le_refl _ | (simp [World.setCell]; done) | (simp [World.setCell]; omega) | omega)
                · repeat (first | (with_reducible exact hOX) | (with_reducible refine RowOwn.drew ?_) | (with_reducible refine RowOwn.alloc ?_ _) | (with_reducible refine RowOwn.setC ?_ ?_ _; focus (first | (left; first | omega | (simp; omega) | (simp; done)) | (right; first | omega | (simp; omega) | (simp; done)))))
                · repeat (first | (with_reducible exact Below.refl _ _) | (with_reducible refine Bal ?_ _) | (with_reducible refine Below.drew ?_) | (with_reducible refine below_drewN ?_ _) | (with_reducible refine Bset ?_ ?_ _; focus (first | (with_reducible exact Nat.le_refl _) | (simp; done) | (simp; omega) | omega)) | (with_reducible refine Bt ?_ (by assumption)) | (with_reducible refine Bp (g := g) ?_ (by assumption) (by assumption)))
                · exact (by first | exact Nat.le_refl _ | (simp [World.setCell]; done) | (simp [World.setCell]; omega) | omega)
                · omega
                · omega
                · exact (by first | exact Nat.le_refl _ | (simp [World.setCell]; done) | (simp [World.setCell]; omega) | omega)
                · first | omega | (simp; omega) | (simp; done)
        · refine any_one rfl rfl rfl ?_
          go_wp2_with ((go_at_call 25; refine (toPk_any _ _ _ _ _ _ _).mono ?_; rintro e wp2 ⟨rfl, hbp2⟩; have hzp2 := hbp2.size; (try simp at hzp2); (try (have g0_2 := (bel_cells hbp2 (w0.heap.size) (by first | omega | (simp; omega)) g0_1 f0_1); obtain ⟨g0_2, f0_2⟩ := g0_2; have s0_2 : w0.heap.size < wp2.heap.size := (by omega))); (try (have g1_2 := (bel_cells hbp2 (wp1.heap.size) (by simp) (f := fun o => ([.int .i64 0, .int .i64 0, .slice none 0 0] : List Value)[o]?) (fun o => by simp [go_sem]) (fun o => by simp [go_sem])); obtain ⟨g1_2, f1_2⟩ := g1_2; have s1_2 : wp1.heap.size < wp2.heap.size := (by have := hbp2.size; simp at this; omega)))))
          refine then_any rfl ?_ ?_; focus (first | (intro h; have h2 : false = true := h; cases h2) | (intro _; show Below _ _ _; first | (with_reducible assumption) | (first | exact Below.mono (by with_reducible assumption) (by first | exact Nat.le_refl _ | (simp [World.setCell]; done) | (simp [World.setCell]; omega) | omega) | (repeat (first | (with_reducible exact Below.refl _ _) | (with_reducible exact below_undrew _ _) | (with_reducible refine Below.drew ?_) | (with_reducible refine Below.alloc ?_ (by first | exact Nat.le_refl _ | (simp [World.setCell]; done) | (simp [World.setCell]; omega) | omega) _))))))
          refine any_branch (by decide +kernel) ?_
          simp only [List.size_toArray, List.length_cons, List.length_nil, Nat.zero_add, Nat.reduceAdd]
          repeat' (first | exact lt_zero | refine lt_succ ?_ ?_ | exact any_none (by decide +kernel) | fail)
          · refine any_one rfl rfl rfl ?_
            go_wp2_with (fail)
            refine then_any rfl ?_ ?_; focus (first | (intro h; have h2 : false = true := h; cases h2) | (intro _; show Below _ _ _; first | (with_reducible assumption) | (first | exact Below.mono (by with_reducible assumption) (by first | exact Nat.le_refl _ | (simp [World.setCell]; done) | (simp [World.setCell]; omega) | omega) | (repeat (first | (with_reducible exact Below.refl _ _) | (with_reducible exact below_undrew _ _) | (with_reducible refine Below.drew ?_) | (with_reducible refine Below.alloc ?_ (by first | exact Nat.le_refl _ | (simp [World.setCell]; done) | (simp [World.setCell]; omega) | omega) _))))))
            refine any_branch (by decide +kernel) ?_
            simp only [List.size_toArray, List.length_cons, List.length_nil, Nat.zero_add, Nat.reduceAdd]
            repeat' (first | exact lt_zero | refine lt_succ ?_ ?_ | exact any_none (by decide +kernel) | fail)
            · refine any_one rfl rfl rfl ?_
              go_wp2_with ((go_at_call 24; refine (HS.out _ _ _ _ _ (RowOwn.row (RowOwn.below (Nat.le_refl _) hOT (by repeat (first | (with_reducible exact Below.refl _ _) | (with_reducible refine Bal ?_ _) | (with_reducible refine Below.drew ?_) | (with_reducible refine below_drewN ?_ _) | (with_reducible refine Bset ?_ ?_ _; focus (first | (with_reducible exact Nat.le_refl _) | (simp; done) | (simp; omega) | omega)) | (with_reducible refine Bt ?_ (by assumption)) | (with_reducible refine Bp (g := g) ?_ (by assumption) (by assumption)))))) (by first | exact Nat.le_refl _ | (simp; done) | (simp; omega) | omega) (own_le hOT)).mono ?_; rintro e wp3 ⟨AX, cX, hO, rfl, hbp3⟩; obtain ⟨LX, hLX, hOX⟩ : ∃ L : Nat, L = _ ∧ RowOwn 54 wp3 L wp3.heap.size AX nn cX 7 (HdF qq) := ⟨_, rfl, hO⟩; (try simp at hLX); clear hO; have hzp3 := hbp3.size; (try simp at hzp3); (try (have g0_3 := (bel_cells hbp3 (w0.heap.size) (by first | omega | (simp; omega)) g0_2 f0_2); obtain ⟨g0_3, f0_3⟩ := g0_3; have s0_3 : w0.heap.size < wp3.heap.size := (by omega))); (try (have g1_3 := (bel_cells hbp3 (wp1.heap.size) (by first | omega | (simp; omega)) g1_2 f1_2); obtain ⟨g1_3, f1_3⟩ := g1_3; have s1_3 : wp1.heap.size < wp3.heap.size := (by omega))); (try (have g2_3 := (bel_cells hbp3 (wp2.heap.size) (by simp) (f := fun o => ([.int .i64 0, .int .i64 0, .slice none 0 0] : List Value)[o]?) (fun o => by simp [go_sem]) (fun o => by simp [go_sem])); obtain ⟨g2_3, f2_3⟩ := g2_3; have s2_3 : wp2.heap.size < wp3.heap.size := (by have := hbp3.size; simp at this; omega)))))
              refine then_any rfl ?_ ?_; focus (first | (intro h; have h2 : false = true := h; cases h2) | (intro _; show Below _ _ _; first | (with_reducible assumption) | (first | exact Below.mono (by with_reducible assumption) (by first | exact Nat.le_refl _ | (simp [World.setCell]; done) | (simp [World.setCell]; omega) | omega) | (repeat (first | (with_reducible exact Below.refl _ _) | (with_reducible exact below_undrew _ _) | (with_reducible refine Below.drew ?_) | (with_reducible refine Below.alloc ?_ (by first | exact Nat.le_refl _ | (simp [World.setCell]; done) | (simp [World.setCell]; omega) | omega) _))))))
              refine any_pure 6 (by decide +kernel) rfl rfl ?_; apply Exists.intro; refine ⟨fun w' => ?_, ?_⟩; (focus (first | (fail) | (go_simp; try exact rfl))); have e0 : True := trivial; clear e0; refine any_putK ?_; intro K hK; go_simp; refine hK _ ?_; clear hK K
              refine any_pure 7 (by decide +kernel) rfl rfl ?_; apply Exists.intro; refine ⟨fun w' => ?_, ?_⟩; (focus (first | (fail) | (go_simp; try exact rfl))); have e0 : True := trivial; clear e0; refine any_putK ?_; intro K hK; go_simp; refine hK _ ?_; clear hK K
              refine any_pure 8 (by decide +kernel) rfl rfl ?_; apply Exists.intro; refine ⟨fun w' => ?_, ?_⟩; (focus (first | (fail) | (go_simp; try exact rfl))); have e0 : True := trivial; clear e0; refine any_putK ?_; intro K hK; go_simp; refine hK _ ?_; clear hK K
              refine any_branch (by decide +kernel) ?_
              simp only [List.size_toArray, List.length_cons, List.length_nil, Nat.zero_add, Nat.reduceAdd]
              repeat' (first | exact lt_zero | refine lt_succ ?_ ?_ | exact any_none (by decide +kernel) | fail)
              · refine any_one rfl rfl rfl ?_
                go_wp2_with (fail)
                refine then_any rfl ?_ ?_; focus (first | (intro h; have h2 : false = true := h; cases h2) | (intro _; show Below _ _ _; first | (with_reducible assumption) | (first | exact Below.mono (by with_reducible assumption) (by first | exact Nat.le_refl _ | (simp [World.setCell]; done) | (simp [World.setCell]; omega) | omega) | (repeat (first | (with_reducible exact Below.refl _ _) | (with_reducible exact below_undrew _ _) | (with_reducible refine Below.drew ?_) | (with_reducible refine Below.alloc ?_ (by first | exact Nat.le_refl _ | (simp [World.setCell]; done) | (simp [World.setCell]; omega) | omega) _))))))
                refine any_pure 11 (by decide +kernel) rfl rfl ?_; apply Exists.intro; refine ⟨fun w' => ?_, ?_⟩; (focus (first | (fail) | (go_simp; try exact rfl))); have e0 : True := trivial; clear e0; refine any_putK ?_; intro K hK; go_simp; refine hK _ ?_; clear hK K
                refine any_end (by decide +kernel) ?_
                go_wp2_with fail
                go_meet
                refine ⟨_, LX, wp3.heap.size, AX, cX, rfl, rfl, Lib.hid ?_, Lib.hid ?_, Lib.hid ?_, ?_, ?_, ?_, ?_, ?_⟩
                · refine ⟨?_, ?_, ?_, fun j => ?_, ?_⟩
                  · go_simp
                  · go_simp
                  · go_simp
                  · go_simp
                  · exact (by first | exact Nat.le_refl _ | (simp [World.setCell]; done) | (simp [World.setCell]; omega) | omega)
                · repeat (first | (with_reducible exact hOX) | (with_reducible refine RowOwn.drew ?_) | (with_reducible refine RowOwn.alloc ?_ _) | (with_reducible refine RowOwn.setC ?_ ?_ _; focus (first | (left; first | omega | (simp; omega) | (simp; done)) | (right; first | omega | (simp; omega) | (simp; done)))))
                · repeat (first | (with_reducible exact Below.refl _ _) | (with_reducible refine Bal ?_ _) | (with_reducible refine Below.drew ?_) | (with_reducible refine below_drewN ?_ _) | (with_reducible refine Bset ?_ ?_ _; focus (first | (with_reducible exact Nat.le_refl _) | (simp; done) | (simp; omega) | omega)) | (with_reducible refine Bt ?_ (by assumption)) | (with_reducible refine Bp (g := g) ?_ (by assumption) (by assumption)))
                · exact (by first | exact Nat.le_refl _ | (simp [World.setCell]; done) | (simp [World.setCell]; omega) | omega)
                · omega
                · omega
                · exact (by first | exact Nat.le_refl _ | (simp [World.setCell]; done) | (simp [World.setCell]; omega) | omega)
                · first | omega | (simp; omega) | (simp; done)
          · refine any_one rfl rfl rfl ?_
            go_wp2_with ((go_at_call 24; refine (HS.out _ _ _ _ _ (RowOwn.row (RowOwn.below (Nat.le_refl _) hOT (by repeat (first | (with_reducible exact Below.refl _ _) | (with_reducible refine Bal ?_ _) | (with_reducible refine Below.drew ?_) | (with_reducible refine below_drewN ?_ _) | (with_reducible refine Bset ?_ ?_ _; focus (first | (with_reducible exact Nat.le_refl _) | (simp; done) | (simp; omega) | omega)) | (with_reducible refine Bt ?_ (by assumption)) | (with_reducible refine Bp (g := g) ?_ (by assumption) (by assumption)))))) (by first | exact Nat.le_refl _ | (simp; done) | (simp; omega) | omega) (own_le hOT)).mono ?_; rintro e wp3 ⟨AX, cX, hO, rfl, hbp3⟩; obtain ⟨LX, hLX, hOX⟩ : ∃ L : Nat, L = _ ∧ RowOwn 54 wp3 L wp3.heap.size AX nn cX 7 (HdF qq) := ⟨_, rfl, hO⟩; (try simp at hLX); clear hO; have hzp3 := hbp3.size; (try simp at hzp3); (try (have g0_3 := (bel_cells hbp3 (w0.heap.size) (by first | omega | (simp; omega)) g0_2 f0_2); obtain ⟨g0_3, f0_3⟩ := g0_3; have s0_3 : w0.heap.size < wp3.heap.size := (by omega))); (try (have g1_3 := (bel_cells hbp3 (wp1.heap.size) (by first | omega | (simp; omega)) g1_2 f1_2); obtain ⟨g1_3, f1_3⟩ := g1_3; have s1_3 : wp1.heap.size < wp3.heap.size := (by omega))); (try (have g2_3 := (bel_cells hbp3 (wp2.heap.size) (by simp) (f := fun o => ([.int .i64 0, .int .i64 0, .slice none 0 0] : List Value)[o]?) (fun o => by simp [go_sem]) (fun o => by simp [go_sem])); obtain ⟨g2_3, f2_3⟩ := g2_3; have s2_3 : wp2.heap.size < wp3.heap.size := (by have := hbp3.size; simp at this; omega)))))
            refine then_any rfl ?_ ?_; focus (first | (intro h; have h2 : false = true := h; cases h2) | (intro _; show Below _ _ _; first | (with_reducible assumption) | (first | exact Below.mono (by with_reducible assumption) (by first | exact Nat.le_refl _ | (simp [World.setCell]; done) | (simp [World.setCell]; omega) | omega) | (repeat (first | (with_reducible exact Below.refl _ _) | (with_reducible exact below_undrew _ _) | (with_reducible refine Below.drew ?_) | (with_reducible refine Below.alloc ?_ (by first | exact Nat.le_refl _ | (simp [World.setCell]; done) | (simp [World.setCell]; omega) | omega) _))))))
            refine any_pure 6 (by decide +kernel) rfl rfl ?_; apply Exists.intro; refine ⟨fun w' => ?_, ?_⟩; (focus (first | (fail) | (go_simp; try exact rfl))); have e0 : True := trivial; clear e0; refine any_putK ?_; intro K hK; go_simp; refine hK _ ?_; clear hK K
            refine any_pure 7 (by decide +kernel) rfl rfl ?_; apply Exists.intro; refine ⟨fun w' => ?_, ?_⟩; (focus (first | (fail) | (go_simp; try exact rfl))); have e0 : True := trivial; clear e0; refine any_putK ?_; intro K hK; go_simp; refine hK _ ?_; clear hK K
            refine any_pure 8 (by decide +kernel) rfl rfl ?_; apply Exists.intro; refine ⟨fun w' => ?_, ?_⟩; (focus (first | (fail) | (go_simp; try exact rfl))); have e0 : True := trivial; clear e0; refine any_putK ?_; intro K hK; go_simp; refine hK _ ?_; clear hK K
            refine any_branch (by decide +kernel) ?_
            simp only [List.size_toArray, List.length_cons, List.length_nil, Nat.zero_add, Nat.reduceAdd]
            repeat' (first | exact lt_zero | refine lt_succ ?_ ?_ | exact any_none (by decide +kernel) | fail)
            · refine any_one rfl rfl rfl ?_
              go_wp2_with (fail)
              refine then_any rfl ?_ ?_; focus (first | (intro h; have h2 : false = true := h; cases h2) | (intro _; show Below _ _ _; first | (with_reducible assumption) | (first | exact Below.mono (by with_reducible assumption) (by first | exact Nat.le_refl _ | (simp [World.setCell]; done) | (simp [World.setCell]; omega) | omega) | (repeat (first | (with_reducible exact Below.refl _ _) | (with_reducible exact below_undrew _ _) | (with_reducible refine Below.drew ?_) | (with_reducible refine Below.alloc ?_ (by first | exact Nat.le_refl _ | (simp [World.setCell]; done) | (simp [World.setCell]; omega) | omega) _))))))
              refine any_branch (by decide +kernel) ?_
              simp only [List.size_toArray, List.length_cons, List.length_nil, Nat.zero_add, Nat.reduceAdd]
              repeat' (first | exact lt_zero | refine lt_succ ?_ ?_ | exact any_none (by decide +kernel) | fail)
              · refine any_one rfl rfl rfl ?_
                go_wp2_with (fail)
                refine then_any rfl ?_ ?_; focus (first | (intro h; have h2 : false = true := h; cases h2) | (intro _; show Below _ _ _; first | (with_reducible assumption) | (first | exact Below.mono (by with_reducible assumption) (by first | exact Nat.le_refl _ | (simp [World.setCell]; done) | (simp [World.setCell]; omega) | omega) | (repeat (first | (with_reducible exact Below.refl _ _) | (with_reducible exact below_undrew _ _) | (with_reducible refine Below.drew ?_) | (with_reducible refine Below.alloc ?_ (by first | exact Nat.le_refl _ | (simp [World.setCell]; done) | (simp [World.setCell]; omega) | omega) _))))))
                refine any_pure 11 (by decide +kernel) rfl rfl ?_; apply Exists.intro; refine ⟨fun w' => ?_, ?_⟩; (focus (first | (fail) | (go_simp; try exact rfl))); have e0 : True := trivial; clear e0; refine any_putK ?_; intro K hK; go_simp; refine hK _ ?_; clear hK K
                refine any_end (by decide +kernel) ?_
                go_wp2_with fail
                go_meet
                refine ⟨_, LX, wp3.heap.size, AX, cX, rfl, rfl, Lib.hid ?_, Lib.hid ?_, Lib.hid ?_, ?_, ?_, ?_, ?_, ?_⟩
                · refine ⟨?_, ?_, ?_, fun j => ?_, ?_⟩
                  · go_simp
                  · go_simp
                  · go_simp
                  · go_simp
                  · exact (by first | exact Nat.le_refl _ | (simp [World.setCell]; done) | (simp [World.setCell]; omega) | omega)
                · repeat (first | (with_reducible exact hOX) | (with_reducible refine RowOwn.drew ?_) | (with_reducible refine RowOwn.alloc ?_ _) | (with_reducible refine RowOwn.setC ?_ ?_ _; focus (first | (left; first | omega | (simp; omega) | (simp; done)) | (right; first | omega | (simp; omega) | (simp; done)))))
                · repeat (first | (with_reducible exact Below.refl _ _) | (with_reducible refine Bal ?_ _) | (with_reducible refine Below.drew ?_) | (with_reducible refine below_drewN ?_ _) | (with_reducible refine Bset ?_ ?_ _; focus (first | (with_reducible exact Nat.le_refl _) | (simp; done) | (simp; omega) | omega)) | (with_reducible refine Bt ?_ (by assumption)) | (with_reducible refine Bp (g := g) ?_ (by assumption) (by assumption)))
                · exact (by first | exact Nat.le_refl _ | (simp [World.setCell]; done) | (simp [World.setCell]; omega) | omega)
                · omega
                · omega
                · exact (by first | exact Nat.le_refl _ | (simp [World.setCell]; done) | (simp [World.setCell]; omega) | omega)
                · first | omega | (simp; omega) | (simp; done)
    case rest =>
      obtain ⟨b2, L2, H2, A2, c2, rfl, rfl, HX, HO, HW, q1, q2, q3, q4, q5⟩ := hcut
      obtain ⟨w2, rfl⟩ : ∃ v, v = wc := ⟨_, rfl⟩
      have hw2 := HW.out
      have hz2 : w0.heap.size ≤ w2.heap.size := hw2.size
      have l2_0 : w.heap.size < w2.heap.size := by omega
      have g2_0_0 : w2.cell? ⟨w.heap.size, 0, none⟩ = some (.int .i64 y) := (hw2.cell (p := ⟨w.heap.size, 0, none⟩) l0_0).trans g0_0_0
      have g2_0_1 : w2.cell? ⟨w.heap.size, 1, none⟩ = some (.int .i64 d) := (hw2.cell (p := ⟨w.heap.size, 1, none⟩) l0_0).trans g0_0_1
      have g2_0_2 : w2.cell? ⟨w.heap.size, 2, none⟩ = some (.slice A n c) := (hw2.cell (p := ⟨w.heap.size, 2, none⟩) l0_0).trans g0_0_2
      have l2_1 : w.heap.size + 1 < w2.heap.size := by omega
      have g2_1_0 : w2.cell? ⟨w.heap.size + 1, 0, none⟩ = some (.int .i64 pa) := (hw2.cell (p := ⟨w.heap.size + 1, 0, none⟩) l0_1).trans g0_1_0
      have g2_1_1 : w2.cell? ⟨w.heap.size + 1, 1, none⟩ = some (.int .i64 pb) := (hw2.cell (p := ⟨w.heap.size + 1, 1, none⟩) l0_1).trans g0_1_1
      have g2_1_2 : w2.cell? ⟨w.heap.size + 1, 2, none⟩ = some (.int .i64 pc) := (hw2.cell (p := ⟨w.heap.size + 1, 2, none⟩) l0_1).trans g0_1_2
      have g2_1_3 : w2.cell? ⟨w.heap.size + 1, 3, none⟩ = some (.int .i64 pd) := (hw2.cell (p := ⟨w.heap.size + 1, 3, none⟩) l0_1).trans g0_1_3
      have g2_1_4 : w2.cell? ⟨w.heap.size + 1, 4, none⟩ = some (.bool pk) := (hw2.cell (p := ⟨w.heap.size + 1, 4, none⟩) l0_1).trans g0_1_4
      have g2_1_5 : w2.cell? ⟨w.heap.size + 1, 5, none⟩ = some (.bool pz) := (hw2.cell (p := ⟨w.heap.size + 1, 5, none⟩) l0_1).trans g0_1_5
      have HB2 := Lib.hid (HB0.out.trans (hw2.mono HB0.out.size))
      have Ha_2 := Lib.hid (Ha_0.out.below (by omega) hw2)
      obtain ⟨g2_2_0, g2_2_1, g2_2_2, fX, l2_2⟩ := HX.out
      clear fX HX HW hw2
      have B2 := l2_2
      have Hs_2 := HO
      clear HO
      clear l0_0 g0_0_0 g0_0_1 g0_0_2
      clear l0_1 g0_1_0 g0_1_1 g0_1_2 g0_1_3 g0_1_4 g0_1_5
      clear Ha_0
      clear HB0
      go_wp2_with fail
      refine (toBf_any _ 0 w.heap.size A n c y d q (Ha_2.out.below (B := w2.heap.size) (by omega) (by repeat (first | (with_reducible exact Below.refl _ _) | (with_reducible refine Bal ?_ _) | (with_reducible refine Below.drew ?_) | (with_reducible refine below_drewN ?_ _) | (with_reducible refine Bset ?_ ?_ _; focus (first | (with_reducible exact Nat.le_refl _) | (simp; done) | (simp; omega) | omega)) | (with_reducible refine Bt ?_ (by assumption)) | (with_reducible refine Bp (g := g) ?_ (by assumption) (by assumption))))) (by first | exact Nat.le_refl _ | (simp; done) | (simp; omega) | omega) hn).mono ?_
      rintro e w3 ⟨A3, c3, hO, rfl, hb3⟩
      obtain ⟨L3, hL3, hO3⟩ : ∃ L : Nat, L = _ ∧ RowOwn 54 w3 L w3.heap.size A3 n c3 7 (HdF q) := ⟨_, rfl, hO⟩
      try simp at hL3
      clear hO
      have hw3 : Below w2.heap.size w2 w3 := by repeat (first | (with_reducible exact Below.refl _ _) | (with_reducible refine Bal ?_ _) | (with_reducible refine Below.drew ?_) | (with_reducible refine below_drewN ?_ _) | (with_reducible refine Bset ?_ ?_ _; focus (first | (with_reducible exact Nat.le_refl _) | (simp; done) | (simp; omega) | omega)) | (with_reducible refine Bt ?_ (by assumption)) | (with_reducible refine Bp (g := g) ?_ (by assumption) (by assumption)))
      have hz3 : w2.heap.size ≤ w3.heap.size := hw3.size
      obtain ⟨hc3, hf3⟩ := bcell hb3
      have hy3 := hb3.size
      try simp at hy3
      have l3_0 : w.heap.size < w3.heap.size := by omega
      have g3_0_0 : w3.cell? ⟨w.heap.size, 0, none⟩ = some (.int .i64 y) := (hw3.cell (p := ⟨w.heap.size, 0, none⟩) l2_0).trans g2_0_0
      have g3_0_1 : w3.cell? ⟨w.heap.size, 1, none⟩ = some (.int .i64 d) := (hw3.cell (p := ⟨w.heap.size, 1, none⟩) l2_0).trans g2_0_1
      have g3_0_2 : w3.cell? ⟨w.heap.size, 2, none⟩ = some (.slice A n c) := (hw3.cell (p := ⟨w.heap.size, 2, none⟩) l2_0).trans g2_0_2
      have l3_1 : w.heap.size + 1 < w3.heap.size := by omega
      have g3_1_0 : w3.cell? ⟨w.heap.size + 1, 0, none⟩ = some (.int .i64 pa) := (hw3.cell (p := ⟨w.heap.size + 1, 0, none⟩) l2_1).trans g2_1_0
      have g3_1_1 : w3.cell? ⟨w.heap.size + 1, 1, none⟩ = some (.int .i64 pb) := (hw3.cell (p := ⟨w.heap.size + 1, 1, none⟩) l2_1).trans g2_1_1
      have g3_1_2 : w3.cell? ⟨w.heap.size + 1, 2, none⟩ = some (.int .i64 pc) := (hw3.cell (p := ⟨w.heap.size + 1, 2, none⟩) l2_1).trans g2_1_2
      have g3_1_3 : w3.cell? ⟨w.heap.size + 1, 3, none⟩ = some (.int .i64 pd) := (hw3.cell (p := ⟨w.heap.size + 1, 3, none⟩) l2_1).trans g2_1_3
      have g3_1_4 : w3.cell? ⟨w.heap.size + 1, 4, none⟩ = some (.bool pk) := (hw3.cell (p := ⟨w.heap.size + 1, 4, none⟩) l2_1).trans g2_1_4
      have g3_1_5 : w3.cell? ⟨w.heap.size + 1, 5, none⟩ = some (.bool pz) := (hw3.cell (p := ⟨w.heap.size + 1, 5, none⟩) l2_1).trans g2_1_5
      have l3_2 : b2 < w3.heap.size := by omega
      have g3_2_0 : w3.cell? ⟨b2, 0, none⟩ = some (.int .i64 yy) := (hw3.cell (p := ⟨b2, 0, none⟩) l2_2).trans g2_2_0
      have g3_2_1 : w3.cell? ⟨b2, 1, none⟩ = some (.int .i64 dd) := (hw3.cell (p := ⟨b2, 1, none⟩) l2_2).trans g2_2_1
      have g3_2_2 : w3.cell? ⟨b2, 2, none⟩ = some (.slice A2 nn c2) := (hw3.cell (p := ⟨b2, 2, none⟩) l2_2).trans g2_2_2
      have HB3 := Lib.hid (HB2.out.trans (hw3.mono HB2.out.size))
      have Ha_3 := Lib.hid (Ha_2.out.below (by omega) hw3)
      have Hs_3 := Lib.hid (Hs_2.out.below (by omega) hw3)
      clear hb3 hc3 hf3 hw3
      clear l2_0 g2_0_0 g2_0_1 g2_0_2
      clear l2_1 g2_1_0 g2_1_1 g2_1_2 g2_1_3 g2_1_4 g2_1_5
      clear l2_2 g2_2_0 g2_2_1 g2_2_2
      clear Ha_2
      clear Hs_2
      clear HB2
      have M3 := Nat.le_of_eq hL3.symm
      have N3 : L3 ≤ w3.heap.size := by omega
      clear hL3
      have Hx_3 := Lib.hid hO3
      clear hO3
      go_upto_region 7 with fail
      obtain ⟨w4, hw4e⟩ : ∃ v, v = w3.alloc (.cells #[.int .i64 y, .int .i64 d, .slice A3 n c3] 28) := ⟨_, rfl⟩
      have hw4 : Below w3.heap.size w3 w4 := by rw [hw4e]; exact Ba _ _
      have hz4 : w3.heap.size < w4.heap.size := by rw [hw4e]; simp
      have l4_0 : w.heap.size < w4.heap.size := by omega
      have g4_0_0 : w4.cell? ⟨w.heap.size, 0, none⟩ = some (.int .i64 y) := (hw4.cell (p := ⟨w.heap.size, 0, none⟩) l3_0).trans g3_0_0
      have g4_0_1 : w4.cell? ⟨w.heap.size, 1, none⟩ = some (.int .i64 d) := (hw4.cell (p := ⟨w.heap.size, 1, none⟩) l3_0).trans g3_0_1
      have g4_0_2 : w4.cell? ⟨w.heap.size, 2, none⟩ = some (.slice A n c) := (hw4.cell (p := ⟨w.heap.size, 2, none⟩) l3_0).trans g3_0_2
      have l4_1 : w.heap.size + 1 < w4.heap.size := by omega
      have g4_1_0 : w4.cell? ⟨w.heap.size + 1, 0, none⟩ = some (.int .i64 pa) := (hw4.cell (p := ⟨w.heap.size + 1, 0, none⟩) l3_1).trans g3_1_0
      have g4_1_1 : w4.cell? ⟨w.heap.size + 1, 1, none⟩ = some (.int .i64 pb) := (hw4.cell (p := ⟨w.heap.size + 1, 1, none⟩) l3_1).trans g3_1_1
      have g4_1_2 : w4.cell? ⟨w.heap.size + 1, 2, none⟩ = some (.int .i64 pc) := (hw4.cell (p := ⟨w.heap.size + 1, 2, none⟩) l3_1).trans g3_1_2
      have g4_1_3 : w4.cell? ⟨w.heap.size + 1, 3, none⟩ = some (.int .i64 pd) := (hw4.cell (p := ⟨w.heap.size + 1, 3, none⟩) l3_1).trans g3_1_3
      have g4_1_4 : w4.cell? ⟨w.heap.size + 1, 4, none⟩ = some (.bool pk) := (hw4.cell (p := ⟨w.heap.size + 1, 4, none⟩) l3_1).trans g3_1_4
      have g4_1_5 : w4.cell? ⟨w.heap.size + 1, 5, none⟩ = some (.bool pz) := (hw4.cell (p := ⟨w.heap.size + 1, 5, none⟩) l3_1).trans g3_1_5
      have l4_2 : b2 < w4.heap.size := by omega
      have g4_2_0 : w4.cell? ⟨b2, 0, none⟩ = some (.int .i64 yy) := (hw4.cell (p := ⟨b2, 0, none⟩) l3_2).trans g3_2_0
      have g4_2_1 : w4.cell? ⟨b2, 1, none⟩ = some (.int .i64 dd) := (hw4.cell (p := ⟨b2, 1, none⟩) l3_2).trans g3_2_1
      have g4_2_2 : w4.cell? ⟨b2, 2, none⟩ = some (.slice A2 nn c2) := (hw4.cell (p := ⟨b2, 2, none⟩) l3_2).trans g3_2_2
      have l4_3 : w3.heap.size < w4.heap.size := by omega
      have g4_3_0 : w4.cell? ⟨w3.heap.size, 0, none⟩ = some (.int .i64 y) := by rw [hw4e]; go_simp; try rfl
      have g4_3_1 : w4.cell? ⟨w3.heap.size, 1, none⟩ = some (.int .i64 d) := by rw [hw4e]; go_simp; try rfl
      have g4_3_2 : w4.cell? ⟨w3.heap.size, 2, none⟩ = some (.slice A3 n c3) := by rw [hw4e]; go_simp; try rfl
      have HB4 := Lib.hid (HB3.out.trans (hw4.mono HB3.out.size))
      have Ha_4 := Lib.hid (Ha_3.out.below (by omega) hw4)
      have Hs_4 := Lib.hid (Hs_3.out.below (by omega) hw4)
      have Hx_4 := Lib.hid (Hx_3.out.below (by omega) hw4)
      rw [← hw4e]
      clear hw4 hw4e
      clear l3_0 g3_0_0 g3_0_1 g3_0_2
      clear l3_1 g3_1_0 g3_1_1 g3_1_2 g3_1_3 g3_1_4 g3_1_5
      clear l3_2 g3_2_0 g3_2_1 g3_2_2
      clear Ha_3
      clear Hs_3
      clear Hx_3
      clear HB3
      go_upto_region 7 with fail
      go_cut [11, 12] (fun s8 s9 wx => ∃ (b8 L2 H2 : Nat) (A2 : Option Addr) (c2 : Nat), s8 = .pointer (some ⟨b8, 0, none⟩) ∧ s9 = .int .i64 k ∧ Hid (Bx wx b8 yy dd A2 nn c2) ∧ Hid (RowOwn 54 wx L2 H2 A2 nn c2 7 (HdF qq)) ∧ Hid (Below w4.heap.size w4 wx) ∧ w4.heap.size ≤ b8 ∧ w4.heap.size ≤ L2 ∧ L2 ≤ H2 ∧ H2 ≤ wx.heap.size ∧ (b8 < L2 ∨ H2 ≤ b8))
      case first =>
        have hgd : ∀ W : World, W.drew.heap.size = W.heap.size := fun _ => rfl
        refine wp_region_anyR (R := fun a b => Below (w4.heap.size) a b) (by kernel_rfl) (fun w => Below.refl _ _) (fun _ _ _ h k => Below.trans h k) (by kernel_rfl) ?_
        simp only [List.size_toArray, List.length_cons, List.length_nil, Nat.zero_add, Nat.reduceAdd]
        refine any_read 0 (by decide +kernel) rfl rfl rfl ?_; apply Exists.intro; refine ⟨fun w' hb' => ?_, ?_⟩; (focus (obtain ⟨hc', hf'⟩ := below_cells hb'; clear hb'; go_simp; try exact rfl)); have e0 : True := trivial; clear e0; refine any_putK ?_; intro K hK; go_simp; refine hK _ ?_; clear hK K
        refine any_read 1 (by decide +kernel) rfl rfl rfl ?_; apply Exists.intro; refine ⟨fun w' hb' => ?_, ?_⟩; (focus (obtain ⟨hc', hf'⟩ := below_cells hb'; clear hb'; go_simp; try exact rfl)); have e0 : True := trivial; clear e0; refine any_putK ?_; intro K hK; go_simp; refine hK _ ?_; clear hK K
        refine any_pure 3 (by decide +kernel) rfl rfl ?_; apply Exists.intro; refine ⟨fun w' => ?_, ?_⟩; (focus (first | (fail) | (go_simp; try exact rfl))); have e0 : True := trivial; clear e0; refine any_putK ?_; intro K hK; go_simp; refine hK _ ?_; clear hK K
        refine any_branch (by decide +kernel) ?_
        simp only [List.size_toArray, List.length_cons, List.length_nil, Nat.zero_add, Nat.reduceAdd]
        repeat' (first | exact lt_zero | refine lt_succ ?_ ?_ | exact any_none (by decide +kernel) | fail)
        · refine any_one rfl rfl rfl ?_
          go_wp2_with (fail)
          refine then_any rfl ?_ ?_; focus (first | (intro h; have h2 : false = true := h; cases h2) | (intro _; show Below _ _ _; first | (with_reducible assumption) | (first | exact Below.mono (by with_reducible assumption) (by first | exact Nat.le_refl _ | (simp [World.setCell]; done) | (simp [World.setCell]; omega) | omega) | (repeat (first | (with_reducible exact Below.refl _ _) | (with_reducible exact below_undrew _ _) | (with_reducible refine Below.drew ?_) | (with_reducible refine Below.alloc ?_ (by first | exact Nat.le_refl _ | (simp [World.setCell]; done) | (simp [World.setCell]; omega) | omega) _))))))
          refine any_branch (by decide +kernel) ?_
          simp only [List.size_toArray, List.length_cons, List.length_nil, Nat.zero_add, Nat.reduceAdd]
          repeat' (first | exact lt_zero | refine lt_succ ?_ ?_ | exact any_none (by decide +kernel) | fail)
          · refine any_one rfl rfl rfl ?_
            go_wp2_with ((go_at_call 25; refine (toPk_any _ _ _ _ _ _ _).mono ?_; rintro e wp1 ⟨rfl, hbp1⟩; have hzp1 := hbp1.size; (try simp at hzp1); (try (have g0_1 := (bel_cells hbp1 (w4.heap.size) (by simp) (f := fun o => ([.int .i64 0, .int .i64 0, .slice none 0 0] : List Value)[o]?) (fun o => by simp [go_sem]) (fun o => by simp [go_sem])); obtain ⟨g0_1, f0_1⟩ := g0_1; have s0_1 : w4.heap.size < wp1.heap.size := (by have := hbp1.size; simp at this; omega)))))
            refine then_any rfl ?_ ?_; focus (first | (intro h; have h2 : false = true := h; cases h2) | (intro _; show Below _ _ _; first | (with_reducible assumption) | (first | exact Below.mono (by with_reducible assumption) (by first | exact Nat.le_refl _ | (simp [World.setCell]; done) | (simp [World.setCell]; omega) | omega) | (repeat (first | (with_reducible exact Below.refl _ _) | (with_reducible exact below_undrew _ _) | (with_reducible refine Below.drew ?_) | (with_reducible refine Below.alloc ?_ (by first | exact Nat.le_refl _ | (simp [World.setCell]; done) | (simp [World.setCell]; omega) | omega) _))))))
            refine any_branch (by decide +kernel) ?_
            simp only [List.size_toArray, List.length_cons, List.length_nil, Nat.zero_add, Nat.reduceAdd]
            repeat' (first | exact lt_zero | refine lt_succ ?_ ?_ | exact any_none (by decide +kernel) | fail)
            · refine any_one rfl rfl rfl ?_
              go_wp2_with ((go_at_call 26; refine (HI.out _ _ _ _ _ (RowOwn.row (Hx_4.out.below (B := w4.heap.size) (by omega) (by repeat (first | (with_reducible exact Below.refl _ _) | (with_reducible refine Bal ?_ _) | (with_reducible refine Below.drew ?_) | (with_reducible refine below_drewN ?_ _) | (with_reducible refine Bset ?_ ?_ _; focus (first | (with_reducible exact Nat.le_refl _) | (simp; done) | (simp; omega) | omega)) | (with_reducible refine Bt ?_ (by assumption)) | (with_reducible refine Bp (g := g) ?_ (by assumption) (by assumption)))))) (by first | exact Nat.le_refl _ | (simp; done) | (simp; omega) | omega)).mono ?_; rintro e wp2 ⟨AX, cX, hO, rfl, hbp2⟩; obtain ⟨LX, hLX, hOX⟩ : ∃ L : Nat, L = _ ∧ RowOwn 54 wp2 L wp2.heap.size AX nn cX 7 (HdF qq) := ⟨_, rfl, hO⟩; (try simp at hLX); clear hO; have hzp2 := hbp2.size; (try simp at hzp2); (try (have g0_2 := (bel_cells hbp2 (w4.heap.size) (by first | omega | (simp; omega)) g0_1 f0_1); obtain ⟨g0_2, f0_2⟩ := g0_2; have s0_2 : w4.heap.size < wp2.heap.size := (by omega))); (try (have g1_2 := (bel_cells hbp2 (wp1.heap.size) (by simp) (f := fun o => ([.int .i64 0, .int .i64 0, .slice none 0 0] : List Value)[o]?) (fun o => by simp [go_sem]) (fun o => by simp [go_sem])); obtain ⟨g1_2, f1_2⟩ := g1_2; have s1_2 : wp1.heap.size < wp2.heap.size := (by have := hbp2.size; simp at this; omega)))))
              refine then_any rfl ?_ ?_; focus (first | (intro h; have h2 : false = true := h; cases h2) | (intro _; show Below _ _ _; first | (with_reducible assumption) | (first | exact Below.mono (by with_reducible assumption) (by first | exact Nat.le_refl _ | (simp [World.setCell]; done) | (simp [World.setCell]; omega) | omega) | (repeat (first | (with_reducible exact Below.refl _ _) | (with_reducible exact below_undrew _ _) | (with_reducible refine Below.drew ?_) | (with_reducible refine Below.alloc ?_ (by first | exact Nat.le_refl _ | (simp [World.setCell]; done) | (simp [World.setCell]; omega) | omega) _))))))
              refine any_pure 5 (by decide +kernel) rfl rfl ?_; apply Exists.intro; refine ⟨fun w' => ?_, ?_⟩; (focus (first | (fail) | (go_simp; try exact rfl))); have e0 : True := trivial; clear e0; refine any_putK ?_; intro K hK; go_simp; refine hK _ ?_; clear hK K
              refine any_pure 6 (by decide +kernel) rfl rfl ?_; apply Exists.intro; refine ⟨fun w' => ?_, ?_⟩; (focus (first | (fail) | (go_simp; try exact rfl))); have e0 : True := trivial; clear e0; refine any_putK ?_; intro K hK; go_simp; refine hK _ ?_; clear hK K
              refine any_pure 7 (by decide +kernel) rfl rfl ?_; apply Exists.intro; refine ⟨fun w' => ?_, ?_⟩; (focus (first | (fail) | (go_simp; try exact rfl))); have e0 : True := trivial; clear e0; refine any_putK ?_; intro K hK; go_simp; refine hK _ ?_; clear hK K
              refine any_branch (by decide +kernel) ?_
              simp only [List.size_toArray, List.length_cons, List.length_nil, Nat.zero_add, Nat.reduceAdd]
              repeat' (first | exact lt_zero | refine lt_succ ?_ ?_ | exact any_none (by decide +kernel) | fail)
              · refine any_one rfl rfl rfl ?_
                go_wp2_with (fail)
                refine then_any rfl ?_ ?_; focus (first | (intro h; have h2 : false = true := h; cases h2) | (intro _; show Below _ _ _; first | (with_reducible assumption) | (first | exact Below.mono (by with_reducible assumption) (by first | exact Nat.le_refl _ | (simp [World.setCell]; done) | (simp [World.setCell]; omega) | omega) | (repeat (first | (with_reducible exact Below.refl _ _) | (with_reducible exact below_undrew _ _) | (with_reducible refine Below.drew ?_) | (with_reducible refine Below.alloc ?_ (by first | exact Nat.le_refl _ | (simp [World.setCell]; done) | (simp [World.setCell]; omega) | omega) _))))))
                refine any_pure 10 (by decide +kernel) rfl rfl ?_; apply Exists.intro; refine ⟨fun w' => ?_, ?_⟩; (focus (first | (fail) | (go_simp; try exact rfl))); have e0 : True := trivial; clear e0; refine any_putK ?_; intro K hK; go_simp; refine hK _ ?_; clear hK K
                refine any_end (by decide +kernel) ?_
                go_wp2_with fail
                go_meet
                refine ⟨_, LX, wp2.heap.size, AX, cX, rfl, rfl, Lib.hid ?_, Lib.hid ?_, Lib.hid ?_, ?_, ?_, ?_, ?_, ?_⟩
                · refine ⟨?_, ?_, ?_, fun j => ?_, ?_⟩
                  · go_simp
                  · go_simp
                  · go_simp
                  · go_simp
                  · exact (by first | exact Nat.le_refl _ | (simp [World.setCell]; done) | (simp [World.setCell]; omega) | omega)
                · repeat (first | (with_reducible exact hOX) | (with_reducible refine RowOwn.drew ?_) | (with_reducible refine RowOwn.alloc ?_ _) | (with_reducible refine RowOwn.setC ?_ ?_ _; focus (first | (left; first | omega | (simp; omega) | (simp; done)) | (right; first | omega | (simp; omega) | (simp; done)))))
                · repeat (first | (with_reducible exact Below.refl _ _) | (with_reducible refine Bal ?_ _) | (with_reducible refine Below.drew ?_) | (with_reducible refine below_drewN ?_ _) | (with_reducible refine Bset ?_ ?_ _; focus (first | (with_reducible exact Nat.le_refl _) | (simp; done) | (simp; omega) | omega)) | (with_reducible refine Bt ?_ (by assumption)) | (with_reducible refine Bp (g := g) ?_ (by assumption) (by assumption)))
                · exact (by first | exact Nat.le_refl _ | (simp [World.setCell]; done) | (simp [World.setCell]; omega) | omega)
                · omega
                · omega
                · exact (by first | exact Nat.le_refl _ | (simp [World.setCell]; done) | (simp [World.setCell]; omega) | omega)
                · first | omega | (simp; omega) | (simp; done)
        · refine any_one rfl rfl rfl ?_
          go_wp2_with ((go_at_call 25; refine (toPk_any _ _ _ _ _ _ _).mono ?_; rintro e wp1 ⟨rfl, hbp1⟩; have hzp1 := hbp1.size; (try simp at hzp1); (try (have g0_1 := (bel_cells hbp1 (w4.heap.size) (by simp) (f := fun o => ([.int .i64 0, .int .i64 0, .slice none 0 0] : List Value)[o]?) (fun o => by simp [go_sem]) (fun o => by simp [go_sem])); obtain ⟨g0_1, f0_1⟩ := g0_1; have s0_1 : w4.heap.size < wp1.heap.size := (by have := hbp1.size; simp at this; omega)))))
          refine then_any rfl ?_ ?_; focus (first | (intro h; have h2 : false = true := h; cases h2) | (intro _; show Below _ _ _; first | (with_reducible assumption) | (first | exact Below.mono (by with_reducible assumption) (by first | exact Nat.le_refl _ | (simp [World.setCell]; done) | (simp [World.setCell]; omega) | omega) | (repeat (first | (with_reducible exact Below.refl _ _) | (with_reducible exact below_undrew _ _) | (with_reducible refine Below.drew ?_) | (with_reducible refine Below.alloc ?_ (by first | exact Nat.le_refl _ | (simp [World.setCell]; done) | (simp [World.setCell]; omega) | omega) _))))))
          refine any_branch (by decide +kernel) ?_
          simp only [List.size_toArray, List.length_cons, List.length_nil, Nat.zero_add, Nat.reduceAdd]
          repeat' (first | exact lt_zero | refine lt_succ ?_ ?_ | exact any_none (by decide +kernel) | fail)
          · refine any_one rfl rfl rfl ?_
            go_wp2_with (fail)
            refine then_any rfl ?_ ?_; focus (first | (intro h; have h2 : false = true := h; cases h2) | (intro _; show Below _ _ _; first | (with_reducible assumption) | (first | exact Below.mono (by with_reducible assumption) (by first | exact Nat.le_refl _ | (simp [World.setCell]; done) | (simp [World.setCell]; omega) | omega) | (repeat (first | (with_reducible exact Below.refl _ _) | (with_reducible exact below_undrew _ _) | (with_reducible refine Below.drew ?_) | (with_reducible refine Below.alloc ?_ (by first | exact Nat.le_refl _ | (simp [World.setCell]; done) | (simp [World.setCell]; omega) | omega) _))))))
            refine any_branch (by decide +kernel) ?_
            simp only [List.size_toArray, List.length_cons, List.length_nil, Nat.zero_add, Nat.reduceAdd]
            repeat' (first | exact lt_zero | refine lt_succ ?_ ?_ | exact any_none (by decide +kernel) | fail)
            · refine any_one rfl rfl rfl ?_
              go_wp2_with ((go_at_call 26; refine (HI.out _ _ _ _ _ (RowOwn.row (Hx_4.out.below (B := w4.heap.size) (by omega) (by repeat (first | (with_reducible exact Below.refl _ _) | (with_reducible refine Bal ?_ _) | (with_reducible refine Below.drew ?_) | (with_reducible refine below_drewN ?_ _) | (with_reducible refine Bset ?_ ?_ _; focus (first | (with_reducible exact Nat.le_refl _) | (simp; done) | (simp; omega) | omega)) | (with_reducible refine Bt ?_ (by assumption)) | (with_reducible refine Bp (g := g) ?_ (by assumption) (by assumption)))))) (by first | exact Nat.le_refl _ | (simp; done) | (simp; omega) | omega)).mono ?_; rintro e wp2 ⟨AX, cX, hO, rfl, hbp2⟩; obtain ⟨LX, hLX, hOX⟩ : ∃ L : Nat, L = _ ∧ RowOwn 54 wp2 L wp2.heap.size AX nn cX 7 (HdF qq) := ⟨_, rfl, hO⟩; (try simp at hLX); clear hO; have hzp2 := hbp2.size; (try simp at hzp2); (try (have g0_2 := (bel_cells hbp2 (w4.heap.size) (by first | omega | (simp; omega)) g0_1 f0_1); obtain ⟨g0_2, f0_2⟩ := g0_2; have s0_2 : w4.heap.size < wp2.heap.size := (by omega))); (try (have g1_2 := (bel_cells hbp2 (wp1.heap.size) (by simp) (f := fun o => ([.int .i64 0, .int .i64 0, .slice none 0 0] : List Value)[o]?) (fun o => by simp [go_sem]) (fun o => by simp [go_sem])); obtain ⟨g1_2, f1_2⟩ := g1_2; have s1_2 : wp1.heap.size < wp2.heap.size := (by have := hbp2.size; simp at this; omega)))))
              refine then_any rfl ?_ ?_; focus (first | (intro h; have h2 : false = true := h; cases h2) | (intro _; show Below _ _ _; first | (with_reducible assumption) | (first | exact Below.mono (by with_reducible assumption) (by first | exact Nat.le_refl _ | (simp [World.setCell]; done) | (simp [World.setCell]; omega) | omega) | (repeat (first | (with_reducible exact Below.refl _ _) | (with_reducible exact below_undrew _ _) | (with_reducible refine Below.drew ?_) | (with_reducible refine Below.alloc ?_ (by first | exact Nat.le_refl _ | (simp [World.setCell]; done) | (simp [World.setCell]; omega) | omega) _))))))
              refine any_pure 5 (by decide +kernel) rfl rfl ?_; apply Exists.intro; refine ⟨fun w' => ?_, ?_⟩; (focus (first | (fail) | (go_simp; try exact rfl))); have e0 : True := trivial; clear e0; refine any_putK ?_; intro K hK; go_simp; refine hK _ ?_; clear hK K
              refine any_pure 6 (by decide +kernel) rfl rfl ?_; apply Exists.intro; refine ⟨fun w' => ?_, ?_⟩; (focus (first | (fail) | (go_simp; try exact rfl))); have e0 : True := trivial; clear e0; refine any_putK ?_; intro K hK; go_simp; refine hK _ ?_; clear hK K
              refine any_pure 7 (by decide +kernel) rfl rfl ?_; apply Exists.intro; refine ⟨fun w' => ?_, ?_⟩; (focus (first | (fail) | (go_simp; try exact rfl))); have e0 : True := trivial; clear e0; refine any_putK ?_; intro K hK; go_simp; refine hK _ ?_; clear hK K
              refine any_branch (by decide +kernel) ?_
              simp only [List.size_toArray, List.length_cons, List.length_nil, Nat.zero_add, Nat.reduceAdd]
              repeat' (first | exact lt_zero | refine lt_succ ?_ ?_ | exact any_none (by decide +kernel) | fail)
              · refine any_one rfl rfl rfl ?_
                go_wp2_with (fail)
                refine then_any rfl ?_ ?_; focus (first | (intro h; have h2 : false = true := h; cases h2) | (intro _; show Below _ _ _; first | (with_reducible assumption) | (first | exact Below.mono (by with_reducible assumption) (by first | exact Nat.le_refl _ | (simp [World.setCell]; done) | (simp [World.setCell]; omega) | omega) | (repeat (first | (with_reducible exact Below.refl _ _) | (with_reducible exact below_undrew _ _) | (with_reducible refine Below.drew ?_) | (with_reducible refine Below.alloc ?_ (by first | exact Nat.le_refl _ | (simp [World.setCell]; done) | (simp [World.setCell]; omega) | omega) _))))))
                refine any_pure 10 (by decide +kernel) rfl rfl ?_; apply Exists.intro; refine ⟨fun w' => ?_, ?_⟩; (focus (first | (fail) | (go_simp; try exact rfl))); have e0 : True := trivial; clear e0; refine any_putK ?_; intro K hK; go_simp; refine hK _ ?_; clear hK K
                refine any_end (by decide +kernel) ?_
                go_wp2_with fail
                go_meet
                refine ⟨_, LX, wp2.heap.size, AX, cX, rfl, rfl, Lib.hid ?_, Lib.hid ?_, Lib.hid ?_, ?_, ?_, ?_, ?_, ?_⟩
                · refine ⟨?_, ?_, ?_, fun j => ?_, ?_⟩
                  · go_simp
                  · go_simp
                  · go_simp
                  · go_simp
                  · exact (by first | exact Nat.le_refl _ | (simp [World.setCell]; done) | (simp [World.setCell]; omega) | omega)
                · repeat (first | (with_reducible exact hOX) | (with_reducible refine RowOwn.drew ?_) | (with_reducible refine RowOwn.alloc ?_ _) | (with_reducible refine RowOwn.setC ?_ ?_ _; focus (first | (left; first | omega | (simp; omega) | (simp; done)) | (right; first | omega | (simp; omega) | (simp; done)))))
                · repeat (first | (with_reducible exact Below.refl _ _) | (with_reducible refine Bal ?_ _) | (with_reducible refine Below.drew ?_) | (with_reducible refine below_drewN ?_ _) | (with_reducible refine Bset ?_ ?_ _; focus (first | (with_reducible exact Nat.le_refl _) | (simp; done) | (simp; omega) | omega)) | (with_reducible refine Bt ?_ (by assumption)) | (with_reducible refine Bp (g := g) ?_ (by assumption) (by assumption)))
                · exact (by first | exact Nat.le_refl _ | (simp [World.setCell]; done) | (simp [World.setCell]; omega) | omega)
                · omega
                · omega
                · exact (by first | exact Nat.le_refl _ | (simp [World.setCell]; done) | (simp [World.setCell]; omega) | omega)
                · first | omega | (simp; omega) | (simp; done)
          · refine any_one rfl rfl rfl ?_
            go_wp2_with ((go_at_call 26; refine (HI.out _ _ _ _ _ (RowOwn.row (Hx_4.out.below (B := w4.heap.size) (by omega) (by repeat (first | (with_reducible exact Below.refl _ _) | (with_reducible refine Bal ?_ _) | (with_reducible refine Below.drew ?_) | (with_reducible refine below_drewN ?_ _) | (with_reducible refine Bset ?_ ?_ _; focus (first | (with_reducible exact Nat.le_refl _) | (simp; done) | (simp; omega) | omega)) | (with_reducible refine Bt ?_ (by assumption)) | (with_reducible refine Bp (g := g) ?_ (by assumption) (by assumption)))))) (by first | exact Nat.le_refl _ | (simp; done) | (simp; omega) | omega)).mono ?_; rintro e wp2 ⟨AX, cX, hO, rfl, hbp2⟩; obtain ⟨LX, hLX, hOX⟩ : ∃ L : Nat, L = _ ∧ RowOwn 54 wp2 L wp2.heap.size AX nn cX 7 (HdF qq) := ⟨_, rfl, hO⟩; (try simp at hLX); clear hO; have hzp2 := hbp2.size; (try simp at hzp2); (try (have g0_2 := (bel_cells hbp2 (w4.heap.size) (by first | omega | (simp; omega)) g0_1 f0_1); obtain ⟨g0_2, f0_2⟩ := g0_2; have s0_2 : w4.heap.size < wp2.heap.size := (by omega))); (try (have g1_2 := (bel_cells hbp2 (wp1.heap.size) (by simp) (f := fun o => ([.int .i64 0, .int .i64 0, .slice none 0 0] : List Value)[o]?) (fun o => by simp [go_sem]) (fun o => by simp [go_sem])); obtain ⟨g1_2, f1_2⟩ := g1_2; have s1_2 : wp1.heap.size < wp2.heap.size := (by have := hbp2.size; simp at this; omega)))))
            refine then_any rfl ?_ ?_; focus (first | (intro h; have h2 : false = true := h; cases h2) | (intro _; show Below _ _ _; first | (with_reducible assumption) | (first | exact Below.mono (by with_reducible assumption) (by first | exact Nat.le_refl _ | (simp [World.setCell]; done) | (simp [World.setCell]; omega) | omega) | (repeat (first | (with_reducible exact Below.refl _ _) | (with_reducible exact below_undrew _ _) | (with_reducible refine Below.drew ?_) | (with_reducible refine Below.alloc ?_ (by first | exact Nat.le_refl _ | (simp [World.setCell]; done) | (simp [World.setCell]; omega) | omega) _))))))
            refine any_pure 5 (by decide +kernel) rfl rfl ?_; apply Exists.intro; refine ⟨fun w' => ?_, ?_⟩; (focus (first | (fail) | (go_simp; try exact rfl))); have e0 : True := trivial; clear e0; refine any_putK ?_; intro K hK; go_simp; refine hK _ ?_; clear hK K
            refine any_pure 6 (by decide +kernel) rfl rfl ?_; apply Exists.intro; refine ⟨fun w' => ?_, ?_⟩; (focus (first | (fail) | (go_simp; try exact rfl))); have e0 : True := trivial; clear e0; refine any_putK ?_; intro K hK; go_simp; refine hK _ ?_; clear hK K
            refine any_pure 7 (by decide +kernel) rfl rfl ?_; apply Exists.intro; refine ⟨fun w' => ?_, ?_⟩; (focus (first | (fail) | (go_simp; try exact rfl))); have e0 : True := trivial; clear e0; refine any_putK ?_; intro K hK; go_simp; refine hK _ ?_; clear hK K
            refine any_branch (by decide +kernel) ?_
            simp only [List.size_toArray, List.length_cons, List.length_nil, Nat.zero_add, Nat.reduceAdd]
            repeat' (first | exact lt_zero | refine lt_succ ?_ ?_ | exact any_none (by decide +kernel) | fail)
            · refine any_one rfl rfl rfl ?_
              go_wp2_with (fail)
              refine then_any rfl ?_ ?_; focus (first | (intro h; have h2 : false = true := h; cases h2) | (intro _; show Below _ _ _; first | (with_reducible assumption) | (first | exact Below.mono (by with_reducible assumption) (by first | exact Nat.le_refl _ | (simp [World.setCell]; done) | (simp [World.setCell]; omega) | omega) | (repeat (first | (with_reducible exact Below.refl _ _) | (with_reducible exact below_undrew _ _) | (with_reducible refine Below.drew ?_) | (with_reducible refine Below.alloc ?_ (by first | exact Nat.le_refl _ | (simp [World.setCell]; done) | (simp [World.setCell]; omega) | omega) _))))))
              refine any_branch (by decide +kernel) ?_
              simp only [List.size_toArray, List.length_cons, List.length_nil, Nat.zero_add, Nat.reduceAdd]
              repeat' (first | exact lt_zero | refine lt_succ ?_ ?_ | exact any_none (by decide +kernel) | fail)
              · refine any_one rfl rfl rfl ?_
                go_wp2_with (fail)
                refine then_any rfl ?_ ?_; focus (first | (intro h; have h2 : false = true := h; cases h2) | (intro _; show Below _ _ _; first | (with_reducible assumption) | (first | exact Below.mono (by with_reducible assumption) (by first | exact Nat.le_refl _ | (simp [World.setCell]; done) | (simp [World.setCell]; omega) | omega) | (repeat (first | (with_reducible exact Below.refl _ _) | (with_reducible exact below_undrew _ _) | (with_reducible refine Below.drew ?_) | (with_reducible refine Below.alloc ?_ (by first | exact Nat.le_refl _ | (simp [World.setCell]; done) | (simp [World.setCell]; omega) | omega) _))))))
                refine any_pure 10 (by decide +kernel) rfl rfl ?_; apply Exists.intro; refine ⟨fun w' => ?_, ?_⟩; (focus (first | (fail) | (go_simp; try exact rfl))); have e0 : True := trivial; clear e0; refine any_putK ?_; intro K hK; go_simp; refine hK _ ?_; clear hK K
                refine any_end (by decide +kernel) ?_
                go_wp2_with fail
                go_meet
                refine ⟨_, LX, wp2.heap.size, AX, cX, rfl, rfl, Lib.hid ?_, Lib.hid ?_, Lib.hid ?_, ?_, ?_, ?_, ?_, ?_⟩
                · refine ⟨?_, ?_, ?_, fun j => ?_, ?_⟩
                  · go_simp
                  · go_simp
                  · go_simp
                  · go_simp
                  · exact (by first | exact Nat.le_refl _ | (simp [World.setCell]; done) | (simp [World.setCell]; omega) | omega)
                · repeat (first | (with_reducible exact hOX) | (with_reducible refine RowOwn.drew ?_) | (with_reducible refine RowOwn.alloc ?_ _) | (with_reducible refine RowOwn.setC ?_ ?_ _; focus (first | (left; first | omega | (simp; omega) | (simp; done)) | (right; first | omega | (simp; omega) | (simp; done)))))
                · repeat (first | (with_reducible exact Below.refl _ _) | (with_reducible refine Bal ?_ _) | (with_reducible refine Below.drew ?_) | (with_reducible refine below_drewN ?_ _) | (with_reducible refine Bset ?_ ?_ _; focus (first | (with_reducible exact Nat.le_refl _) | (simp; done) | (simp; omega) | omega)) | (with_reducible refine Bt ?_ (by assumption)) | (with_reducible refine Bp (g := g) ?_ (by assumption) (by assumption)))
                · exact (by first | exact Nat.le_refl _ | (simp [World.setCell]; done) | (simp [World.setCell]; omega) | omega)
                · omega
                · omega
                · exact (by first | exact Nat.le_refl _ | (simp [World.setCell]; done) | (simp [World.setCell]; omega) | omega)
                · first | omega | (simp; omega) | (simp; done)
      case rest =>
        obtain ⟨b5, L5, H5, A5, c5, rfl, rfl, HX, HO, HW, q1, q2, q3, q4, q5⟩ := hcut
        obtain ⟨w5, rfl⟩ : ∃ v, v = wc := ⟨_, rfl⟩
        have hw5 := HW.out
        have hz5 : w4.heap.size ≤ w5.heap.size := hw5.size
        have l5_0 : w.heap.size < w5.heap.size := by omega
        have g5_0_0 : w5.cell? ⟨w.heap.size, 0, none⟩ = some (.int .i64 y) := (hw5.cell (p := ⟨w.heap.size, 0, none⟩) l4_0).trans g4_0_0
        have g5_0_1 : w5.cell? ⟨w.heap.size, 1, none⟩ = some (.int .i64 d) := (hw5.cell (p := ⟨w.heap.size, 1, none⟩) l4_0).trans g4_0_1
        have g5_0_2 : w5.cell? ⟨w.heap.size, 2, none⟩ = some (.slice A n c) := (hw5.cell (p := ⟨w.heap.size, 2, none⟩) l4_0).trans g4_0_2
        have l5_1 : w.heap.size + 1 < w5.heap.size := by omega
        have g5_1_0 : w5.cell? ⟨w.heap.size + 1, 0, none⟩ = some (.int .i64 pa) := (hw5.cell (p := ⟨w.heap.size + 1, 0, none⟩) l4_1).trans g4_1_0
        have g5_1_1 : w5.cell? ⟨w.heap.size + 1, 1, none⟩ = some (.int .i64 pb) := (hw5.cell (p := ⟨w.heap.size + 1, 1, none⟩) l4_1).trans g4_1_1
        have g5_1_2 : w5.cell? ⟨w.heap.size + 1, 2, none⟩ = some (.int .i64 pc) := (hw5.cell (p := ⟨w.heap.size + 1, 2, none⟩) l4_1).trans g4_1_2
        have g5_1_3 : w5.cell? ⟨w.heap.size + 1, 3, none⟩ = some (.int .i64 pd) := (hw5.cell (p := ⟨w.heap.size + 1, 3, none⟩) l4_1).trans g4_1_3
        have g5_1_4 : w5.cell? ⟨w.heap.size + 1, 4, none⟩ = some (.bool pk) := (hw5.cell (p := ⟨w.heap.size + 1, 4, none⟩) l4_1).trans g4_1_4
        have g5_1_5 : w5.cell? ⟨w.heap.size + 1, 5, none⟩ = some (.bool pz) := (hw5.cell (p := ⟨w.heap.size + 1, 5, none⟩) l4_1).trans g4_1_5
        have l5_2 : b2 < w5.heap.size := by omega
        have g5_2_0 : w5.cell? ⟨b2, 0, none⟩ = some (.int .i64 yy) := (hw5.cell (p := ⟨b2, 0, none⟩) l4_2).trans g4_2_0
        have g5_2_1 : w5.cell? ⟨b2, 1, none⟩ = some (.int .i64 dd) := (hw5.cell (p := ⟨b2, 1, none⟩) l4_2).trans g4_2_1
        have g5_2_2 : w5.cell? ⟨b2, 2, none⟩ = some (.slice A2 nn c2) := (hw5.cell (p := ⟨b2, 2, none⟩) l4_2).trans g4_2_2
        have l5_3 : w3.heap.size < w5.heap.size := by omega
        have g5_3_0 : w5.cell? ⟨w3.heap.size, 0, none⟩ = some (.int .i64 y) := (hw5.cell (p := ⟨w3.heap.size, 0, none⟩) l4_3).trans g4_3_0
        have g5_3_1 : w5.cell? ⟨w3.heap.size, 1, none⟩ = some (.int .i64 d) := (hw5.cell (p := ⟨w3.heap.size, 1, none⟩) l4_3).trans g4_3_1
        have g5_3_2 : w5.cell? ⟨w3.heap.size, 2, none⟩ = some (.slice A3 n c3) := (hw5.cell (p := ⟨w3.heap.size, 2, none⟩) l4_3).trans g4_3_2
        have HB5 := Lib.hid (HB4.out.trans (hw5.mono HB4.out.size))
        have Ha_5 := Lib.hid (Ha_4.out.below (by omega) hw5)
        have Hs_5 := Lib.hid (Hs_4.out.below (by omega) hw5)
        have Hx_5 := Lib.hid (Hx_4.out.below (by omega) hw5)
        obtain ⟨g5_4_0, g5_4_1, g5_4_2, fX, l5_4⟩ := HX.out
        clear fX HX HW hw5
        have B5 := l5_4
        have Hg_5 := HO
        clear HO
        clear l4_0 g4_0_0 g4_0_1 g4_0_2
        clear l4_1 g4_1_0 g4_1_1 g4_1_2 g4_1_3 g4_1_4 g4_1_5
        clear l4_2 g4_2_0 g4_2_1 g4_2_2
        clear l4_3 g4_3_0 g4_3_1 g4_3_2
        clear Ha_4
        clear Hs_4
        clear Hx_4
        clear HB4
        go_wp2_with fail
        refine (eqBf_same _ (RowOwn.row (Hg_5.out.below (B := w5.heap.size) (by omega) (by repeat (first | (with_reducible exact Below.refl _ _) | (with_reducible refine Bal ?_ _) | (with_reducible refine Below.drew ?_) | (with_reducible refine below_drewN ?_ _) | (with_reducible refine Bset ?_ ?_ _; focus (first | (with_reducible exact Nat.le_refl _) | (simp; done) | (simp; omega) | omega)) | (with_reducible refine Bt ?_ (by assumption)) | (with_reducible refine Bp (g := g) ?_ (by assumption) (by assumption)))))) (RowOwn.row (Hs_5.out.below (B := w5.heap.size) (by omega) (by repeat (first | (with_reducible exact Below.refl _ _) | (with_reducible refine Bal ?_ _) | (with_reducible refine Below.drew ?_) | (with_reducible refine below_drewN ?_ _) | (with_reducible refine Bset ?_ ?_ _; focus (first | (with_reducible exact Nat.le_refl _) | (simp; done) | (simp; omega) | omega)) | (with_reducible refine Bt ?_ (by assumption)) | (with_reducible refine Bp (g := g) ?_ (by assumption) (by assumption)))))) (by first | exact Nat.le_refl _ | (simp; done) | (simp; omega) | omega) (by first | exact Nat.le_refl _ | (simp; done) | (simp; omega) | omega) hnn).mono ?_
        rintro e w6 ⟨rfl, hb6⟩
        have hw6 : Below w5.heap.size w5 w6 := by repeat (first | (with_reducible exact Below.refl _ _) | (with_reducible refine Bal ?_ _) | (with_reducible refine Below.drew ?_) | (with_reducible refine below_drewN ?_ _) | (with_reducible refine Bset ?_ ?_ _; focus (first | (with_reducible exact Nat.le_refl _) | (simp; done) | (simp; omega) | omega)) | (with_reducible refine Bt ?_ (by assumption)) | (with_reducible refine Bp (g := g) ?_ (by assumption) (by assumption)))
        have hz6 : w5.heap.size ≤ w6.heap.size := hw6.size
        obtain ⟨hc6, hf6⟩ := bcell hb6
        have hy6 := hb6.size
        try simp at hy6
        have l6_0 : w.heap.size < w6.heap.size := by omega
        have g6_0_0 : w6.cell? ⟨w.heap.size, 0, none⟩ = some (.int .i64 y) := (hw6.cell (p := ⟨w.heap.size, 0, none⟩) l5_0).trans g5_0_0
        have g6_0_1 : w6.cell? ⟨w.heap.size, 1, none⟩ = some (.int .i64 d) := (hw6.cell (p := ⟨w.heap.size, 1, none⟩) l5_0).trans g5_0_1
        have g6_0_2 : w6.cell? ⟨w.heap.size, 2, none⟩ = some (.slice A n c) := (hw6.cell (p := ⟨w.heap.size, 2, none⟩) l5_0).trans g5_0_2
        have l6_1 : w.heap.size + 1 < w6.heap.size := by omega
        have g6_1_0 : w6.cell? ⟨w.heap.size + 1, 0, none⟩ = some (.int .i64 pa) := (hw6.cell (p := ⟨w.heap.size + 1, 0, none⟩) l5_1).trans g5_1_0
        have g6_1_1 : w6.cell? ⟨w.heap.size + 1, 1, none⟩ = some (.int .i64 pb) := (hw6.cell (p := ⟨w.heap.size + 1, 1, none⟩) l5_1).trans g5_1_1
        have g6_1_2 : w6.cell? ⟨w.heap.size + 1, 2, none⟩ = some (.int .i64 pc) := (hw6.cell (p := ⟨w.heap.size + 1, 2, none⟩) l5_1).trans g5_1_2
        have g6_1_3 : w6.cell? ⟨w.heap.size + 1, 3, none⟩ = some (.int .i64 pd) := (hw6.cell (p := ⟨w.heap.size + 1, 3, none⟩) l5_1).trans g5_1_3
        have g6_1_4 : w6.cell? ⟨w.heap.size + 1, 4, none⟩ = some (.bool pk) := (hw6.cell (p := ⟨w.heap.size + 1, 4, none⟩) l5_1).trans g5_1_4
        have g6_1_5 : w6.cell? ⟨w.heap.size + 1, 5, none⟩ = some (.bool pz) := (hw6.cell (p := ⟨w.heap.size + 1, 5, none⟩) l5_1).trans g5_1_5
        have l6_2 : b2 < w6.heap.size := by omega
        have g6_2_0 : w6.cell? ⟨b2, 0, none⟩ = some (.int .i64 yy) := (hw6.cell (p := ⟨b2, 0, none⟩) l5_2).trans g5_2_0
        have g6_2_1 : w6.cell? ⟨b2, 1, none⟩ = some (.int .i64 dd) := (hw6.cell (p := ⟨b2, 1, none⟩) l5_2).trans g5_2_1
        have g6_2_2 : w6.cell? ⟨b2, 2, none⟩ = some (.slice A2 nn c2) := (hw6.cell (p := ⟨b2, 2, none⟩) l5_2).trans g5_2_2
        have l6_3 : w3.heap.size < w6.heap.size := by omega
        have g6_3_0 : w6.cell? ⟨w3.heap.size, 0, none⟩ = some (.int .i64 y) := (hw6.cell (p := ⟨w3.heap.size, 0, none⟩) l5_3).trans g5_3_0
        have g6_3_1 : w6.cell? ⟨w3.heap.size, 1, none⟩ = some (.int .i64 d) := (hw6.cell (p := ⟨w3.heap.size, 1, none⟩) l5_3).trans g5_3_1
        have g6_3_2 : w6.cell? ⟨w3.heap.size, 2, none⟩ = some (.slice A3 n c3) := (hw6.cell (p := ⟨w3.heap.size, 2, none⟩) l5_3).trans g5_3_2
        have l6_4 : b5 < w6.heap.size := by omega
        have g6_4_0 : w6.cell? ⟨b5, 0, none⟩ = some (.int .i64 yy) := (hw6.cell (p := ⟨b5, 0, none⟩) l5_4).trans g5_4_0
        have g6_4_1 : w6.cell? ⟨b5, 1, none⟩ = some (.int .i64 dd) := (hw6.cell (p := ⟨b5, 1, none⟩) l5_4).trans g5_4_1
        have g6_4_2 : w6.cell? ⟨b5, 2, none⟩ = some (.slice A5 nn c5) := (hw6.cell (p := ⟨b5, 2, none⟩) l5_4).trans g5_4_2
        have HB6 := Lib.hid (HB5.out.trans (hw6.mono HB5.out.size))
        have Ha_6 := Lib.hid (Ha_5.out.below (by omega) hw6)
        have Hs_6 := Lib.hid (Hs_5.out.below (by omega) hw6)
        have Hx_6 := Lib.hid (Hx_5.out.below (by omega) hw6)
        have Hg_6 := Lib.hid (Hg_5.out.below (by omega) hw6)
        clear hb6 hc6 hf6 hw6
        clear l5_0 g5_0_0 g5_0_1 g5_0_2
        clear l5_1 g5_1_0 g5_1_1 g5_1_2 g5_1_3 g5_1_4 g5_1_5
        clear l5_2 g5_2_0 g5_2_1 g5_2_2
        clear l5_3 g5_3_0 g5_3_1 g5_3_2
        clear l5_4 g5_4_0 g5_4_1 g5_4_2
        clear Ha_5
        clear Hs_5
        clear Hx_5
        clear Hg_5
        clear HB5
        go_upto_region 10 with fail
        refine wp_region_mix (Below (w6.heap.size) w6) (by kernel_rfl) (by kernel_rfl) (Below.drew (Below.refl _ _)) ?_
        repeat (first
          | (refine mix_skip rfl ?_; have e0 : True := trivial; clear e0; refine mix_putK ?_; intro K hK; go_simp; refine hK _ ?_; clear hK K)
          | (refine mix_readE rfl rfl rfl ?_; apply Exists.intro; refine ⟨fun w' hb' => ?_, ?_⟩; (focus (obtain ⟨hc', hf'⟩ := below_cells hb'; clear hb'; go_simp; try exact rfl)); have e0 : True := trivial; clear e0; refine mix_putK ?_; intro K hK; go_simp; refine hK _ ?_; clear hK K)
          | (refine mix_pureE rfl rfl ?_; apply Exists.intro; refine ⟨fun w' => ?_, ?_⟩; (focus (go_simp; try exact rfl)); have e0 : True := trivial; clear e0; refine mix_putK ?_; intro K hK; go_simp; refine hK _ ?_; clear hK K)
          | (refine mix_eff rfl rfl ?_; go_wp2_with ((first | (go_at_call 18; refine (toBf_any _ 0 w.heap.size A n c y d q (Ha_6.out.below (B := w6.heap.size) (by omega) (by repeat (first | (with_reducible exact Below.refl _ _) | (with_reducible refine Bal ?_ _) | (with_reducible refine Below.drew ?_) | (with_reducible refine below_drewN ?_ _) | (with_reducible refine Bset ?_ ?_ _; focus (first | (with_reducible exact Nat.le_refl _) | (simp; done) | (simp; omega) | omega)) | (with_reducible refine Bt ?_ (by assumption)) | (with_reducible refine Bp (g := g) ?_ (by assumption) (by assumption))))) (by first | exact Nat.le_refl _ | (simp; done) | (simp; omega) | omega) hn).mono ?_; rintro e w7 ⟨A7, c7, hO7, rfl, hb7⟩; have hz7 := hb7.size; (try simp at hz7)) | (go_at_call 20; refine (eqBf_same _ (RowOwn.row (Hx_6.out.below (B := w6.heap.size) (by omega) (by repeat (first | (with_reducible exact Below.refl _ _) | (with_reducible refine Bal ?_ _) | (with_reducible refine Below.drew ?_) | (with_reducible refine below_drewN ?_ _) | (with_reducible refine Bset ?_ ?_ _; focus (first | (with_reducible exact Nat.le_refl _) | (simp; done) | (simp; omega) | omega)) | (with_reducible refine Bt ?_ (by assumption)) | (with_reducible refine Bp (g := g) ?_ (by assumption) (by assumption)))))) (RowOwn.row (RowOwn.below (Nat.le_refl _) hO7 (by repeat (first | (with_reducible exact Below.refl _ _) | (with_reducible refine Bal ?_ _) | (with_reducible refine Below.drew ?_) | (with_reducible refine below_drewN ?_ _) | (with_reducible refine Bset ?_ ?_ _; focus (first | (with_reducible exact Nat.le_refl _) | (simp; done) | (simp; omega) | omega)) | (with_reducible refine Bt ?_ (by assumption)) | (with_reducible refine Bp (g := g) ?_ (by assumption) (by assumption)))))) (by first | exact Nat.le_refl _ | (simp; done) | (simp; omega) | omega) (by first | exact Nat.le_refl _ | (simp; done) | (simp; omega) | omega) hn).mono ?_; rintro e w8 ⟨rfl, hb8⟩))); refine then_mix rfl ?_ ?_; (focus (first | (intro h; have h2 : false = true := h; cases h2) | (intro _; assumption) | (intro _; exact Below.drew (by assumption)) | (intro _; repeat (first | (with_reducible exact Below.refl _ _) | (with_reducible refine Bal ?_ _) | (with_reducible refine Below.drew ?_) | (with_reducible refine below_drewN ?_ _) | (with_reducible refine Bset ?_ ?_ _; focus (first | (with_reducible exact Nat.le_refl _) | (simp; done) | (simp; omega) | omega)) | (with_reducible refine Bt ?_ (by assumption)) | (with_reducible refine Bp (g := g) ?_ (by assumption) (by assumption))))))))
        refine mix_nil ?_
        have hw8 : Below w6.heap.size w6 w8 := by repeat (first | (with_reducible exact Below.refl _ _) | (with_reducible refine Bal ?_ _) | (with_reducible refine Below.drew ?_) | (with_reducible refine below_drewN ?_ _) | (with_reducible refine Bset ?_ ?_ _; focus (first | (with_reducible exact Nat.le_refl _) | (simp; done) | (simp; omega) | omega)) | (with_reducible refine Bt ?_ (by assumption)) | (with_reducible refine Bp (g := g) ?_ (by assumption) (by assumption)))
        have hz8 : w6.heap.size ≤ w8.heap.size := hw8.size
        have l8_0 : w.heap.size < w8.heap.size := by omega
        have g8_0_0 : w8.cell? ⟨w.heap.size, 0, none⟩ = some (.int .i64 y) := (hw8.cell (p := ⟨w.heap.size, 0, none⟩) l6_0).trans g6_0_0
        have g8_0_1 : w8.cell? ⟨w.heap.size, 1, none⟩ = some (.int .i64 d) := (hw8.cell (p := ⟨w.heap.size, 1, none⟩) l6_0).trans g6_0_1
        have g8_0_2 : w8.cell? ⟨w.heap.size, 2, none⟩ = some (.slice A n c) := (hw8.cell (p := ⟨w.heap.size, 2, none⟩) l6_0).trans g6_0_2
        have l8_1 : w.heap.size + 1 < w8.heap.size := by omega
        have g8_1_0 : w8.cell? ⟨w.heap.size + 1, 0, none⟩ = some (.int .i64 pa) := (hw8.cell (p := ⟨w.heap.size + 1, 0, none⟩) l6_1).trans g6_1_0
        have g8_1_1 : w8.cell? ⟨w.heap.size + 1, 1, none⟩ = some (.int .i64 pb) := (hw8.cell (p := ⟨w.heap.size + 1, 1, none⟩) l6_1).trans g6_1_1
        have g8_1_2 : w8.cell? ⟨w.heap.size + 1, 2, none⟩ = some (.int .i64 pc) := (hw8.cell (p := ⟨w.heap.size + 1, 2, none⟩) l6_1).trans g6_1_2
        have g8_1_3 : w8.cell? ⟨w.heap.size + 1, 3, none⟩ = some (.int .i64 pd) := (hw8.cell (p := ⟨w.heap.size + 1, 3, none⟩) l6_1).trans g6_1_3
        have g8_1_4 : w8.cell? ⟨w.heap.size + 1, 4, none⟩ = some (.bool pk) := (hw8.cell (p := ⟨w.heap.size + 1, 4, none⟩) l6_1).trans g6_1_4
        have g8_1_5 : w8.cell? ⟨w.heap.size + 1, 5, none⟩ = some (.bool pz) := (hw8.cell (p := ⟨w.heap.size + 1, 5, none⟩) l6_1).trans g6_1_5
        have l8_2 : b2 < w8.heap.size := by omega
        have g8_2_0 : w8.cell? ⟨b2, 0, none⟩ = some (.int .i64 yy) := (hw8.cell (p := ⟨b2, 0, none⟩) l6_2).trans g6_2_0
        have g8_2_1 : w8.cell? ⟨b2, 1, none⟩ = some (.int .i64 dd) := (hw8.cell (p := ⟨b2, 1, none⟩) l6_2).trans g6_2_1
        have g8_2_2 : w8.cell? ⟨b2, 2, none⟩ = some (.slice A2 nn c2) := (hw8.cell (p := ⟨b2, 2, none⟩) l6_2).trans g6_2_2
        have l8_3 : w3.heap.size < w8.heap.size := by omega
        have g8_3_0 : w8.cell? ⟨w3.heap.size, 0, none⟩ = some (.int .i64 y) := (hw8.cell (p := ⟨w3.heap.size, 0, none⟩) l6_3).trans g6_3_0
        have g8_3_1 : w8.cell? ⟨w3.heap.size, 1, none⟩ = some (.int .i64 d) := (hw8.cell (p := ⟨w3.heap.size, 1, none⟩) l6_3).trans g6_3_1
        have g8_3_2 : w8.cell? ⟨w3.heap.size, 2, none⟩ = some (.slice A3 n c3) := (hw8.cell (p := ⟨w3.heap.size, 2, none⟩) l6_3).trans g6_3_2
        have l8_4 : b5 < w8.heap.size := by omega
        have g8_4_0 : w8.cell? ⟨b5, 0, none⟩ = some (.int .i64 yy) := (hw8.cell (p := ⟨b5, 0, none⟩) l6_4).trans g6_4_0
        have g8_4_1 : w8.cell? ⟨b5, 1, none⟩ = some (.int .i64 dd) := (hw8.cell (p := ⟨b5, 1, none⟩) l6_4).trans g6_4_1
        have g8_4_2 : w8.cell? ⟨b5, 2, none⟩ = some (.slice A5 nn c5) := (hw8.cell (p := ⟨b5, 2, none⟩) l6_4).trans g6_4_2
        have HB8 := Lib.hid (HB6.out.trans (hw8.mono HB6.out.size))
        have Ha_8 := Lib.hid (Ha_6.out.below (by omega) hw8)
        have Hs_8 := Lib.hid (Hs_6.out.below (by omega) hw8)
        have Hx_8 := Lib.hid (Hx_6.out.below (by omega) hw8)
        have Hg_8 := Lib.hid (Hg_6.out.below (by omega) hw8)
        clear hb8 hw8
        clear l6_0 g6_0_0 g6_0_1 g6_0_2
        clear l6_1 g6_1_0 g6_1_1 g6_1_2 g6_1_3 g6_1_4 g6_1_5
        clear l6_2 g6_2_0 g6_2_1 g6_2_2
        clear l6_3 g6_3_0 g6_3_1 g6_3_2
        clear l6_4 g6_4_0 g6_4_1 g6_4_2
        clear Ha_6
        clear Hs_6
        clear Hx_6
        clear Hg_6
        clear HB6
        go_wp2_with fail
        refine (markBf_any _ 1 Hx_8.out (by omega) hn (by omega)).mono ?_
        rintro e w9 ⟨hO9, rfl, hG9⟩
        have hz9 : w8.heap.size ≤ w9.heap.size := hG9.size
        have hlt9 : ∀ g, (Value.slice A3 n c3).ownBlock = some g → L3 ≤ g ∧ g < w3.heap.size := fun g hg => ⟨(Hx_8.out.1.lt g hg).1, Hx_8.out.2 g hg⟩
        have l9_0 : w.heap.size < w9.heap.size := by omega
        have g9_0_0 : w9.cell? ⟨w.heap.size, 0, none⟩ = some (.int .i64 y) := (grown_cell hG9 l8_0 (fun e => by have := hlt9 _ e.symm; omega) 0).trans g8_0_0
        have g9_0_1 : w9.cell? ⟨w.heap.size, 1, none⟩ = some (.int .i64 d) := (grown_cell hG9 l8_0 (fun e => by have := hlt9 _ e.symm; omega) 1).trans g8_0_1
        have g9_0_2 : w9.cell? ⟨w.heap.size, 2, none⟩ = some (.slice A n c) := (grown_cell hG9 l8_0 (fun e => by have := hlt9 _ e.symm; omega) 2).trans g8_0_2
        have l9_1 : w.heap.size + 1 < w9.heap.size := by omega
        have g9_1_0 : w9.cell? ⟨w.heap.size + 1, 0, none⟩ = some (.int .i64 pa) := (grown_cell hG9 l8_1 (fun e => by have := hlt9 _ e.symm; omega) 0).trans g8_1_0
        have g9_1_1 : w9.cell? ⟨w.heap.size + 1, 1, none⟩ = some (.int .i64 pb) := (grown_cell hG9 l8_1 (fun e => by have := hlt9 _ e.symm; omega) 1).trans g8_1_1
        have g9_1_2 : w9.cell? ⟨w.heap.size + 1, 2, none⟩ = some (.int .i64 pc) := (grown_cell hG9 l8_1 (fun e => by have := hlt9 _ e.symm; omega) 2).trans g8_1_2
        have g9_1_3 : w9.cell? ⟨w.heap.size + 1, 3, none⟩ = some (.int .i64 pd) := (grown_cell hG9 l8_1 (fun e => by have := hlt9 _ e.symm; omega) 3).trans g8_1_3
        have g9_1_4 : w9.cell? ⟨w.heap.size + 1, 4, none⟩ = some (.bool pk) := (grown_cell hG9 l8_1 (fun e => by have := hlt9 _ e.symm; omega) 4).trans g8_1_4
        have g9_1_5 : w9.cell? ⟨w.heap.size + 1, 5, none⟩ = some (.bool pz) := (grown_cell hG9 l8_1 (fun e => by have := hlt9 _ e.symm; omega) 5).trans g8_1_5
        have l9_2 : b2 < w9.heap.size := by omega
        have g9_2_0 : w9.cell? ⟨b2, 0, none⟩ = some (.int .i64 yy) := (grown_cell hG9 l8_2 (fun e => by have := hlt9 _ e.symm; omega) 0).trans g8_2_0
        have g9_2_1 : w9.cell? ⟨b2, 1, none⟩ = some (.int .i64 dd) := (grown_cell hG9 l8_2 (fun e => by have := hlt9 _ e.symm; omega) 1).trans g8_2_1
        have g9_2_2 : w9.cell? ⟨b2, 2, none⟩ = some (.slice A2 nn c2) := (grown_cell hG9 l8_2 (fun e => by have := hlt9 _ e.symm; omega) 2).trans g8_2_2
        have l9_3 : w3.heap.size < w9.heap.size := by omega
        have g9_3_0 : w9.cell? ⟨w3.heap.size, 0, none⟩ = some (.int .i64 y) := (grown_cell hG9 l8_3 (fun e => by have := hlt9 _ e.symm; omega) 0).trans g8_3_0
        have g9_3_1 : w9.cell? ⟨w3.heap.size, 1, none⟩ = some (.int .i64 d) := (grown_cell hG9 l8_3 (fun e => by have := hlt9 _ e.symm; omega) 1).trans g8_3_1
        have g9_3_2 : w9.cell? ⟨w3.heap.size, 2, none⟩ = some (.slice A3 n c3) := (grown_cell hG9 l8_3 (fun e => by have := hlt9 _ e.symm; omega) 2).trans g8_3_2
        have l9_4 : b5 < w9.heap.size := by omega
        have g9_4_0 : w9.cell? ⟨b5, 0, none⟩ = some (.int .i64 yy) := (grown_cell hG9 l8_4 (fun e => by have := hlt9 _ e.symm; omega) 0).trans g8_4_0
        have g9_4_1 : w9.cell? ⟨b5, 1, none⟩ = some (.int .i64 dd) := (grown_cell hG9 l8_4 (fun e => by have := hlt9 _ e.symm; omega) 1).trans g8_4_1
        have g9_4_2 : w9.cell? ⟨b5, 2, none⟩ = some (.slice A5 nn c5) := (grown_cell hG9 l8_4 (fun e => by have := hlt9 _ e.symm; omega) 2).trans g8_4_2
        have HB9 := Lib.hid (grown_below HB8.out hG9 (fun g hg => by have := hlt9 g hg; omega))
        have Ha_9 := Lib.hid (RowAt.only (by omega) (fun g hg => by have := hlt9 g hg; omega) Ha_8.out hG9)
        have Hs_9 := Lib.hid (RowOwn.only (fun g hg => by have := hlt9 g hg; omega) Hs_8.out hG9)
        have Hx_9 := Lib.hid hO9
        have Hg_9 := Lib.hid (RowOwn.only (fun g hg => by have := hlt9 g hg; omega) Hg_8.out hG9)
        clear hO9 hG9 hlt9
        clear l8_0 g8_0_0 g8_0_1 g8_0_2
        clear l8_1 g8_1_0 g8_1_1 g8_1_2 g8_1_3 g8_1_4 g8_1_5
        clear l8_2 g8_2_0 g8_2_1 g8_2_2
        clear l8_3 g8_3_0 g8_3_1 g8_3_2
        clear l8_4 g8_4_0 g8_4_1 g8_4_2
        clear Ha_8
        clear Hs_8
        clear Hx_8
        clear Hg_8
        clear HB8
        go_wp2_with fail
        refine (eqBf_same _ (RowOwn.row (Hg_9.out.below (B := w9.heap.size) (by omega) (by repeat (first | (with_reducible exact Below.refl _ _) | (with_reducible refine Bal ?_ _) | (with_reducible refine Below.drew ?_) | (with_reducible refine below_drewN ?_ _) | (with_reducible refine Bset ?_ ?_ _; focus (first | (with_reducible exact Nat.le_refl _) | (simp; done) | (simp; omega) | omega)) | (with_reducible refine Bt ?_ (by assumption)) | (with_reducible refine Bp (g := g) ?_ (by assumption) (by assumption)))))) (RowOwn.row (Hs_9.out.below (B := w9.heap.size) (by omega) (by repeat (first | (with_reducible exact Below.refl _ _) | (with_reducible refine Bal ?_ _) | (with_reducible refine Below.drew ?_) | (with_reducible refine below_drewN ?_ _) | (with_reducible refine Bset ?_ ?_ _; focus (first | (with_reducible exact Nat.le_refl _) | (simp; done) | (simp; omega) | omega)) | (with_reducible refine Bt ?_ (by assumption)) | (with_reducible refine Bp (g := g) ?_ (by assumption) (by assumption)))))) (by first | exact Nat.le_refl _ | (simp; done) | (simp; omega) | omega) (by first | exact Nat.le_refl _ | (simp; done) | (simp; omega) | omega) hnn).mono ?_
        rintro e w10 ⟨rfl, hb10⟩
        have hw10 : Below w9.heap.size w9 w10 := by repeat (first | (with_reducible exact Below.refl _ _) | (with_reducible refine Bal ?_ _) | (with_reducible refine Below.drew ?_) | (with_reducible refine below_drewN ?_ _) | (with_reducible refine Bset ?_ ?_ _; focus (first | (with_reducible exact Nat.le_refl _) | (simp; done) | (simp; omega) | omega)) | (with_reducible refine Bt ?_ (by assumption)) | (with_reducible refine Bp (g := g) ?_ (by assumption) (by assumption)))
        have hz10 : w9.heap.size ≤ w10.heap.size := hw10.size
        obtain ⟨hc10, hf10⟩ := bcell hb10
        have hy10 := hb10.size
        try simp at hy10
        have l10_0 : w.heap.size < w10.heap.size := by omega
        have g10_0_0 : w10.cell? ⟨w.heap.size, 0, none⟩ = some (.int .i64 y) := (hw10.cell (p := ⟨w.heap.size, 0, none⟩) l9_0).trans g9_0_0
        have g10_0_1 : w10.cell? ⟨w.heap.size, 1, none⟩ = some (.int .i64 d) := (hw10.cell (p := ⟨w.heap.size, 1, none⟩) l9_0).trans g9_0_1
        have g10_0_2 : w10.cell? ⟨w.heap.size, 2, none⟩ = some (.slice A n c) := (hw10.cell (p := ⟨w.heap.size, 2, none⟩) l9_0).trans g9_0_2
        have l10_1 : w.heap.size + 1 < w10.heap.size := by omega
        have g10_1_0 : w10.cell? ⟨w.heap.size + 1, 0, none⟩ = some (.int .i64 pa) := (hw10.cell (p := ⟨w.heap.size + 1, 0, none⟩) l9_1).trans g9_1_0
        have g10_1_1 : w10.cell? ⟨w.heap.size + 1, 1, none⟩ = some (.int .i64 pb) := (hw10.cell (p := ⟨w.heap.size + 1, 1, none⟩) l9_1).trans g9_1_1
        have g10_1_2 : w10.cell? ⟨w.heap.size + 1, 2, none⟩ = some (.int .i64 pc) := (hw10.cell (p := ⟨w.heap.size + 1, 2, none⟩) l9_1).trans g9_1_2
        have g10_1_3 : w10.cell? ⟨w.heap.size + 1, 3, none⟩ = some (.int .i64 pd) := (hw10.cell (p := ⟨w.heap.size + 1, 3, none⟩) l9_1).trans g9_1_3
        have g10_1_4 : w10.cell? ⟨w.heap.size + 1, 4, none⟩ = some (.bool pk) := (hw10.cell (p := ⟨w.heap.size + 1, 4, none⟩) l9_1).trans g9_1_4
        have g10_1_5 : w10.cell? ⟨w.heap.size + 1, 5, none⟩ = some (.bool pz) := (hw10.cell (p := ⟨w.heap.size + 1, 5, none⟩) l9_1).trans g9_1_5
        have l10_2 : b2 < w10.heap.size := by omega
        have g10_2_0 : w10.cell? ⟨b2, 0, none⟩ = some (.int .i64 yy) := (hw10.cell (p := ⟨b2, 0, none⟩) l9_2).trans g9_2_0
        have g10_2_1 : w10.cell? ⟨b2, 1, none⟩ = some (.int .i64 dd) := (hw10.cell (p := ⟨b2, 1, none⟩) l9_2).trans g9_2_1
        have g10_2_2 : w10.cell? ⟨b2, 2, none⟩ = some (.slice A2 nn c2) := (hw10.cell (p := ⟨b2, 2, none⟩) l9_2).trans g9_2_2
        have l10_3 : w3.heap.size < w10.heap.size := by omega
        have g10_3_0 : w10.cell? ⟨w3.heap.size, 0, none⟩ = some (.int .i64 y) := (hw10.cell (p := ⟨w3.heap.size, 0, none⟩) l9_3).trans g9_3_0
        have g10_3_1 : w10.cell? ⟨w3.heap.size, 1, none⟩ = some (.int .i64 d) := (hw10.cell (p := ⟨w3.heap.size, 1, none⟩) l9_3).trans g9_3_1
        have g10_3_2 : w10.cell? ⟨w3.heap.size, 2, none⟩ = some (.slice A3 n c3) := (hw10.cell (p := ⟨w3.heap.size, 2, none⟩) l9_3).trans g9_3_2
        have l10_4 : b5 < w10.heap.size := by omega
        have g10_4_0 : w10.cell? ⟨b5, 0, none⟩ = some (.int .i64 yy) := (hw10.cell (p := ⟨b5, 0, none⟩) l9_4).trans g9_4_0
        have g10_4_1 : w10.cell? ⟨b5, 1, none⟩ = some (.int .i64 dd) := (hw10.cell (p := ⟨b5, 1, none⟩) l9_4).trans g9_4_1
        have g10_4_2 : w10.cell? ⟨b5, 2, none⟩ = some (.slice A5 nn c5) := (hw10.cell (p := ⟨b5, 2, none⟩) l9_4).trans g9_4_2
        have HB10 := Lib.hid (HB9.out.trans (hw10.mono HB9.out.size))
        have Ha_10 := Lib.hid (Ha_9.out.below (by omega) hw10)
        have Hs_10 := Lib.hid (Hs_9.out.below (by omega) hw10)
        have Hg_10 := Lib.hid (Hg_9.out.below (by omega) hw10)
        clear hb10 hc10 hf10 hw10
        clear l9_0 g9_0_0 g9_0_1 g9_0_2
        clear l9_1 g9_1_0 g9_1_1 g9_1_2 g9_1_3 g9_1_4 g9_1_5
        clear l9_2 g9_2_0 g9_2_1 g9_2_2
        clear l9_3 g9_3_0 g9_3_1 g9_3_2
        clear l9_4 g9_4_0 g9_4_1 g9_4_2
        clear Ha_9
        clear Hs_9
        clear Hx_9
        clear Hg_9
        clear HB9
        go_wp2_with fail
        refine (markBf_any _ 1 Hg_10.out (by omega) hnn (by omega)).mono ?_
        rintro e w12 ⟨hO12, rfl, hG12⟩
        have hz12 : w10.heap.size ≤ w12.heap.size := hG12.size
        have hlt12 : ∀ g, (Value.slice A5 nn c5).ownBlock = some g → L5 ≤ g ∧ g < H5 := fun g hg => ⟨(Hg_10.out.1.lt g hg).1, Hg_10.out.2 g hg⟩
        have l12_0 : w.heap.size < w12.heap.size := by omega
        have g12_0_0 : w12.cell? ⟨w.heap.size, 0, none⟩ = some (.int .i64 y) := (grown_cell hG12 l10_0 (fun e => by have := hlt12 _ e.symm; omega) 0).trans g10_0_0
        have g12_0_1 : w12.cell? ⟨w.heap.size, 1, none⟩ = some (.int .i64 d) := (grown_cell hG12 l10_0 (fun e => by have := hlt12 _ e.symm; omega) 1).trans g10_0_1
        have g12_0_2 : w12.cell? ⟨w.heap.size, 2, none⟩ = some (.slice A n c) := (grown_cell hG12 l10_0 (fun e => by have := hlt12 _ e.symm; omega) 2).trans g10_0_2
        have l12_1 : w.heap.size + 1 < w12.heap.size := by omega
        have g12_1_0 : w12.cell? ⟨w.heap.size + 1, 0, none⟩ = some (.int .i64 pa) := (grown_cell hG12 l10_1 (fun e => by have := hlt12 _ e.symm; omega) 0).trans g10_1_0
        have g12_1_1 : w12.cell? ⟨w.heap.size + 1, 1, none⟩ = some (.int .i64 pb) := (grown_cell hG12 l10_1 (fun e => by have := hlt12 _ e.symm; omega) 1).trans g10_1_1
        have g12_1_2 : w12.cell? ⟨w.heap.size + 1, 2, none⟩ = some (.int .i64 pc) := (grown_cell hG12 l10_1 (fun e => by have := hlt12 _ e.symm; omega) 2).trans g10_1_2
        have g12_1_3 : w12.cell? ⟨w.heap.size + 1, 3, none⟩ = some (.int .i64 pd) := (grown_cell hG12 l10_1 (fun e => by have := hlt12 _ e.symm; omega) 3).trans g10_1_3
        have g12_1_4 : w12.cell? ⟨w.heap.size + 1, 4, none⟩ = some (.bool pk) := (grown_cell hG12 l10_1 (fun e => by have := hlt12 _ e.symm; omega) 4).trans g10_1_4
        have g12_1_5 : w12.cell? ⟨w.heap.size + 1, 5, none⟩ = some (.bool pz) := (grown_cell hG12 l10_1 (fun e => by have := hlt12 _ e.symm; omega) 5).trans g10_1_5
        have l12_2 : b2 < w12.heap.size := by omega
        have g12_2_0 : w12.cell? ⟨b2, 0, none⟩ = some (.int .i64 yy) := (grown_cell hG12 l10_2 (fun e => by have := hlt12 _ e.symm; omega) 0).trans g10_2_0
        have g12_2_1 : w12.cell? ⟨b2, 1, none⟩ = some (.int .i64 dd) := (grown_cell hG12 l10_2 (fun e => by have := hlt12 _ e.symm; omega) 1).trans g10_2_1
        have g12_2_2 : w12.cell? ⟨b2, 2, none⟩ = some (.slice A2 nn c2) := (grown_cell hG12 l10_2 (fun e => by have := hlt12 _ e.symm; omega) 2).trans g10_2_2
        have l12_3 : w3.heap.size < w12.heap.size := by omega
        have g12_3_0 : w12.cell? ⟨w3.heap.size, 0, none⟩ = some (.int .i64 y) := (grown_cell hG12 l10_3 (fun e => by have := hlt12 _ e.symm; omega) 0).trans g10_3_0
        have g12_3_1 : w12.cell? ⟨w3.heap.size, 1, none⟩ = some (.int .i64 d) := (grown_cell hG12 l10_3 (fun e => by have := hlt12 _ e.symm; omega) 1).trans g10_3_1
        have g12_3_2 : w12.cell? ⟨w3.heap.size, 2, none⟩ = some (.slice A3 n c3) := (grown_cell hG12 l10_3 (fun e => by have := hlt12 _ e.symm; omega) 2).trans g10_3_2
        have l12_4 : b5 < w12.heap.size := by omega
        have g12_4_0 : w12.cell? ⟨b5, 0, none⟩ = some (.int .i64 yy) := (grown_cell hG12 l10_4 (fun e => by have := hlt12 _ e.symm; omega) 0).trans g10_4_0
        have g12_4_1 : w12.cell? ⟨b5, 1, none⟩ = some (.int .i64 dd) := (grown_cell hG12 l10_4 (fun e => by have := hlt12 _ e.symm; omega) 1).trans g10_4_1
        have g12_4_2 : w12.cell? ⟨b5, 2, none⟩ = some (.slice A5 nn c5) := (grown_cell hG12 l10_4 (fun e => by have := hlt12 _ e.symm; omega) 2).trans g10_4_2
        have HB12 := Lib.hid (grown_below HB10.out hG12 (fun g hg => by have := hlt12 g hg; omega))
        have Ha_12 := Lib.hid (RowAt.only (by omega) (fun g hg => by have := hlt12 g hg; omega) Ha_10.out hG12)
        have Hs_12 := Lib.hid (RowOwn.only (fun g hg => by have := hlt12 g hg; omega) Hs_10.out hG12)
        have Hg_12 := Lib.hid hO12
        clear hO12 hG12 hlt12
        clear l10_0 g10_0_0 g10_0_1 g10_0_2
        clear l10_1 g10_1_0 g10_1_1 g10_1_2 g10_1_3 g10_1_4 g10_1_5
        clear l10_2 g10_2_0 g10_2_1 g10_2_2
        clear l10_3 g10_3_0 g10_3_1 g10_3_2
        clear l10_4 g10_4_0 g10_4_1 g10_4_2
        clear Ha_10
        clear Hs_10
        clear Hg_10
        clear HB10
        go_wp2_with fail
        refine (heldBf_any _ 1 (RowOwn.row (Hg_12.out.below (B := w12.heap.size) (by omega) (by repeat (first | (with_reducible exact Below.refl _ _) | (with_reducible refine Bal ?_ _) | (with_reducible refine Below.drew ?_) | (with_reducible refine below_drewN ?_ _) | (with_reducible refine Bset ?_ ?_ _; focus (first | (with_reducible exact Nat.le_refl _) | (simp; done) | (simp; omega) | omega)) | (with_reducible refine Bt ?_ (by assumption)) | (with_reducible refine Bp (g := g) ?_ (by assumption) (by assumption)))))) (by first | exact Nat.le_refl _ | (simp; done) | (simp; omega) | omega) hnn (by omega)).mono ?_
        rintro e w13 ⟨rfl, hb13⟩
        have hw13 : Below w12.heap.size w12 w13 := by repeat (first | (with_reducible exact Below.refl _ _) | (with_reducible refine Bal ?_ _) | (with_reducible refine Below.drew ?_) | (with_reducible refine below_drewN ?_ _) | (with_reducible refine Bset ?_ ?_ _; focus (first | (with_reducible exact Nat.le_refl _) | (simp; done) | (simp; omega) | omega)) | (with_reducible refine Bt ?_ (by assumption)) | (with_reducible refine Bp (g := g) ?_ (by assumption) (by assumption)))
        have hz13 : w12.heap.size ≤ w13.heap.size := hw13.size
        obtain ⟨hc13, hf13⟩ := bcell hb13
        have hy13 := hb13.size
        try simp at hy13
        have l13_0 : w.heap.size < w13.heap.size := by omega
        have g13_0_0 : w13.cell? ⟨w.heap.size, 0, none⟩ = some (.int .i64 y) := (hw13.cell (p := ⟨w.heap.size, 0, none⟩) l12_0).trans g12_0_0
        have g13_0_1 : w13.cell? ⟨w.heap.size, 1, none⟩ = some (.int .i64 d) := (hw13.cell (p := ⟨w.heap.size, 1, none⟩) l12_0).trans g12_0_1
        have g13_0_2 : w13.cell? ⟨w.heap.size, 2, none⟩ = some (.slice A n c) := (hw13.cell (p := ⟨w.heap.size, 2, none⟩) l12_0).trans g12_0_2
        have l13_1 : w.heap.size + 1 < w13.heap.size := by omega
        have g13_1_0 : w13.cell? ⟨w.heap.size + 1, 0, none⟩ = some (.int .i64 pa) := (hw13.cell (p := ⟨w.heap.size + 1, 0, none⟩) l12_1).trans g12_1_0
        have g13_1_1 : w13.cell? ⟨w.heap.size + 1, 1, none⟩ = some (.int .i64 pb) := (hw13.cell (p := ⟨w.heap.size + 1, 1, none⟩) l12_1).trans g12_1_1
        have g13_1_2 : w13.cell? ⟨w.heap.size + 1, 2, none⟩ = some (.int .i64 pc) := (hw13.cell (p := ⟨w.heap.size + 1, 2, none⟩) l12_1).trans g12_1_2
        have g13_1_3 : w13.cell? ⟨w.heap.size + 1, 3, none⟩ = some (.int .i64 pd) := (hw13.cell (p := ⟨w.heap.size + 1, 3, none⟩) l12_1).trans g12_1_3
        have g13_1_4 : w13.cell? ⟨w.heap.size + 1, 4, none⟩ = some (.bool pk) := (hw13.cell (p := ⟨w.heap.size + 1, 4, none⟩) l12_1).trans g12_1_4
        have g13_1_5 : w13.cell? ⟨w.heap.size + 1, 5, none⟩ = some (.bool pz) := (hw13.cell (p := ⟨w.heap.size + 1, 5, none⟩) l12_1).trans g12_1_5
        have l13_2 : b2 < w13.heap.size := by omega
        have g13_2_0 : w13.cell? ⟨b2, 0, none⟩ = some (.int .i64 yy) := (hw13.cell (p := ⟨b2, 0, none⟩) l12_2).trans g12_2_0
        have g13_2_1 : w13.cell? ⟨b2, 1, none⟩ = some (.int .i64 dd) := (hw13.cell (p := ⟨b2, 1, none⟩) l12_2).trans g12_2_1
        have g13_2_2 : w13.cell? ⟨b2, 2, none⟩ = some (.slice A2 nn c2) := (hw13.cell (p := ⟨b2, 2, none⟩) l12_2).trans g12_2_2
        have l13_3 : w3.heap.size < w13.heap.size := by omega
        have g13_3_0 : w13.cell? ⟨w3.heap.size, 0, none⟩ = some (.int .i64 y) := (hw13.cell (p := ⟨w3.heap.size, 0, none⟩) l12_3).trans g12_3_0
        have g13_3_1 : w13.cell? ⟨w3.heap.size, 1, none⟩ = some (.int .i64 d) := (hw13.cell (p := ⟨w3.heap.size, 1, none⟩) l12_3).trans g12_3_1
        have g13_3_2 : w13.cell? ⟨w3.heap.size, 2, none⟩ = some (.slice A3 n c3) := (hw13.cell (p := ⟨w3.heap.size, 2, none⟩) l12_3).trans g12_3_2
        have l13_4 : b5 < w13.heap.size := by omega
        have g13_4_0 : w13.cell? ⟨b5, 0, none⟩ = some (.int .i64 yy) := (hw13.cell (p := ⟨b5, 0, none⟩) l12_4).trans g12_4_0
        have g13_4_1 : w13.cell? ⟨b5, 1, none⟩ = some (.int .i64 dd) := (hw13.cell (p := ⟨b5, 1, none⟩) l12_4).trans g12_4_1
        have g13_4_2 : w13.cell? ⟨b5, 2, none⟩ = some (.slice A5 nn c5) := (hw13.cell (p := ⟨b5, 2, none⟩) l12_4).trans g12_4_2
        have HB13 := Lib.hid (HB12.out.trans (hw13.mono HB12.out.size))
        have Ha_13 := Lib.hid (Ha_12.out.below (by omega) hw13)
        have Hs_13 := Lib.hid (Hs_12.out.below (by omega) hw13)
        have Hg_13 := Lib.hid (Hg_12.out.below (by omega) hw13)
        clear hb13 hc13 hf13 hw13
        clear l12_0 g12_0_0 g12_0_1 g12_0_2
        clear l12_1 g12_1_0 g12_1_1 g12_1_2 g12_1_3 g12_1_4 g12_1_5
        clear l12_2 g12_2_0 g12_2_1 g12_2_2
        clear l12_3 g12_3_0 g12_3_1 g12_3_2
        clear l12_4 g12_4_0 g12_4_1 g12_4_2
        clear Ha_12
        clear Hs_12
        clear Hg_12
        clear HB12
        go_upto_region 24 with fail
        go_cut [16, 17] (fun s8 s9 wx => ∃ (b8 L2 H2 : Nat) (A2 : Option Addr) (c2 : Nat), s8 = .pointer (some ⟨b8, 0, none⟩) ∧ s9 = .int .i64 k ∧ Hid (Bx wx b8 yy dd A2 nn c2) ∧ Hid (RowOwn 54 wx L2 H2 A2 nn c2 7 (HdF qq)) ∧ Hid (Below w13.heap.size w13 wx) ∧ w13.heap.size ≤ b8 ∧ w13.heap.size ≤ L2 ∧ L2 ≤ H2 ∧ H2 ≤ wx.heap.size ∧ (b8 < L2 ∨ H2 ≤ b8))
        case first =>
          have hgd : ∀ W : World, W.drew.heap.size = W.heap.size := fun _ => rfl
          refine wp_region_anyR (R := fun a b => Below (w13.heap.size) a b) (by kernel_rfl) (fun w => Below.refl _ _) (fun _ _ _ h k => Below.trans h k) (by kernel_rfl) ?_
          simp only [List.size_toArray, List.length_cons, List.length_nil, Nat.zero_add, Nat.reduceAdd]
          refine any_read 0 (by decide +kernel) rfl rfl rfl ?_; apply Exists.intro; refine ⟨fun w' hb' => ?_, ?_⟩; (focus (obtain ⟨hc', hf'⟩ := below_cells hb'; clear hb'; go_simp; try exact rfl)); have e0 : True := trivial; clear e0; refine any_putK ?_; intro K hK; go_simp; refine hK _ ?_; clear hK K
          refine any_read 2 (by decide +kernel) rfl rfl rfl ?_; apply Exists.intro; refine ⟨fun w' hb' => ?_, ?_⟩; (focus (obtain ⟨hc', hf'⟩ := below_cells hb'; clear hb'; go_simp; try exact rfl)); have e0 : True := trivial; clear e0; refine any_putK ?_; intro K hK; go_simp; refine hK _ ?_; clear hK K
          refine any_pure 4 (by decide +kernel) rfl rfl ?_; apply Exists.intro; refine ⟨fun w' => ?_, ?_⟩; (focus (first | (fail) | (go_simp; try exact rfl))); have e0 : True := trivial; clear e0; refine any_putK ?_; intro K hK; go_simp; refine hK _ ?_; clear hK K
          refine any_branch (by decide +kernel) ?_
          simp only [List.size_toArray, List.length_cons, List.length_nil, Nat.zero_add, Nat.reduceAdd]
          repeat' (first | exact lt_zero | refine lt_succ ?_ ?_ | exact any_none (by decide +kernel) | fail)
          · refine any_one rfl rfl rfl ?_
            go_wp2_with (fail)
            refine then_any rfl ?_ ?_; focus (first | (intro h; have h2 : false = true := h; cases h2) | (intro _; show Below _ _ _; first | (with_reducible assumption) | (first | exact Below.mono (by with_reducible assumption) (by first | exact Nat.le_refl _ | (simp [World.setCell]; done) | (simp [World.setCell]; omega) | omega) | (repeat (first | (with_reducible exact Below.refl _ _) | (with_reducible exact below_undrew _ _) | (with_reducible refine Below.drew ?_) | (with_reducible refine Below.alloc ?_ (by first | exact Nat.le_refl _ | (simp [World.setCell]; done) | (simp [World.setCell]; omega) | omega) _))))))
            refine any_branch (by decide +kernel) ?_
            simp only [List.size_toArray, List.length_cons, List.length_nil, Nat.zero_add, Nat.reduceAdd]
            repeat' (first | exact lt_zero | refine lt_succ ?_ ?_ | exact any_none (by decide +kernel) | fail)
            · refine any_one rfl rfl rfl ?_
              go_wp2_with ((go_at_call 18; refine (toBf_any _ 0 w.heap.size A n c y d q (Ha_13.out.below (B := w13.heap.size) (by omega) (by repeat (first | (with_reducible exact Below.refl _ _) | (with_reducible refine Bal ?_ _) | (with_reducible refine Below.drew ?_) | (with_reducible refine below_drewN ?_ _) | (with_reducible refine Bset ?_ ?_ _; focus (first | (with_reducible exact Nat.le_refl _) | (simp; done) | (simp; omega) | omega)) | (with_reducible refine Bt ?_ (by assumption)) | (with_reducible refine Bp (g := g) ?_ (by assumption) (by assumption))))) (by first | exact Nat.le_refl _ | (simp; done) | (simp; omega) | omega) hn).mono ?_; rintro e wp1 ⟨AT, cT, hOT, rfl, hbp1⟩; have hzp1 := hbp1.size; (try simp at hzp1); (try (have g0_1 := (bel_cells hbp1 (w13.heap.size) (by simp) (f := fun o => ([.int .i64 0, .int .i64 0, .slice none 0 0] : List Value)[o]?) (fun o => by simp [go_sem]) (fun o => by simp [go_sem])); obtain ⟨g0_1, f0_1⟩ := g0_1; have s0_1 : w13.heap.size < wp1.heap.size := (by have := hbp1.size; simp at this; omega)))))
              refine then_any rfl ?_ ?_; focus (first | (intro h; have h2 : false = true := h; cases h2) | (intro _; show Below _ _ _; first | (with_reducible assumption) | (first | exact Below.mono (by with_reducible assumption) (by first | exact Nat.le_refl _ | (simp [World.setCell]; done) | (simp [World.setCell]; omega) | omega) | (repeat (first | (with_reducible exact Below.refl _ _) | (with_reducible exact below_undrew _ _) | (with_reducible refine Below.drew ?_) | (with_reducible refine Below.alloc ?_ (by first | exact Nat.le_refl _ | (simp [World.setCell]; done) | (simp [World.setCell]; omega) | omega) _))))))
              refine any_branch (by decide +kernel) ?_
              simp only [List.size_toArray, List.length_cons, List.length_nil, Nat.zero_add, Nat.reduceAdd]
              repeat' (first | exact lt_zero | refine lt_succ ?_ ?_ | exact any_none (by decide +kernel) | fail)
              · refine any_one rfl rfl rfl ?_
                go_wp2_with ((go_at_call 25; refine (toPk_any _ _ _ _ _ _ _).mono ?_; rintro e wp2 ⟨rfl, hbp2⟩; have hzp2 := hbp2.size; (try simp at hzp2); (try (have g0_2 := (bel_cells hbp2 (w13.heap.size) (by first | omega | (simp; omega)) g0_1 f0_1); obtain ⟨g0_2, f0_2⟩ := g0_2; have s0_2 : w13.heap.size < wp2.heap.size := (by omega))); (try (have g1_2 := (bel_cells hbp2 (wp1.heap.size) (by simp) (f := fun o => ([.int .i64 0, .int .i64 0, .slice none 0 0] : List Value)[o]?) (fun o => by simp [go_sem]) (fun o => by simp [go_sem])); obtain ⟨g1_2, f1_2⟩ := g1_2; have s1_2 : wp1.heap.size < wp2.heap.size := (by have := hbp2.size; simp at this; omega)))))
                refine then_any rfl ?_ ?_; focus (first | (intro h; have h2 : false = true := h; cases h2) | (intro _; show Below _ _ _; first | (with_reducible assumption) | (first | exact Below.mono (by with_reducible assumption) (by first | exact Nat.le_refl _ | (simp [World.setCell]; done) | (simp [World.setCell]; omega) | omega) | (repeat (first | (with_reducible exact Below.refl _ _) | (with_reducible exact below_undrew _ _) | (with_reducible refine Below.drew ?_) | (with_reducible refine Below.alloc ?_ (by first | exact Nat.le_refl _ | (simp [World.setCell]; done) | (simp [World.setCell]; omega) | omega) _))))))
                refine any_branch (by decide +kernel) ?_
                simp only [List.size_toArray, List.length_cons, List.length_nil, Nat.zero_add, Nat.reduceAdd]
                repeat' (first | exact lt_zero | refine lt_succ ?_ ?_ | exact any_none (by decide +kernel) | fail)
                · refine any_one rfl rfl rfl ?_
                  go_wp2_with ((go_at_call 26; refine (HI.out _ _ _ _ _ (RowOwn.row (RowOwn.below (Nat.le_refl _) hOT (by repeat (first | (with_reducible exact Below.refl _ _) | (with_reducible refine Bal ?_ _) | (with_reducible refine Below.drew ?_) | (with_reducible refine below_drewN ?_ _) | (with_reducible refine Bset ?_ ?_ _; focus (first | (with_reducible exact Nat.le_refl _) | (simp; done) | (simp; omega) | omega)) | (with_reducible refine Bt ?_ (by assumption)) | (with_reducible refine Bp (g := g) ?_ (by assumption) (by assumption)))))) (by first | exact Nat.le_refl _ | (simp; done) | (simp; omega) | omega)).mono ?_; rintro e wp3 ⟨AX, cX, hO, rfl, hbp3⟩; obtain ⟨LX, hLX, hOX⟩ : ∃ L : Nat, L = _ ∧ RowOwn 54 wp3 L wp3.heap.size AX nn cX 7 (HdF qq) := ⟨_, rfl, hO⟩; (try simp at hLX); clear hO; have hzp3 := hbp3.size; (try simp at hzp3); (try (have g0_3 := (bel_cells hbp3 (w13.heap.size) (by first | omega | (simp; omega)) g0_2 f0_2); obtain ⟨g0_3, f0_3⟩ := g0_3; have s0_3 : w13.heap.size < wp3.heap.size := (by omega))); (try (have g1_3 := (bel_cells hbp3 (wp1.heap.size) (by first | omega | (simp; omega)) g1_2 f1_2); obtain ⟨g1_3, f1_3⟩ := g1_3; have s1_3 : wp1.heap.size < wp3.heap.size := (by omega))); (try (have g2_3 := (bel_cells hbp3 (wp2.heap.size) (by simp) (f := fun o => ([.int .i64 0, .int .i64 0, .slice none 0 0] : List Value)[o]?) (fun o => by simp [go_sem]) (fun o => by simp [go_sem])); obtain ⟨g2_3, f2_3⟩ := g2_3; have s2_3 : wp2.heap.size < wp3.heap.size := (by have := hbp3.size; simp at this; omega)))))
                  refine then_any rfl ?_ ?_; focus (first | (intro h; have h2 : false = true := h; cases h2) | (intro _; show Below _ _ _; first | (with_reducible assumption) | (first | exact Below.mono (by with_reducible assumption) (by first | exact Nat.le_refl _ | (simp [World.setCell]; done) | (simp [World.setCell]; omega) | omega) | (repeat (first | (with_reducible exact Below.refl _ _) | (with_reducible exact below_undrew _ _) | (with_reducible refine Below.drew ?_) | (with_reducible refine Below.alloc ?_ (by first | exact Nat.le_refl _ | (simp [World.setCell]; done) | (simp [World.setCell]; omega) | omega) _))))))
                  refine any_pure 6 (by decide +kernel) rfl rfl ?_; apply Exists.intro; refine ⟨fun w' => ?_, ?_⟩; (focus (first | (fail) | (go_simp; try exact rfl))); have e0 : True := trivial; clear e0; refine any_putK ?_; intro K hK; go_simp; refine hK _ ?_; clear hK K
                  refine any_pure 7 (by decide +kernel) rfl rfl ?_; apply Exists.intro; refine ⟨fun w' => ?_, ?_⟩; (focus (first | (fail) | (go_simp; try exact rfl))); have e0 : True := trivial; clear e0; refine any_putK ?_; intro K hK; go_simp; refine hK _ ?_; clear hK K
                  refine any_pure 8 (by decide +kernel) rfl rfl ?_; apply Exists.intro; refine ⟨fun w' => ?_, ?_⟩; (focus (first | (fail) | (go_simp; try exact rfl))); have e0 : True := trivial; clear e0; refine any_putK ?_; intro K hK; go_simp; refine hK _ ?_; clear hK K
                  refine any_branch (by decide +kernel) ?_
                  simp only [List.size_toArray, List.length_cons, List.length_nil, Nat.zero_add, Nat.reduceAdd]
                  repeat' (first | exact lt_zero | refine lt_succ ?_ ?_ | exact any_none (by decide +kernel) | fail)
                  · refine any_one rfl rfl rfl ?_
                    go_wp2_with (fail)
                    refine then_any rfl ?_ ?_; focus (first | (intro h; have h2 : false = true := h; cases h2) | (intro _; show Below _ _ _; first | (with_reducible assumption) | (first | exact Below.mono (by with_reducible assumption) (by first | exact Nat.le_refl _ | (simp [World.setCell]; done) | (simp [World.setCell]; omega) | omega) | (repeat (first | (with_reducible exact Below.refl _ _) | (with_reducible exact below_undrew _ _) | (with_reducible refine Below.drew ?_) | (with_reducible refine Below.alloc ?_ (by first | exact Nat.le_refl _ | (simp [World.setCell]; done) | (simp [World.setCell]; omega) | omega) _))))))
                    refine any_pure 11 (by decide +kernel) rfl rfl ?_; apply Exists.intro; refine ⟨fun w' => ?_, ?_⟩; (focus (first | (fail) | (go_simp; try exact rfl))); have e0 : True := trivial; clear e0; refine any_putK ?_; intro K hK; go_simp; refine hK _ ?_; clear hK K
                    refine any_end (by decide +kernel) ?_
                    go_wp2_with fail
                    go_meet
                    refine ⟨_, LX, wp3.heap.size, AX, cX, rfl, rfl, Lib.hid ?_, Lib.hid ?_, Lib.hid ?_, ?_, ?_, ?_, ?_, ?_⟩
                    · refine ⟨?_, ?_, ?_, fun j => ?_, ?_⟩
                      · go_simp
                      · go_simp
                      · go_simp
                      · go_simp
                      · exact (by first | exact Nat.le_refl _ | (simp [World.setCell]; done) | (simp [World.setCell]; omega) | omega)
                    · repeat (first | (with_reducible exact hOX) | (with_reducible refine RowOwn.drew ?_) | (with_reducible refine RowOwn.alloc ?_ _) | (with_reducible refine RowOwn.setC ?_ ?_ _; focus (first | (left; first | omega | (simp; omega) | (simp; done)) | (right; first | omega | (simp; omega) | (simp; done)))))
                    · repeat (first | (with_reducible exact Below.refl _ _) | (with_reducible refine Bal ?_ _) | (with_reducible refine Below.drew ?_) | (with_reducible refine below_drewN ?_ _) | (with_reducible refine Bset ?_ ?_ _; focus (first | (with_reducible exact Nat.le_refl _) | (simp; done) | (simp; omega) | omega)) | (with_reducible refine Bt ?_ (by assumption)) | (with_reducible refine Bp (g := g) ?_ (by assumption) (by assumption)))
                    · exact (by first | exact Nat.le_refl _ | (simp [World.setCell]; done) | (simp [World.setCell]; omega) | omega)
                    · omega
                    · omega
                    · exact (by first | exact Nat.le_refl _ | (simp [World.setCell]; done) | (simp [World.setCell]; omega) | omega)
                    · first | omega | (simp; omega) | (simp; done)
          · refine any_one rfl rfl rfl ?_
            go_wp2_with ((go_at_call 18; refine (toBf_any _ 0 w.heap.size A n c y d q (Ha_13.out.below (B := w13.heap.size) (by omega) (by repeat (first | (with_reducible exact Below.refl _ _) | (with_reducible refine Bal ?_ _) | (with_reducible refine Below.drew ?_) | (with_reducible refine below_drewN ?_ _) | (with_reducible refine Bset ?_ ?_ _; focus (first | (with_reducible exact Nat.le_refl _) | (simp; done) | (simp; omega) | omega)) | (with_reducible refine Bt ?_ (by assumption)) | (with_reducible refine Bp (g := g) ?_ (by assumption) (by assumption))))) (by first | exact Nat.le_refl _ | (simp; done) | (simp; omega) | omega) hn).mono ?_; rintro e wp1 ⟨AT, cT, hOT, rfl, hbp1⟩; have hzp1 := hbp1.size; (try simp at hzp1); (try (have g0_1 := (bel_cells hbp1 (w13.heap.size) (by simp) (f := fun o => ([.int .i64 0, .int .i64 0, .slice none 0 0] : List Value)[o]?) (fun o => by simp [go_sem]) (fun o => by simp [go_sem])); obtain ⟨g0_1, f0_1⟩ := g0_1; have s0_1 : w13.heap.size < wp1.heap.size := (by have := hbp1.size; simp at this; omega)))))
            refine then_any rfl ?_ ?_; focus (first | (intro h; have h2 : false = true := h; cases h2) | (intro _; show Below _ _ _; first | (with_reducible assumption) | (first | exact Below.mono (by with_reducible assumption) (by first | exact Nat.le_refl _ | (simp [World.setCell]; done) | (simp [World.setCell]; omega) | omega) | (repeat (first | (with_reducible exact Below.refl _ _) | (with_reducible exact below_undrew _ _) | (with_reducible refine Below.drew ?_) | (with_reducible refine Below.alloc ?_ (by first | exact Nat.le_refl _ | (simp [World.setCell]; done) | (simp [World.setCell]; omega) | omega) _))))))
            refine any_branch (by decide +kernel) ?_
            simp only [List.size_toArray, List.length_cons, List.length_nil, Nat.zero_add, Nat.reduceAdd]
            repeat' (first | exact lt_zero | refine lt_succ ?_ ?_ | exact any_none (by decide +kernel) | fail)
            · refine any_one rfl rfl rfl ?_
              go_wp2_with (fail)
              refine then_any rfl ?_ ?_; focus (first | (intro h; have h2 : false = true := h; cases h2) | (intro _; show Below _ _ _; first | (with_reducible assumption) | (first | exact Below.mono (by with_reducible assumption) (by first | exact Nat.le_refl _ | (simp [World.setCell]; done) | (simp [World.setCell]; omega) | omega) | (repeat (first | (with_reducible exact Below.refl _ _) | (with_reducible exact below_undrew _ _) | (with_reducible refine Below.drew ?_) | (with_reducible refine Below.alloc ?_ (by first | exact Nat.le_refl _ | (simp [World.setCell]; done) | (simp [World.setCell]; omega) | omega) _))))))
              refine any_branch (by decide +kernel) ?_
              simp only [List.size_toArray, List.length_cons, List.length_nil, Nat.zero_add, Nat.reduceAdd]
              repeat' (first | exact lt_zero | refine lt_succ ?_ ?_ | exact any_none (by decide +kernel) | fail)
              · refine any_one rfl rfl rfl ?_
                go_wp2_with ((go_at_call 25; refine (toPk_any _ _ _ _ _ _ _).mono ?_; rintro e wp2 ⟨rfl, hbp2⟩; have hzp2 := hbp2.size; (try simp at hzp2); (try (have g0_2 := (bel_cells hbp2 (w13.heap.size) (by first | omega | (simp; omega)) g0_1 f0_1); obtain ⟨g0_2, f0_2⟩ := g0_2; have s0_2 : w13.heap.size < wp2.heap.size := (by omega))); (try (have g1_2 := (bel_cells hbp2 (wp1.heap.size) (by simp) (f := fun o => ([.int .i64 0, .int .i64 0, .slice none 0 0] : List Value)[o]?) (fun o => by simp [go_sem]) (fun o => by simp [go_sem])); obtain ⟨g1_2, f1_2⟩ := g1_2; have s1_2 : wp1.heap.size < wp2.heap.size := (by have := hbp2.size; simp at this; omega)))))
                refine then_any rfl ?_ ?_; focus (first | (intro h; have h2 : false = true := h; cases h2) | (intro _; show Below _ _ _; first | (with_reducible assumption) | (first | exact Below.mono (by with_reducible assumption) (by first | exact Nat.le_refl _ | (simp [World.setCell]; done) | (simp [World.setCell]; omega) | omega) | (repeat (first | (with_reducible exact Below.refl _ _) | (with_reducible exact below_undrew _ _) | (with_reducible refine Below.drew ?_) | (with_reducible refine Below.alloc ?_ (by first | exact Nat.le_refl _ | (simp [World.setCell]; done) | (simp [World.setCell]; omega) | omega) _))))))
                refine any_branch (by decide +kernel) ?_
                simp only [List.size_toArray, List.length_cons, List.length_nil, Nat.zero_add, Nat.reduceAdd]
                repeat' (first | exact lt_zero | refine lt_succ ?_ ?_ | exact any_none (by decide +kernel) | fail)
                · refine any_one rfl rfl rfl ?_
                  go_wp2_with ((go_at_call 26; refine (HI.out _ _ _ _ _ (RowOwn.row (RowOwn.below (Nat.le_refl _) hOT (by repeat (first | (with_reducible exact Below.refl _ _) | (with_reducible refine Bal ?_ _) | (with_reducible refine Below.drew ?_) | (with_reducible refine below_drewN ?_ _) | (with_reducible refine Bset ?_ ?_ _; focus (first | (with_reducible exact Nat.le_refl _) | (simp; done) | (simp; omega) | omega)) | (with_reducible refine Bt ?_ (by assumption)) | (with_reducible refine Bp (g := g) ?_ (by assumption) (by assumption)))))) (by first | exact Nat.le_refl _ | (simp; done) | (simp; omega) | omega)).mono ?_; rintro e wp3 ⟨AX, cX, hO, rfl, hbp3⟩; obtain ⟨LX, hLX, hOX⟩ : ∃ L : Nat, L = _ ∧ RowOwn 54 wp3 L wp3.heap.size AX nn cX 7 (HdF qq) := ⟨_, rfl, hO⟩; (try simp at hLX); clear hO; have hzp3 := hbp3.size; (try simp at hzp3); (try (have g0_3 := (bel_cells hbp3 (w13.heap.size) (by first | omega | (simp; omega)) g0_2 f0_2); obtain ⟨g0_3, f0_3⟩ := g0_3; have s0_3 : w13.heap.size < wp3.heap.size := (by omega))); (try (have g1_3 := (bel_cells hbp3 (wp1.heap.size) (by first | omega | (simp; omega)) g1_2 f1_2); obtain ⟨g1_3, f1_3⟩ := g1_3; have s1_3 : wp1.heap.size < wp3.heap.size := (by omega))); (try (have g2_3 := (bel_cells hbp3 (wp2.heap.size) (by simp) (f := fun o => ([.int .i64 0, .int .i64 0, .slice none 0 0] : List Value)[o]?) (fun o => by simp [go_sem]) (fun o => by simp [go_sem])); obtain ⟨g2_3, f2_3⟩ := g2_3; have s2_3 : wp2.heap.size < wp3.heap.size := (by have := hbp3.size; simp at this; omega)))))
                  refine then_any rfl ?_ ?_; focus (first | (intro h; have h2 : false = true := h; cases h2) | (intro _; show Below _ _ _; first | (with_reducible assumption) | (first | exact Below.mono (by with_reducible assumption) (by first | exact Nat.le_refl _ | (simp [World.setCell]; done) | (simp [World.setCell]; omega) | omega) | (repeat (first | (with_reducible exact Below.refl _ _) | (with_reducible exact below_undrew _ _) | (with_reducible refine Below.drew ?_) | (with_reducible refine Below.alloc ?_ (by first | exact Nat.le_refl _ | (simp [World.setCell]; done) | (simp [World.setCell]; omega) | omega) _))))))
                  refine any_pure 6 (by decide +kernel) rfl rfl ?_; apply Exists.intro; refine ⟨fun w' => ?_, ?_⟩; (focus (first | (fail) | (go_simp; try exact rfl))); have e0 : True := trivial; clear e0; refine any_putK ?_; intro K hK; go_simp; refine hK _ ?_; clear hK K
                  refine any_pure 7 (by decide +kernel) rfl rfl ?_; apply Exists.intro; refine ⟨fun w' => ?_, ?_⟩; (focus (first | (fail) | (go_simp; try exact rfl))); have e0 : True := trivial; clear e0; refine any_putK ?_; intro K hK; go_simp; refine hK _ ?_; clear hK K
                  refine any_pure 8 (by decide +kernel) rfl rfl ?_; apply Exists.intro; refine ⟨fun w' => ?_, ?_⟩; (focus (first | (fail) | (go_simp; try exact rfl))); have e0 : True := trivial; clear e0; refine any_putK ?_; intro K hK; go_simp; refine hK _ ?_; clear hK K
                  refine any_branch (by decide +kernel) ?_
                  simp only [List.size_toArray, List.length_cons, List.length_nil, Nat.zero_add, Nat.reduceAdd]
                  repeat' (first | exact lt_zero | refine lt_succ ?_ ?_ | exact any_none (by decide +kernel) | fail)
                  · refine any_one rfl rfl rfl ?_
                    go_wp2_with (fail)
                    refine then_any rfl ?_ ?_; focus (first | (intro h; have h2 : false = true := h; cases h2) | (intro _; show Below _ _ _; first | (with_reducible assumption) | (first | exact Below.mono (by with_reducible assumption) (by first | exact Nat.le_refl _ | (simp [World.setCell]; done) | (simp [World.setCell]; omega) | omega) | (repeat (first | (with_reducible exact Below.refl _ _) | (with_reducible exact below_undrew _ _) | (with_reducible refine Below.drew ?_) | (with_reducible refine Below.alloc ?_ (by first | exact Nat.le_refl _ | (simp [World.setCell]; done) | (simp [World.setCell]; omega) | omega) _))))))
                    refine any_pure 11 (by decide +kernel) rfl rfl ?_; apply Exists.intro; refine ⟨fun w' => ?_, ?_⟩; (focus (first | (fail) | (go_simp; try exact rfl))); have e0 : True := trivial; clear e0; refine any_putK ?_; intro K hK; go_simp; refine hK _ ?_; clear hK K
                    refine any_end (by decide +kernel) ?_
                    go_wp2_with fail
                    go_meet
                    refine ⟨_, LX, wp3.heap.size, AX, cX, rfl, rfl, Lib.hid ?_, Lib.hid ?_, Lib.hid ?_, ?_, ?_, ?_, ?_, ?_⟩
                    · refine ⟨?_, ?_, ?_, fun j => ?_, ?_⟩
                      · go_simp
                      · go_simp
                      · go_simp
                      · go_simp
                      · exact (by first | exact Nat.le_refl _ | (simp [World.setCell]; done) | (simp [World.setCell]; omega) | omega)
                    · repeat (first | (with_reducible exact hOX) | (with_reducible refine RowOwn.drew ?_) | (with_reducible refine RowOwn.alloc ?_ _) | (with_reducible refine RowOwn.setC ?_ ?_ _; focus (first | (left; first | omega | (simp; omega) | (simp; done)) | (right; first | omega | (simp; omega) | (simp; done)))))
                    · repeat (first | (with_reducible exact Below.refl _ _) | (with_reducible refine Bal ?_ _) | (with_reducible refine Below.drew ?_) | (with_reducible refine below_drewN ?_ _) | (with_reducible refine Bset ?_ ?_ _; focus (first | (with_reducible exact Nat.le_refl _) | (simp; done) | (simp; omega) | omega)) | (with_reducible refine Bt ?_ (by assumption)) | (with_reducible refine Bp (g := g) ?_ (by assumption) (by assumption)))
                    · exact (by first | exact Nat.le_refl _ | (simp [World.setCell]; done) | (simp [World.setCell]; omega) | omega)
                    · omega
                    · omega
                    · exact (by first | exact Nat.le_refl _ | (simp [World.setCell]; done) | (simp [World.setCell]; omega) | omega)
                    · first | omega | (simp; omega) | (simp; done)
            · refine any_one rfl rfl rfl ?_
              go_wp2_with ((go_at_call 25; refine (toPk_any _ _ _ _ _ _ _).mono ?_; rintro e wp2 ⟨rfl, hbp2⟩; have hzp2 := hbp2.size; (try simp at hzp2); (try (have g0_2 := (bel_cells hbp2 (w13.heap.size) (by first | omega | (simp; omega)) g0_1 f0_1); obtain ⟨g0_2, f0_2⟩ := g0_2; have s0_2 : w13.heap.size < wp2.heap.size := (by omega))); (try (have g1_2 := (bel_cells hbp2 (wp1.heap.size) (by simp) (f := fun o => ([.int .i64 0, .int .i64 0, .slice none 0 0] : List Value)[o]?) (fun o => by simp [go_sem]) (fun o => by simp [go_sem])); obtain ⟨g1_2, f1_2⟩ := g1_2; have s1_2 : wp1.heap.size < wp2.heap.size := (by have := hbp2.size; simp at this; omega)))))
              refine then_any rfl ?_ ?_; focus (first | (intro h; have h2 : false = true := h; cases h2) | (intro _; show Below _ _ _; first | (with_reducible assumption) | (first | exact Below.mono (by with_reducible assumption) (by first | exact Nat.le_refl _ | (simp [World.setCell]; done) | (simp [World.setCell]; omega) | omega) | (repeat (first | (with_reducible exact Below.refl _ _) | (with_reducible exact below_undrew _ _) | (with_reducible refine Below.drew ?_) | (with_reducible refine Below.alloc ?_ (by first | exact Nat.le_refl _ | (simp [World.setCell]; done) | (simp [World.setCell]; omega) | omega) _))))))
              refine any_branch (by decide +kernel) ?_
              simp only [List.size_toArray, List.length_cons, List.length_nil, Nat.zero_add, Nat.reduceAdd]
              repeat' (first | exact lt_zero | refine lt_succ ?_ ?_ | exact any_none (by decide +kernel) | fail)
              · refine any_one rfl rfl rfl ?_
                go_wp2_with (fail)
                refine then_any rfl ?_ ?_; focus (first | (intro h; have h2 : false = true := h; cases h2) | (intro _; show Below _ _ _; first | (with_reducible assumption) | (first | exact Below.mono (by with_reducible assumption) (by first | exact Nat.le_refl _ | (simp [World.setCell]; done) | (simp [World.setCell]; omega) | omega) | (repeat (first | (with_reducible exact Below.refl _ _) | (with_reducible exact below_undrew _ _) | (with_reducible refine Below.drew ?_) | (with_reducible refine Below.alloc ?_ (by first | exact Nat.le_refl _ | (simp [World.setCell]; done) | (simp [World.setCell]; omega) | omega) _))))))
                refine any_branch (by decide +kernel) ?_
                simp only [List.size_toArray, List.length_cons, List.length_nil, Nat.zero_add, Nat.reduceAdd]
                repeat' (first | exact lt_zero | refine lt_succ ?_ ?_ | exact any_none (by decide +kernel) | fail)
                · refine any_one rfl rfl rfl ?_
                  go_wp2_with ((go_at_call 26; refine (HI.out _ _ _ _ _ (RowOwn.row (RowOwn.below (Nat.le_refl _) hOT (by repeat (first | (with_reducible exact Below.refl _ _) | (with_reducible refine Bal ?_ _) | (with_reducible refine Below.drew ?_) | (with_reducible refine below_drewN ?_ _) | (with_reducible refine Bset ?_ ?_ _; focus (first | (with_reducible exact Nat.le_refl _) | (simp; done) | (simp; omega) | omega)) | (with_reducible refine Bt ?_ (by assumption)) | (with_reducible refine Bp (g := g) ?_ (by assumption) (by assumption)))))) (by first | exact Nat.le_refl _ | (simp; done) | (simp; omega) | omega)).mono ?_; rintro e wp3 ⟨AX, cX, hO, rfl, hbp3⟩; obtain ⟨LX, hLX, hOX⟩ : ∃ L : Nat, L = _ ∧ RowOwn 54 wp3 L wp3.heap.size AX nn cX 7 (HdF qq) := ⟨_, rfl, hO⟩; (try simp at hLX); clear hO; have hzp3 := hbp3.size; (try simp at hzp3); (try (have g0_3 := (bel_cells hbp3 (w13.heap.size) (by first | omega | (simp; omega)) g0_2 f0_2); obtain ⟨g0_3, f0_3⟩ := g0_3; have s0_3 : w13.heap.size < wp3.heap.size := (by omega))); (try (have g1_3 := (bel_cells hbp3 (wp1.heap.size) (by first | omega | (simp; omega)) g1_2 f1_2); obtain ⟨g1_3, f1_3⟩ := g1_3; have s1_3 : wp1.heap.size < wp3.heap.size := (by omega))); (try (have g2_3 := (bel_cells hbp3 (wp2.heap.size) (by simp) (f := fun o => ([.int .i64 0, .int .i64 0, .slice none 0 0] : List Value)[o]?) (fun o => by simp [go_sem]) (fun o => by simp [go_sem])); obtain ⟨g2_3, f2_3⟩ := g2_3; have s2_3 : wp2.heap.size < wp3.heap.size := (by have := hbp3.size; simp at this; omega)))))
                  refine then_any rfl ?_ ?_; focus (first | (intro h; have h2 : false = true := h; cases h2) | (intro _; show Below _ _ _; first | (with_reducible assumption) | (first | exact Below.mono (by with_reducible assumption) (by first | exact Nat.le_refl _ | (simp [World.setCell]; done) | (simp [World.setCell]; omega) | omega) | (repeat (first | (with_reducible exact Below.refl _ _) | (with_reducible exact below_undrew _ _) | (with_reducible refine Below.drew ?_) | (with_reducible refine Below.alloc ?_ (by first | exact Nat.le_refl _ | (simp [World.setCell]; done) | (simp [World.setCell]; omega) | omega) _))))))
                  refine any_pure 6 (by decide +kernel) rfl rfl ?_; apply Exists.intro; refine ⟨fun w' => ?_, ?_⟩; (focus (first | (fail) | (go_simp; try exact rfl))); have e0 : True := trivial; clear e0; refine any_putK ?_; intro K hK; go_simp; refine hK _ ?_; clear hK K
                  refine any_pure 7 (by decide +kernel) rfl rfl ?_; apply Exists.intro; refine ⟨fun w' => ?_, ?_⟩; (focus (first | (fail) | (go_simp; try exact rfl))); have e0 : True := trivial; clear e0; refine any_putK ?_; intro K hK; go_simp; refine hK _ ?_; clear hK K
                  refine any_pure 8 (by decide +kernel) rfl rfl ?_; apply Exists.intro; refine ⟨fun w' => ?_, ?_⟩; (focus (first | (fail) | (go_simp; try exact rfl))); have e0 : True := trivial; clear e0; refine any_putK ?_; intro K hK; go_simp; refine hK _ ?_; clear hK K
                  refine any_branch (by decide +kernel) ?_
                  simp only [List.size_toArray, List.length_cons, List.length_nil, Nat.zero_add, Nat.reduceAdd]
                  repeat' (first | exact lt_zero | refine lt_succ ?_ ?_ | exact any_none (by decide +kernel) | fail)
                  · refine any_one rfl rfl rfl ?_
                    go_wp2_with (fail)
                    refine then_any rfl ?_ ?_; focus (first | (intro h; have h2 : false = true := h; cases h2) | (intro _; show Below _ _ _; first | (with_reducible assumption) | (first | exact Below.mono (by with_reducible assumption) (by first | exact Nat.le_refl _ | (simp [World.setCell]; done) | (simp [World.setCell]; omega) | omega) | (repeat (first | (with_reducible exact Below.refl _ _) | (with_reducible exact below_undrew _ _) | (with_reducible refine Below.drew ?_) | (with_reducible refine Below.alloc ?_ (by first | exact Nat.le_refl _ | (simp [World.setCell]; done) | (simp [World.setCell]; omega) | omega) _))))))
                    refine any_pure 11 (by decide +kernel) rfl rfl ?_; apply Exists.intro; refine ⟨fun w' => ?_, ?_⟩; (focus (first | (fail) | (go_simp; try exact rfl))); have e0 : True := trivial; clear e0; refine any_putK ?_; intro K hK; go_simp; refine hK _ ?_; clear hK K
                    refine any_end (by decide +kernel) ?_
                    go_wp2_with fail
                    go_meet
                    refine ⟨_, LX, wp3.heap.size, AX, cX, rfl, rfl, Lib.hid ?_, Lib.hid ?_, Lib.hid ?_, ?_, ?_, ?_, ?_, ?_⟩
                    · refine ⟨?_, ?_, ?_, fun j => ?_, ?_⟩
                      · go_simp
                      · go_simp
                      · go_simp
                      · go_simp
                      · exact (by first | exact Nat.le_refl _ | (simp [World.setCell]; done) | (simp [World.setCell]; omega) | omega)
                    · repeat (first | (with_reducible exact hOX) | (with_reducible refine RowOwn.drew ?_) | (with_reducible refine RowOwn.alloc ?_ _) | (with_reducible refine RowOwn.setC ?_ ?_ _; focus (first | (left; first | omega | (simp; omega) | (simp; done)) | (right; first | omega | (simp; omega) | (simp; done)))))
                    · repeat (first | (with_reducible exact Below.refl _ _) | (with_reducible refine Bal ?_ _) | (with_reducible refine Below.drew ?_) | (with_reducible refine below_drewN ?_ _) | (with_reducible refine Bset ?_ ?_ _; focus (first | (with_reducible exact Nat.le_refl _) | (simp; done) | (simp; omega) | omega)) | (with_reducible refine Bt ?_ (by assumption)) | (with_reducible refine Bp (g := g) ?_ (by assumption) (by assumption)))
                    · exact (by first | exact Nat.le_refl _ | (simp [World.setCell]; done) | (simp [World.setCell]; omega) | omega)
                    · omega
                    · omega
                    · exact (by first | exact Nat.le_refl _ | (simp [World.setCell]; done) | (simp [World.setCell]; omega) | omega)
                    · first | omega | (simp; omega) | (simp; done)
              · refine any_one rfl rfl rfl ?_
                go_wp2_with ((go_at_call 26; refine (HI.out _ _ _ _ _ (RowOwn.row (RowOwn.below (Nat.le_refl _) hOT (by repeat (first | (with_reducible exact Below.refl _ _) | (with_reducible refine Bal ?_ _) | (with_reducible refine Below.drew ?_) | (with_reducible refine below_drewN ?_ _) | (with_reducible refine Bset ?_ ?_ _; focus (first | (with_reducible exact Nat.le_refl _) | (simp; done) | (simp; omega) | omega)) | (with_reducible refine Bt ?_ (by assumption)) | (with_reducible refine Bp (g := g) ?_ (by assumption) (by assumption)))))) (by first | exact Nat.le_refl _ | (simp; done) | (simp; omega) | omega)).mono ?_; rintro e wp3 ⟨AX, cX, hO, rfl, hbp3⟩; obtain ⟨LX, hLX, hOX⟩ : ∃ L : Nat, L = _ ∧ RowOwn 54 wp3 L wp3.heap.size AX nn cX 7 (HdF qq) := ⟨_, rfl, hO⟩; (try simp at hLX); clear hO; have hzp3 := hbp3.size; (try simp at hzp3); (try (have g0_3 := (bel_cells hbp3 (w13.heap.size) (by first | omega | (simp; omega)) g0_2 f0_2); obtain ⟨g0_3, f0_3⟩ := g0_3; have s0_3 : w13.heap.size < wp3.heap.size := (by omega))); (try (have g1_3 := (bel_cells hbp3 (wp1.heap.size) (by first | omega | (simp; omega)) g1_2 f1_2); obtain ⟨g1_3, f1_3⟩ := g1_3; have s1_3 : wp1.heap.size < wp3.heap.size := (by omega))); (try (have g2_3 := (bel_cells hbp3 (wp2.heap.size) (by simp) (f := fun o => ([.int .i64 0, .int .i64 0, .slice none 0 0] : List Value)[o]?) (fun o => by simp [go_sem]) (fun o => by simp [go_sem])); obtain ⟨g2_3, f2_3⟩ := g2_3; have s2_3 : wp2.heap.size < wp3.heap.size := (by have := hbp3.size; simp at this; omega)))))
                refine then_any rfl ?_ ?_; focus (first | (intro h; have h2 : false = true := h; cases h2) | (intro _; show Below _ _ _; first | (with_reducible assumption) | (first | exact Below.mono (by with_reducible assumption) (by first | exact Nat.le_refl _ | (simp [World.setCell]; done) | (simp [World.setCell]; omega) | omega) | (repeat (first | (with_reducible exact Below.refl _ _) | (with_reducible exact below_undrew _ _) | (with_reducible refine Below.drew ?_) | (with_reducible refine Below.alloc ?_ (by first | exact Nat.le_refl _ | (simp [World.setCell]; done) | (simp [World.setCell]; omega) | omega) _))))))
                refine any_pure 6 (by decide +kernel) rfl rfl ?_; apply Exists.intro; refine ⟨fun w' => ?_, ?_⟩; (focus (first | (fail) | (go_simp; try exact rfl))); have e0 : True := trivial; clear e0; refine any_putK ?_; intro K hK; go_simp; refine hK _ ?_; clear hK K
                refine any_pure 7 (by decide +kernel) rfl rfl ?_; apply Exists.intro; refine ⟨fun w' => ?_, ?_⟩; (focus (first | (fail) | (go_simp; try exact rfl))); have e0 : True := trivial; clear e0; refine any_putK ?_; intro K hK; go_simp; refine hK _ ?_; clear hK K
                refine any_pure 8 (by decide +kernel) rfl rfl ?_; apply Exists.intro; refine ⟨fun w' => ?_, ?_⟩; (focus (first | (fail) | (go_simp; try exact rfl))); have e0 : True := trivial; clear e0; refine any_putK ?_; intro K hK; go_simp; refine hK _ ?_; clear hK K
                refine any_branch (by decide +kernel) ?_
                simp only [List.size_toArray, List.length_cons, List.length_nil, Nat.zero_add, Nat.reduceAdd]
                repeat' (first | exact lt_zero | refine lt_succ ?_ ?_ | exact any_none (by decide +kernel) | fail)
                · refine any_one rfl rfl rfl ?_
                  go_wp2_with (fail)
                  refine then_any rfl ?_ ?_; focus (first | (intro h; have h2 : false = true := h; cases h2) | (intro _; show Below _ _ _; first | (with_reducible assumption) | (first | exact Below.mono (by with_reducible assumption) (by first | exact Nat.le_refl _ | (simp [World.setCell]; done) | (simp [World.setCell]; omega) | omega) | (repeat (first | (with_reducible exact Below.refl _ _) | (with_reducible exact below_undrew _ _) | (with_reducible refine Below.drew ?_) | (with_reducible refine Below.alloc ?_ (by first | exact Nat.le_refl _ | (simp [World.setCell]; done) | (simp [World.setCell]; omega) | omega) _))))))
                  refine any_branch (by decide +kernel) ?_
                  simp only [List.size_toArray, List.length_cons, List.length_nil, Nat.zero_add, Nat.reduceAdd]
                  repeat' (first | exact lt_zero | refine lt_succ ?_ ?_ | exact any_none (by decide +kernel) | fail)
                  · refine any_one rfl rfl rfl ?_
                    go_wp2_with (fail)
                    refine then_any rfl ?_ ?_; focus (first | (intro h; have h2 : false = true := h; cases h2) | (intro _; show Below _ _ _; first | (with_reducible assumption) | (first | exact Below.mono (by with_reducible assumption) (by first | exact Nat.le_refl _ | (simp [World.setCell]; done) | (simp [World.setCell]; omega) | omega) | (repeat (first | (with_reducible exact Below.refl _ _) | (with_reducible exact below_undrew _ _) | (with_reducible refine Below.drew ?_) | (with_reducible refine Below.alloc ?_ (by first | exact Nat.le_refl _ | (simp [World.setCell]; done) | (simp [World.setCell]; omega) | omega) _))))))
                    refine any_pure 11 (by decide +kernel) rfl rfl ?_; apply Exists.intro; refine ⟨fun w' => ?_, ?_⟩; (focus (first | (fail) | (go_simp; try exact rfl))); have e0 : True := trivial; clear e0; refine any_putK ?_; intro K hK; go_simp; refine hK _ ?_; clear hK K
                    refine any_end (by decide +kernel) ?_
                    go_wp2_with fail
                    go_meet
                    refine ⟨_, LX, wp3.heap.size, AX, cX, rfl, rfl, Lib.hid ?_, Lib.hid ?_, Lib.hid ?_, ?_, ?_, ?_, ?_, ?_⟩
                    · refine ⟨?_, ?_, ?_, fun j => ?_, ?_⟩
                      · go_simp
                      · go_simp
                      · go_simp
                      · go_simp
                      · exact (by first | exact Nat.le_refl _ | (simp [World.setCell]; done) | (simp [World.setCell]; omega) | omega)
                    · repeat (first | (with_reducible exact hOX) | (with_reducible refine RowOwn.drew ?_) | (with_reducible refine RowOwn.alloc ?_ _) | (with_reducible refine RowOwn.setC ?_ ?_ _; focus (first | (left; first | omega | (simp; omega) | (simp; done)) | (right; first | omega | (simp; omega) | (simp; done)))))
                    · repeat (first | (with_reducible exact Below.refl _ _) | (with_reducible refine Bal ?_ _) | (with_reducible refine Below.drew ?_) | (with_reducible refine below_drewN ?_ _) | (with_reducible refine Bset ?_ ?_ _; focus (first | (with_reducible exact Nat.le_refl _) | (simp; done) | (simp; omega) | omega)) | (with_reducible refine Bt ?_ (by assumption)) | (with_reducible refine Bp (g := g) ?_ (by assumption) (by assumption)))
                    · exact (by first | exact Nat.le_refl _ | (simp [World.setCell]; done) | (simp [World.setCell]; omega) | omega)
                    · omega
                    · omega
                    · exact (by first | exact Nat.le_refl _ | (simp [World.setCell]; done) | (simp [World.setCell]; omega) | omega)
                    · first | omega | (simp; omega) | (simp; done)
        case rest =>
          obtain ⟨b15, L15, H15, A15, c15, rfl, rfl, HX, HO, HW, q1, q2, q3, q4, q5⟩ := hcut
          obtain ⟨w15, rfl⟩ : ∃ v, v = wc := ⟨_, rfl⟩
          have hw15 := HW.out
          have hz15 : w13.heap.size ≤ w15.heap.size := hw15.size
          have l15_0 : w.heap.size < w15.heap.size := by omega
          have g15_0_0 : w15.cell? ⟨w.heap.size, 0, none⟩ = some (.int .i64 y) := (hw15.cell (p := ⟨w.heap.size, 0, none⟩) l13_0).trans g13_0_0
          have g15_0_1 : w15.cell? ⟨w.heap.size, 1, none⟩ = some (.int .i64 d) := (hw15.cell (p := ⟨w.heap.size, 1, none⟩) l13_0).trans g13_0_1
          have g15_0_2 : w15.cell? ⟨w.heap.size, 2, none⟩ = some (.slice A n c) := (hw15.cell (p := ⟨w.heap.size, 2, none⟩) l13_0).trans g13_0_2
          have l15_1 : w.heap.size + 1 < w15.heap.size := by omega
          have g15_1_0 : w15.cell? ⟨w.heap.size + 1, 0, none⟩ = some (.int .i64 pa) := (hw15.cell (p := ⟨w.heap.size + 1, 0, none⟩) l13_1).trans g13_1_0
          have g15_1_1 : w15.cell? ⟨w.heap.size + 1, 1, none⟩ = some (.int .i64 pb) := (hw15.cell (p := ⟨w.heap.size + 1, 1, none⟩) l13_1).trans g13_1_1
          have g15_1_2 : w15.cell? ⟨w.heap.size + 1, 2, none⟩ = some (.int .i64 pc) := (hw15.cell (p := ⟨w.heap.size + 1, 2, none⟩) l13_1).trans g13_1_2
          have g15_1_3 : w15.cell? ⟨w.heap.size + 1, 3, none⟩ = some (.int .i64 pd) := (hw15.cell (p := ⟨w.heap.size + 1, 3, none⟩) l13_1).trans g13_1_3
          have g15_1_4 : w15.cell? ⟨w.heap.size + 1, 4, none⟩ = some (.bool pk) := (hw15.cell (p := ⟨w.heap.size + 1, 4, none⟩) l13_1).trans g13_1_4
          have g15_1_5 : w15.cell? ⟨w.heap.size + 1, 5, none⟩ = some (.bool pz) := (hw15.cell (p := ⟨w.heap.size + 1, 5, none⟩) l13_1).trans g13_1_5
          have l15_2 : b2 < w15.heap.size := by omega
          have g15_2_0 : w15.cell? ⟨b2, 0, none⟩ = some (.int .i64 yy) := (hw15.cell (p := ⟨b2, 0, none⟩) l13_2).trans g13_2_0
          have g15_2_1 : w15.cell? ⟨b2, 1, none⟩ = some (.int .i64 dd) := (hw15.cell (p := ⟨b2, 1, none⟩) l13_2).trans g13_2_1
          have g15_2_2 : w15.cell? ⟨b2, 2, none⟩ = some (.slice A2 nn c2) := (hw15.cell (p := ⟨b2, 2, none⟩) l13_2).trans g13_2_2
          have l15_3 : w3.heap.size < w15.heap.size := by omega
          have g15_3_0 : w15.cell? ⟨w3.heap.size, 0, none⟩ = some (.int .i64 y) := (hw15.cell (p := ⟨w3.heap.size, 0, none⟩) l13_3).trans g13_3_0
          have g15_3_1 : w15.cell? ⟨w3.heap.size, 1, none⟩ = some (.int .i64 d) := (hw15.cell (p := ⟨w3.heap.size, 1, none⟩) l13_3).trans g13_3_1
          have g15_3_2 : w15.cell? ⟨w3.heap.size, 2, none⟩ = some (.slice A3 n c3) := (hw15.cell (p := ⟨w3.heap.size, 2, none⟩) l13_3).trans g13_3_2
          have l15_4 : b5 < w15.heap.size := by omega
          have g15_4_0 : w15.cell? ⟨b5, 0, none⟩ = some (.int .i64 yy) := (hw15.cell (p := ⟨b5, 0, none⟩) l13_4).trans g13_4_0
          have g15_4_1 : w15.cell? ⟨b5, 1, none⟩ = some (.int .i64 dd) := (hw15.cell (p := ⟨b5, 1, none⟩) l13_4).trans g13_4_1
          have g15_4_2 : w15.cell? ⟨b5, 2, none⟩ = some (.slice A5 nn c5) := (hw15.cell (p := ⟨b5, 2, none⟩) l13_4).trans g13_4_2
          have HB15 := Lib.hid (HB13.out.trans (hw15.mono HB13.out.size))
          have Ha_15 := Lib.hid (Ha_13.out.below (by omega) hw15)
          have Hs_15 := Lib.hid (Hs_13.out.below (by omega) hw15)
          have Hg_15 := Lib.hid (Hg_13.out.below (by omega) hw15)
          obtain ⟨g15_5_0, g15_5_1, g15_5_2, fX, l15_5⟩ := HX.out
          clear fX HX HW hw15
          have B15 := l15_5
          have Hh_15 := HO
          clear HO
          clear l13_0 g13_0_0 g13_0_1 g13_0_2
          clear l13_1 g13_1_0 g13_1_1 g13_1_2 g13_1_3 g13_1_4 g13_1_5
          clear l13_2 g13_2_0 g13_2_1 g13_2_2
          clear l13_3 g13_3_0 g13_3_1 g13_3_2
          clear l13_4 g13_4_0 g13_4_1 g13_4_2
          clear Ha_13
          clear Hs_13
          clear Hg_13
          clear HB13
          go_wp2_with fail
          refine (eqBf_same _ (RowOwn.row (Hh_15.out.below (B := w15.heap.size) (by omega) (by repeat (first | (with_reducible exact Below.refl _ _) | (with_reducible refine Bal ?_ _) | (with_reducible refine Below.drew ?_) | (with_reducible refine below_drewN ?_ _) | (with_reducible refine Bset ?_ ?_ _; focus (first | (with_reducible exact Nat.le_refl _) | (simp; done) | (simp; omega) | omega)) | (with_reducible refine Bt ?_ (by assumption)) | (with_reducible refine Bp (g := g) ?_ (by assumption) (by assumption)))))) (RowOwn.row (Hs_15.out.below (B := w15.heap.size) (by omega) (by repeat (first | (with_reducible exact Below.refl _ _) | (with_reducible refine Bal ?_ _) | (with_reducible refine Below.drew ?_) | (with_reducible refine below_drewN ?_ _) | (with_reducible refine Bset ?_ ?_ _; focus (first | (with_reducible exact Nat.le_refl _) | (simp; done) | (simp; omega) | omega)) | (with_reducible refine Bt ?_ (by assumption)) | (with_reducible refine Bp (g := g) ?_ (by assumption) (by assumption)))))) (by first | exact Nat.le_refl _ | (simp; done) | (simp; omega) | omega) (by first | exact Nat.le_refl _ | (simp; done) | (simp; omega) | omega) hnn).mono ?_
          rintro e w16 ⟨rfl, hb16⟩
          have hw16 : Below w15.heap.size w15 w16 := by repeat (first | (with_reducible exact Below.refl _ _) | (with_reducible refine Bal ?_ _) | (with_reducible refine Below.drew ?_) | (with_reducible refine below_drewN ?_ _) | (with_reducible refine Bset ?_ ?_ _; focus (first | (with_reducible exact Nat.le_refl _) | (simp; done) | (simp; omega) | omega)) | (with_reducible refine Bt ?_ (by assumption)) | (with_reducible refine Bp (g := g) ?_ (by assumption) (by assumption)))
          have hz16 : w15.heap.size ≤ w16.heap.size := hw16.size
          obtain ⟨hc16, hf16⟩ := bcell hb16
          have hy16 := hb16.size
          try simp at hy16
          have l16_0 : w.heap.size < w16.heap.size := by omega
          have g16_0_0 : w16.cell? ⟨w.heap.size, 0, none⟩ = some (.int .i64 y) := (hw16.cell (p := ⟨w.heap.size, 0, none⟩) l15_0).trans g15_0_0
          have g16_0_1 : w16.cell? ⟨w.heap.size, 1, none⟩ = some (.int .i64 d) := (hw16.cell (p := ⟨w.heap.size, 1, none⟩) l15_0).trans g15_0_1
          have g16_0_2 : w16.cell? ⟨w.heap.size, 2, none⟩ = some (.slice A n c) := (hw16.cell (p := ⟨w.heap.size, 2, none⟩) l15_0).trans g15_0_2
          have l16_1 : w.heap.size + 1 < w16.heap.size := by omega
          have g16_1_0 : w16.cell? ⟨w.heap.size + 1, 0, none⟩ = some (.int .i64 pa) := (hw16.cell (p := ⟨w.heap.size + 1, 0, none⟩) l15_1).trans g15_1_0
          have g16_1_1 : w16.cell? ⟨w.heap.size + 1, 1, none⟩ = some (.int .i64 pb) := (hw16.cell (p := ⟨w.heap.size + 1, 1, none⟩) l15_1).trans g15_1_1
          have g16_1_2 : w16.cell? ⟨w.heap.size + 1, 2, none⟩ = some (.int .i64 pc) := (hw16.cell (p := ⟨w.heap.size + 1, 2, none⟩) l15_1).trans g15_1_2
          have g16_1_3 : w16.cell? ⟨w.heap.size + 1, 3, none⟩ = some (.int .i64 pd) := (hw16.cell (p := ⟨w.heap.size + 1, 3, none⟩) l15_1).trans g15_1_3
          have g16_1_4 : w16.cell? ⟨w.heap.size + 1, 4, none⟩ = some (.bool pk) := (hw16.cell (p := ⟨w.heap.size + 1, 4, none⟩) l15_1).trans g15_1_4
          have g16_1_5 : w16.cell? ⟨w.heap.size + 1, 5, none⟩ = some (.bool pz) := (hw16.cell (p := ⟨w.heap.size + 1, 5, none⟩) l15_1).trans g15_1_5
          have l16_2 : b2 < w16.heap.size := by omega
          have g16_2_0 : w16.cell? ⟨b2, 0, none⟩ = some (.int .i64 yy) := (hw16.cell (p := ⟨b2, 0, none⟩) l15_2).trans g15_2_0
          have g16_2_1 : w16.cell? ⟨b2, 1, none⟩ = some (.int .i64 dd) := (hw16.cell (p := ⟨b2, 1, none⟩) l15_2).trans g15_2_1
          have g16_2_2 : w16.cell? ⟨b2, 2, none⟩ = some (.slice A2 nn c2) := (hw16.cell (p := ⟨b2, 2, none⟩) l15_2).trans g15_2_2
          have l16_3 : w3.heap.size < w16.heap.size := by omega
          have g16_3_0 : w16.cell? ⟨w3.heap.size, 0, none⟩ = some (.int .i64 y) := (hw16.cell (p := ⟨w3.heap.size, 0, none⟩) l15_3).trans g15_3_0
          have g16_3_1 : w16.cell? ⟨w3.heap.size, 1, none⟩ = some (.int .i64 d) := (hw16.cell (p := ⟨w3.heap.size, 1, none⟩) l15_3).trans g15_3_1
          have g16_3_2 : w16.cell? ⟨w3.heap.size, 2, none⟩ = some (.slice A3 n c3) := (hw16.cell (p := ⟨w3.heap.size, 2, none⟩) l15_3).trans g15_3_2
          have l16_4 : b5 < w16.heap.size := by omega
          have g16_4_0 : w16.cell? ⟨b5, 0, none⟩ = some (.int .i64 yy) := (hw16.cell (p := ⟨b5, 0, none⟩) l15_4).trans g15_4_0
          have g16_4_1 : w16.cell? ⟨b5, 1, none⟩ = some (.int .i64 dd) := (hw16.cell (p := ⟨b5, 1, none⟩) l15_4).trans g15_4_1
          have g16_4_2 : w16.cell? ⟨b5, 2, none⟩ = some (.slice A5 nn c5) := (hw16.cell (p := ⟨b5, 2, none⟩) l15_4).trans g15_4_2
          have l16_5 : b15 < w16.heap.size := by omega
          have g16_5_0 : w16.cell? ⟨b15, 0, none⟩ = some (.int .i64 yy) := (hw16.cell (p := ⟨b15, 0, none⟩) l15_5).trans g15_5_0
          have g16_5_1 : w16.cell? ⟨b15, 1, none⟩ = some (.int .i64 dd) := (hw16.cell (p := ⟨b15, 1, none⟩) l15_5).trans g15_5_1
          have g16_5_2 : w16.cell? ⟨b15, 2, none⟩ = some (.slice A15 nn c15) := (hw16.cell (p := ⟨b15, 2, none⟩) l15_5).trans g15_5_2
          have HB16 := Lib.hid (HB15.out.trans (hw16.mono HB15.out.size))
          have Ha_16 := Lib.hid (Ha_15.out.below (by omega) hw16)
          have Hs_16 := Lib.hid (Hs_15.out.below (by omega) hw16)
          have Hg_16 := Lib.hid (Hg_15.out.below (by omega) hw16)
          have Hh_16 := Lib.hid (Hh_15.out.below (by omega) hw16)
          clear hb16 hc16 hf16 hw16
          clear l15_0 g15_0_0 g15_0_1 g15_0_2
          clear l15_1 g15_1_0 g15_1_1 g15_1_2 g15_1_3 g15_1_4 g15_1_5
          clear l15_2 g15_2_0 g15_2_1 g15_2_2
          clear l15_3 g15_3_0 g15_3_1 g15_3_2
          clear l15_4 g15_4_0 g15_4_1 g15_4_2
          clear l15_5 g15_5_0 g15_5_1 g15_5_2
          clear Ha_15
          clear Hs_15
          clear Hg_15
          clear Hh_15
          clear HB15
          go_wp2_with fail
          refine (heldBf_any _ 1 (RowOwn.row (Hg_16.out.below (B := w16.heap.size) (by omega) (by repeat (first | (with_reducible exact Below.refl _ _) | (with_reducible refine Bal ?_ _) | (with_reducible refine Below.drew ?_) | (with_reducible refine below_drewN ?_ _) | (with_reducible refine Bset ?_ ?_ _; focus (first | (with_reducible exact Nat.le_refl _) | (simp; done) | (simp; omega) | omega)) | (with_reducible refine Bt ?_ (by assumption)) | (with_reducible refine Bp (g := g) ?_ (by assumption) (by assumption)))))) (by first | exact Nat.le_refl _ | (simp; done) | (simp; omega) | omega) hnn (by omega)).mono ?_
          rintro e w18 ⟨rfl, hb18⟩
          have hw18 : Below w16.heap.size w16 w18 := by repeat (first | (with_reducible exact Below.refl _ _) | (with_reducible refine Bal ?_ _) | (with_reducible refine Below.drew ?_) | (with_reducible refine below_drewN ?_ _) | (with_reducible refine Bset ?_ ?_ _; focus (first | (with_reducible exact Nat.le_refl _) | (simp; done) | (simp; omega) | omega)) | (with_reducible refine Bt ?_ (by assumption)) | (with_reducible refine Bp (g := g) ?_ (by assumption) (by assumption)))
          have HB18 := Lib.hid (HB16.out.trans (hw18.mono HB16.out.size))
          clear hb18 hw18
          go_wp2_with fail
          go_ret
          exact ⟨rfl, HB18.out⟩

end Go.Proofs.Ytegdogamenoaiaa
namespace Go.Proofs.Ytegdogamenoaiaa.fnExactBufferPut
open Go.ChangeShapes Go.WideShapes Go.ChangeAt Go.RowKit
set_option linter.unusedVariables false

theorem own : ownKnob Try.prog.godebug = none := by kernel_rfl
theorem laidOut : laidOutB Try.prog = true := by kernel_rfl

set_option maxRecDepth 100000 in
theorem lifted (os : Os) (started : os.Started) (H : Type) (enc : TypeId × Value → H) :
    ReturnsInHanded {} Try.checked os 4 .any (Rows.fnExactBufferPutSpec.pre6 enc Try.prog Try.f4 Rows.fnExactBufferPutRow.domain false) (Rows.fnExactBufferPutSpec.post enc Try.prog Try.f4 false true false false) := by
  refine returnsInHanded_of_change (C := Try.checked) own started (by kernel_rfl) Try.func4
    (ChangeSpec.witness6 (enc := enc) (C := Try.checked) false ⟨#[], #[.agg #[.int .i64 0, .int .i64 0, .slice none 0 0], .agg #[.int .i64 0, .int .i64 0, .int .i64 0, .int .i64 0, .bool false, .bool false], .int .i64 0], []⟩ 8 (by kernel_rfl) (by kernel_rfl) (by kernel_rfl) (by kernel_rfl)) ?_
  intro W base args ds gs before hval0 hW hcnd _
  have hval : ∀ (j : Nat) t v, Try.f4.params[j]? = some t → args[j]? = some v → Value.okWide Try.prog W .any base t v := hval0
  have hW' := hW
  obtain ⟨p, q, hA0, hV, rfl, hfz, hnd⟩ := hW
  have hA : DataW.TrodAll enc Try.prog W 0 (fun _ => true) true Try.f4.params.toList args.toList ds p := hA0
  rw [Try.params4] at hA hval
  obtain ⟨v0, vs0, d0, ds0, p0, q0, hargs, rfl, rfl, h0, r0⟩ := trodAll_cons hA
  obtain ⟨v1, vs1, d1, ds1, p1, q1, rfl, rfl, rfl, h1, r1⟩ := trodAll_cons r0
  obtain ⟨v2, vs2, d2, ds2, p2, q2, rfl, rfl, rfl, h2, r2⟩ := trodAll_cons r1
  obtain ⟨rfl, rfl, rfl⟩ := trodAll_nil r2
  obtain rfl : args = #[v0, v1, v2] := by cases args; simp_all
  obtain ⟨rfl, rfl⟩ := trodVars_none hV
  have k0 := h0
  have lt0 : ∀ x ∈ p0, x.block < W.heap.size := by obtain ⟨m, hm⟩ := k0; exact DataW.trod_lt m _ _ _ hm
  obtain ⟨by0, be0, a0, n0, c0, bq0, rfl, w0, l0⟩ := open_buffer (hval 0 24 v0 rfl rfl) h0
  have k1 := h1
  have lt1 : ∀ x ∈ p1, x.block < W.heap.size := by obtain ⟨m, hm⟩ := k1; exact DataW.trod_lt m _ _ _ hm
  obtain ⟨pa1, pb1, pc1, pd1, pk1, pz1, rfl⟩ := open_packet (hval 1 38 v1 rfl rfl) h1
  obtain ⟨a2, rfl, rfl, rfl, w2⟩ := open_int Try.underlying3 (hval 2 3 v2 rfl rfl) h2
  clear hA0 hval0
  refine (walk_FnExactBufferPut by0 be0 a0 n0 c0 bq0 pa1 pb1 pc1 pd1 pk1 pz1 a2 W w0 l0 w2).mono fun e W' ⟨he, bel⟩ => ?_
  subst he
  exact ⟨_, rfl, _, _, _, [], _, [], hW', trodAll_mk1 (shut_bool Try.underlying4 _), (trodAll_cons_mk (Below.trod laidOut (by kernel_rfl) (of_decide_eq_true (by kernel_rfl)) k0 bel lt0) (trodAll_cons_mk (Below.trod laidOut (by kernel_rfl) (of_decide_eq_true (by kernel_rfl)) k1 bel lt1) (trodAll_cons_mk (shut_int Try.underlying3 w2) trodAll_mk0))), rfl, bel.frame _, fun h => by cases h⟩

theorem over : Rows.fnExactBufferPutRow.holds Try.pinned (OpenSpec.ofChange Rows.fnExactBufferPutSpec) :=
  OpenClaim.holds_of_wide 4 Try.f4 rfl rfl rfl rfl rfl rfl rfl ⟨rfl, rfl, rfl, rfl, rfl⟩ rfl rfl rfl rfl rfl (by kernel_rfl) Try.func4 (by kernel_rfl)
    (of_decide_eq_true (by kernel_rfl)) (by unfold Func.isWrapper; first | (rw [if_pos (by decide +kernel)]; kernel_rfl) | (rw [if_neg (by decide +kernel)]; exact ⟨rfl, rfl⟩))
    (fun os started H enc _ => lifted os started H enc)

/-- The statement. -/
theorem proved : Rows.FnExactBufferPutSaid := over
#print axioms proved
end Go.Proofs.Ytegdogamenoaiaa.fnExactBufferPut
