/- impl.BufferAll: all packets that are returned at a time (printed by gen_bal.py). -/
import Derived.Test.YtegdogamenoaiaaBal
import Derived.Deep.DeepCutAuto
namespace Go.Proofs.Ytegdogamenoaiaa
open Go Go.RowKit
set_option linter.unusedVariables false
set_option linter.unusedSimpArgs false
theorem exc_box {X : Nat → Prop} {W w1 : World} (hb : Exc X W w1) (b : Nat) (h1 : b < W.heap.size) (h2 : ¬ X b) {f : Nat → Option Value} (hf : ∀ o : Nat, W.cell? ⟨b, o, none⟩ = f o) (hz : ∀ o : Nat, W.frozen? ⟨b, o, none⟩ = false) : (∀ o : Nat, w1.cell? ⟨b, o, none⟩ = f o) ∧ ∀ o : Nat, w1.frozen? ⟨b, o, none⟩ = false :=
  ⟨fun o => (hb.cell h1 h2).trans (hf o), fun o => (hb.frozen h1 h2).trans (hz o)⟩
theorem bel_box {W w1 : World} (hb : Below W.heap.size W w1) (b : Nat) (h1 : b < W.heap.size) {f : Nat → Option Value} (hf : ∀ o : Nat, W.cell? ⟨b, o, none⟩ = f o) (hz : ∀ o : Nat, W.frozen? ⟨b, o, none⟩ = false) : (∀ o : Nat, w1.cell? ⟨b, o, none⟩ = f o) ∧ ∀ o : Nat, w1.frozen? ⟨b, o, none⟩ = false :=
  ⟨fun o => (hb.cell (p := ⟨b, o, none⟩) h1).trans (hf o), fun o => (hb.frozen (p := ⟨b, o, none⟩) h1).trans (hz o)⟩
set_option maxRecDepth 100000 in
set_option maxHeartbeats 8000000 in
theorem iba_bad (w : World) (lo hi : Nat) (A : Option Addr) (n c : Nat) (y d now : Int) (q : Nat → Hd) (h : RowAt w lo hi A n 7 (HdF q)) (hi' : hi ≤ w.heap.size) (hn : n ≤ 1048576) (hbad : ¬ (BfOk y d n q ∧ 0 ≤ now ∧ now ≤ 100998)) :
    Calls Try.prog 28 #[.agg #[.int .i64 y, .int .i64 d, .slice A n c], .int .i64 now] w (GivesBA 0 0 0 q 0 (fun i => (q i).p) false w) := by
  have hv := fun W (hb : Below w.heap.size w W) => ibv_any W lo hi A n c y d q (h.below hi' hb) (Nat.le_trans hi' hb.size) hn
  have ht := fun W : World => takeV_any now W
  clear h
  by_cases hO : BfOk y d n q
  · rw [show bfB y d n q = true from decide_eq_true hO] at hv
    rw [show inB now 0 100998 = false by (unfold inB; simp; intro h1; have h2 : ¬ now ≤ 100998 := fun h2 => hbad ⟨hO, h1, h2⟩; omega)] at ht
    have HV := Lib.hid hv
    have HT := Lib.hid ht
    clear hv ht hO hbad
    go_enter Try.func28, Try.ntmps28
    go_wp2_with fail
    refine (HV.out _ ?_).mono ?_
    focus (repeat (first | (with_reducible exact Below.refl _ _) | (with_reducible refine Bal ?_ _) | (with_reducible refine Below.drew ?_) | (with_reducible refine below_drewN ?_ _) | (with_reducible refine Bset ?_ ?_ _; focus (first | (with_reducible exact Nat.le_refl _) | (simp; done) | (simp; omega) | omega)) | (with_reducible refine Bt ?_ (by assumption)) | (with_reducible refine Bp (g := g) ?_ (by assumption) (by assumption))))
    rintro e w1 ⟨rfl, hb1⟩
    obtain ⟨hc1, hf1⟩ := bcell hb1
    have hy1 := hb1.size
    try simp at hy1
    have hg1_0 := fun o => hc1 (w.heap.size) o (by first | (simp; done) | (simp; omega) | omega)
    try simp [go_sem] at hg1_0
    have hg1_1 := fun o => hc1 (w.heap.size + 1) o (by first | (simp; done) | (simp; omega) | omega)
    try simp [go_sem] at hg1_1
    have hk1_1 := fun o => hf1 (w.heap.size + 1) o (by first | (simp; done) | (simp; omega) | omega)
    try simp [go_sem] at hk1_1
    have hp1_0 : w.heap.size < w1.heap.size := by omega
    have hp1_1 : w.heap.size + 1 < w1.heap.size := by omega
    go_wp2_with fail
    refine (HT.out _).mono ?_
    rintro e w' ⟨rfl, rfl⟩
    have hq1 : w.heap.size < w1.heap.size + 1 := by omega
    have hq2 : w.heap.size + 1 < w1.heap.size + 1 := by omega
    go_wp2_with fail
    refine bodyPost_ret (v := .tuple #[.agg #[.int .i64 0, .int .i64 0, .slice none 0 0], .slice (some ⟨w1.heap.size, 0, none⟩) 0 0, .bool false]) ?_ rfl ?_
    · simp only [results, Try.results28]
      go_simp
    refine ⟨none, 0, some ⟨w1.heap.size, 0, none⟩, 0, RowOwn.none0 _ _ _ _ _ _, ?_, (fun g hg => by simp [Value.ownBlock]), rfl, ?_⟩
    · have hE1 := fun W : World => fun (hW : w1.heap.size = W.heap.size) => empty_at W 30 (w1.heap.size) 6 (PkF fun i => (q i).p) hW
      refine RowOwn.wide (lo := w1.heap.size) (hi := w1.heap.size + 1) ?_ (by omega) (by first | exact Nat.le_refl _ | (simp [World.setCell]; done) | (simp [World.setCell]; omega) | omega)
      repeat (first | (with_reducible exact hE1 _ (by simp [World.setCell])) | (with_reducible refine RowOwn.setC ?_ ?_ _; focus (left; first | omega | (simp; omega) | (simp; done))))
    · go_light
      repeat (first | (with_reducible exact Below.refl _ _) | (with_reducible refine Bal ?_ _) | (with_reducible refine Below.drew ?_) | (with_reducible refine below_drewN ?_ _) | (with_reducible refine Bset ?_ ?_ _; focus (first | (with_reducible exact Nat.le_refl _) | (simp; done) | (simp; omega) | omega)) | (with_reducible refine Bt ?_ (by assumption)) | (with_reducible refine Bp (g := g) ?_ (by assumption) (by assumption)))
  · rw [show bfB y d n q = false from decide_eq_false hO] at hv
    have HV := Lib.hid hv
    clear hv ht hO hbad
    go_enter Try.func28, Try.ntmps28
    go_wp2_with fail
    refine (HV.out _ ?_).mono ?_
    focus (repeat (first | (with_reducible exact Below.refl _ _) | (with_reducible refine Bal ?_ _) | (with_reducible refine Below.drew ?_) | (with_reducible refine below_drewN ?_ _) | (with_reducible refine Bset ?_ ?_ _; focus (first | (with_reducible exact Nat.le_refl _) | (simp; done) | (simp; omega) | omega)) | (with_reducible refine Bt ?_ (by assumption)) | (with_reducible refine Bp (g := g) ?_ (by assumption) (by assumption))))
    rintro e w1 ⟨rfl, hb1⟩
    obtain ⟨hc1, hf1⟩ := bcell hb1
    have hy1 := hb1.size
    try simp at hy1
    have hg1_0 := fun o => hc1 (w.heap.size) o (by first | (simp; done) | (simp; omega) | omega)
    try simp [go_sem] at hg1_0
    have hg1_1 := fun o => hc1 (w.heap.size + 1) o (by first | (simp; done) | (simp; omega) | omega)
    try simp [go_sem] at hg1_1
    have hk1_1 := fun o => hf1 (w.heap.size + 1) o (by first | (simp; done) | (simp; omega) | omega)
    try simp [go_sem] at hk1_1
    have hp1_0 : w.heap.size < w1.heap.size := by omega
    have hp1_1 : w.heap.size + 1 < w1.heap.size := by omega
    have hq1 : w.heap.size < w1.heap.size + 1 := by omega
    have hq2 : w.heap.size + 1 < w1.heap.size + 1 := by omega
    go_wp2_with fail
    refine bodyPost_ret (v := .tuple #[.agg #[.int .i64 0, .int .i64 0, .slice none 0 0], .slice (some ⟨w1.heap.size, 0, none⟩) 0 0, .bool false]) ?_ rfl ?_
    · simp only [results, Try.results28]
      go_simp
    refine ⟨none, 0, some ⟨w1.heap.size, 0, none⟩, 0, RowOwn.none0 _ _ _ _ _ _, ?_, (fun g hg => by simp [Value.ownBlock]), rfl, ?_⟩
    · have hE1 := fun W : World => fun (hW : w1.heap.size = W.heap.size) => empty_at W 30 (w1.heap.size) 6 (PkF fun i => (q i).p) hW
      refine RowOwn.wide (lo := w1.heap.size) (hi := w1.heap.size + 1) ?_ (by omega) (by first | exact Nat.le_refl _ | (simp [World.setCell]; done) | (simp [World.setCell]; omega) | omega)
      repeat (first | (with_reducible exact hE1 _ (by simp [World.setCell])) | (with_reducible refine RowOwn.setC ?_ ?_ _; focus (left; first | omega | (simp; omega) | (simp; done))))
    · go_light
      repeat (first | (with_reducible exact Below.refl _ _) | (with_reducible refine Bal ?_ _) | (with_reducible refine Below.drew ?_) | (with_reducible refine below_drewN ?_ _) | (with_reducible refine Bset ?_ ?_ _; focus (first | (with_reducible exact Nat.le_refl _) | (simp; done) | (simp; omega) | omega)) | (with_reducible refine Bt ?_ (by assumption)) | (with_reducible refine Bp (g := g) ?_ (by assumption) (by assumption)))
set_option maxRecDepth 100000 in
set_option maxHeartbeats 16000000 in
theorem iba_ok (w : World) (lo hi : Nat) (A : Option Addr) (n c : Nat) (y d now : Int) (q : Nat → Hd) (K : Nat) (h : RowAt w lo hi A n 7 (HdF q)) (hi' : hi ≤ w.heap.size) (hn : n ≤ 1048576) (hO : BfOk y d n q) (hT : 0 ≤ now ∧ now ≤ 100998) (hK : K ≤ n) (hno : ¬ tkA y d n q now K) (hall : ∀ k, k < K → tkA y d n q now k) :
    Calls Try.prog 28 #[.agg #[.int .i64 y, .int .i64 d, .slice A n c], .int .i64 now] w (GivesBA (yAt y q K) d (n - K) (dropQ q K) K (fun i => (q i).p) true w) := by
  obtain ⟨i0, q1, q2, q3, q4⟩ := info_parts info_pk
  have hv := fun W (hb : Below w.heap.size w W) => ibv_any W lo hi A n c y d q (h.below hi' hb) (Nat.le_trans hi' hb.size) hn
  have ht := fun W : World => takeV_any now W
  rw [show bfB y d n q = true from decide_eq_true hO] at hv
  rw [inB_t hT.1 hT.2] at ht
  have HV := Lib.hid hv
  have HT := Lib.hid ht
  have H := Lib.hid h
  have HA := Lib.hid hO.2.2.2.asc
  have hn10 : n ≤ 10 := hO.2.2.1
  clear hv ht hO hT h
  go_enter Try.func28, Try.ntmps28
  go_wp2_with fail
  refine (HV.out _ ?_).mono ?_
  focus (repeat (first | (with_reducible exact Below.refl _ _) | (with_reducible refine Bal ?_ _) | (with_reducible refine Below.drew ?_) | (with_reducible refine below_drewN ?_ _) | (with_reducible refine Bset ?_ ?_ _; focus (first | (with_reducible exact Nat.le_refl _) | (simp; done) | (simp; omega) | omega)) | (with_reducible refine Bt ?_ (by assumption)) | (with_reducible refine Bp (g := g) ?_ (by assumption) (by assumption))))
  rintro e w1 ⟨rfl, hb1⟩
  obtain ⟨hc1, hf1⟩ := bcell hb1
  have hy1 := hb1.size
  try simp at hy1
  have hg1_0 := fun o => hc1 (w.heap.size) o (by first | (simp; done) | (simp; omega) | omega)
  try simp [go_sem] at hg1_0
  have hg1_1 := fun o => hc1 (w.heap.size + 1) o (by first | (simp; done) | (simp; omega) | omega)
  try simp [go_sem] at hg1_1
  have hk1_1 := fun o => hf1 (w.heap.size + 1) o (by first | (simp; done) | (simp; omega) | omega)
  try simp [go_sem] at hk1_1
  have hp1_0 : w.heap.size < w1.heap.size := by omega
  have hp1_1 : w.heap.size + 1 < w1.heap.size := by omega
  go_wp2_with fail
  refine (HT.out _).mono ?_
  rintro e w' ⟨rfl, rfl⟩
  have hW1 := Lib.hid (show Below w.heap.size w w1 by repeat (first | (with_reducible exact Below.refl _ _) | (with_reducible refine Bal ?_ _) | (with_reducible refine Below.drew ?_) | (with_reducible refine below_drewN ?_ _) | (with_reducible refine Bset ?_ ?_ _; focus (first | (with_reducible exact Nat.le_refl _) | (simp; done) | (simp; omega) | omega)) | (with_reducible refine Bt ?_ (by assumption)) | (with_reducible refine Bp (g := g) ?_ (by assumption) (by assumption))))
  go_upto_region 4 with fail
  obtain ⟨w2, hw2e⟩ : ∃ v, v = w1.alloc (.cells #[] 30) := ⟨_, rfl⟩
  have hw2 : Below w1.heap.size w1 w2 := by rw [hw2e]; exact Ba _ _
  have hz2 : w1.heap.size < w2.heap.size := by rw [hw2e]; simp
  have z0 : w2.cell? ⟨w.heap.size, 0, none⟩ = some (.int .i64 y) := (hw2.cell (p := ⟨w.heap.size, 0, none⟩) hp1_0).trans (by rw [hg1_0]; rfl)
  have z1 : w2.cell? ⟨w.heap.size, 1, none⟩ = some (.int .i64 d) := (hw2.cell (p := ⟨w.heap.size, 1, none⟩) hp1_0).trans (by rw [hg1_0]; rfl)
  have z2 : w2.cell? ⟨w.heap.size, 2, none⟩ = some (.slice A n c) := (hw2.cell (p := ⟨w.heap.size, 2, none⟩) hp1_0).trans (by rw [hg1_0]; rfl)
  have hR1 : Bx w1 (w.heap.size + 1) 0 0 none 0 0 := ⟨by rw [hg1_1]; rfl, by rw [hg1_1]; rfl, by rw [hg1_1]; rfl, fun j => hk1_1 j, hp1_1⟩
  have HR2 := Lib.hid (hR1.below hw2)
  have HE2 : Hid (RowOwn 30 w2 w1.heap.size (w1.heap.size + 1) (some ⟨w1.heap.size, 0, none⟩) 0 0 6 (PkF fun i => (q i).p)) := Lib.hid (by rw [hw2e]; exact empty_at _ _ _ _ _ rfl)
  have HW2 := Lib.hid (hW1.out.trans (hw2.mono hW1.out.size))
  have H2 := Lib.hid (H.out.below hi' HW2.out)
  rw [← hw2e]
  have hzw : w.heap.size < w2.heap.size := by omega
  clear hw2e hw2 hb1 hc1 hf1 hg1_0 hg1_1 hk1_1 hR1
  go_cut [8] (fun s8 wx => ∃ (b8 L2 H2 : Nat) (A2 : Option Addr) (c2 : Nat), s8 = .pointer (some ⟨b8, 0, none⟩) ∧ Hid (Bx wx b8 y d A2 n c2) ∧ Hid (RowOwn 54 wx L2 H2 A2 n c2 7 (HdF q)) ∧ Hid (Below w2.heap.size w2 wx) ∧ w2.heap.size ≤ b8 ∧ w2.heap.size ≤ L2 ∧ L2 ≤ H2 ∧ H2 ≤ wx.heap.size ∧ (b8 < L2 ∨ H2 ≤ b8))
  case first =>
    have hgd : ∀ W : World, W.drew.heap.size = W.heap.size := fun _ => rfl
    refine wp_region_anyR (R := fun a b => Below (w2.heap.size) a b) (by kernel_rfl) (fun w => Below.refl _ _) (fun _ _ _ h k => Below.trans h k) (by kernel_rfl) ?_
    simp only [List.size_toArray, List.length_cons, List.length_nil, Nat.zero_add, Nat.reduceAdd]
    refine any_pure 0 (by decide +kernel) rfl rfl ?_; apply Exists.intro; refine ⟨fun w' => ?_, ?_⟩; (focus (first | (fail) | (go_simp; try exact rfl))); have e0 : True := trivial; clear e0; refine any_putK ?_; intro K hK; go_simp; refine hK _ ?_; clear hK K
    refine any_read 1 (by decide +kernel) rfl rfl rfl ?_; apply Exists.intro; refine ⟨fun w' hb' => ?_, ?_⟩; (focus (obtain ⟨hc', hf'⟩ := below_cells hb'; clear hb'; go_simp; try exact rfl)); have e0 : True := trivial; clear e0; refine any_putK ?_; intro K hK; go_simp; refine hK _ ?_; clear hK K
    refine any_pure 2 (by decide +kernel) rfl rfl ?_; apply Exists.intro; refine ⟨fun w' => ?_, ?_⟩; (focus (first | (fail) | (go_simp; try exact rfl))); have e0 : True := trivial; clear e0; refine any_putK ?_; intro K hK; go_simp; refine hK _ ?_; clear hK K
    refine any_read 3 (by decide +kernel) rfl rfl rfl ?_; apply Exists.intro; refine ⟨fun w' hb' => ?_, ?_⟩; (focus (obtain ⟨hc', hf'⟩ := below_cells hb'; clear hb'; go_simp; try exact rfl)); have e0 : True := trivial; clear e0; refine any_putK ?_; intro K hK; go_simp; refine hK _ ?_; clear hK K
    refine any_pure 4 (by decide +kernel) rfl rfl ?_; apply Exists.intro; refine ⟨fun w' => ?_, ?_⟩; (focus (first | (fail) | (go_simp; try exact rfl))); have e0 : True := trivial; clear e0; refine any_putK ?_; intro K hK; go_simp; refine hK _ ?_; clear hK K
    refine any_read 5 (by decide +kernel) rfl rfl rfl ?_; apply Exists.intro; refine ⟨fun w' hb' => ?_, ?_⟩; (focus (obtain ⟨hc', hf'⟩ := below_cells hb'; clear hb'; go_simp; try exact rfl)); have e0 : True := trivial; clear e0; refine any_putK ?_; intro K hK; go_simp; refine hK _ ?_; clear hK K
    refine any_branch (by decide +kernel) ?_
    simp only [List.size_toArray, List.length_cons, List.length_nil, Nat.zero_add, Nat.reduceAdd]
    repeat' (first | exact lt_zero | refine lt_succ ?_ ?_ | exact any_none (by decide +kernel) | fail)
    · refine any_one rfl rfl rfl ?_
      go_wp2_with (fail)
      refine then_any rfl ?_ ?_; focus (first | (intro h; have h2 : false = true := h; cases h2) | (intro _; show Below _ _ _; first | (with_reducible assumption) | (first | exact Below.mono (by with_reducible assumption) (by first | exact Nat.le_refl _ | (simp [World.setCell]; done) | (simp [World.setCell]; omega) | omega) | (repeat (first | (with_reducible exact Below.refl _ _) | (with_reducible exact below_undrew _ _) | (with_reducible refine Below.drew ?_) | (with_reducible refine Below.alloc ?_ (by first | exact Nat.le_refl _ | (simp [World.setCell]; done) | (simp [World.setCell]; omega) | omega) _))))))
      refine any_branch (by decide +kernel) ?_
      simp only [List.size_toArray, List.length_cons, List.length_nil, Nat.zero_add, Nat.reduceAdd]
      repeat' (first | exact lt_zero | refine lt_succ ?_ ?_ | exact any_none (by decide +kernel) | fail)
      · refine any_one rfl rfl rfl ?_
        go_wp2_with ((go_at_call 47; refine (nhh_any _ (lo := lo) (hi := hi) (A := A) (n := n) (ca := c) (e := q) (H2.out.below (B := w2.heap.size) (by omega) (by repeat (first | (with_reducible exact Below.refl _ _) | (with_reducible refine Bal ?_ _) | (with_reducible refine Below.drew ?_) | (with_reducible refine below_drewN ?_ _) | (with_reducible refine Bset ?_ ?_ _; focus (first | (with_reducible exact Nat.le_refl _) | (simp; done) | (simp; omega) | omega)) | (with_reducible refine Bt ?_ (by assumption)) | (with_reducible refine Bp (g := g) ?_ (by assumption) (by assumption))))) (by first | exact Nat.le_refl _ | (simp; done) | (simp; omega) | omega) (by omega) HA.out).mono ?_; rintro e wp1 ⟨HB, g, c3, r, rfl, hPr, hCr, hSt, hbp1⟩; have hzp1 := hbp1.size; (try simp at hzp1); have hHB := hSt.lo; have hHg := hSt.g_lo; (try simp at hHB); (try simp at hHg); have hHz := hSt.lt; have hHy := hSt.g_lt; have HPr := Lib.hid hPr; have HCr := Lib.hid hCr; have HSt := Lib.hid hSt; clear hSt hPr hCr; (first | (have g0_1 := (bel_box (W := World.alloc _ _) hbp1 (w2.heap.size) (by simp) (f := fun o => ([.int .i64 0, .int .i64 0, .slice none 0 0] : List Value)[o]?) (fun o => by simp [go_sem]) (fun o => by simp [go_sem])); obtain ⟨g0_1, f0_1⟩ := g0_1; have s0_1 : w2.heap.size < wp1.heap.size := (by have := hbp1.size; simp at this; omega)) | (have g0_1 := (bel_box (W := World.drew (World.alloc _ _)) hbp1 (w2.heap.size) (by simp) (f := fun o => ([.int .i64 0, .int .i64 0, .slice none 0 0] : List Value)[o]?) (fun o => by simp [go_sem]) (fun o => by simp [go_sem])); obtain ⟨g0_1, f0_1⟩ := g0_1; have s0_1 : w2.heap.size < wp1.heap.size := (by have := hbp1.size; simp at this; omega)) | skip)))
        refine then_any rfl ?_ ?_; focus (first | (intro h; have h2 : false = true := h; cases h2) | (intro _; show Below _ _ _; first | (with_reducible assumption) | (first | exact Below.mono (by with_reducible assumption) (by first | exact Nat.le_refl _ | (simp [World.setCell]; done) | (simp [World.setCell]; omega) | omega) | (repeat (first | (with_reducible exact Below.refl _ _) | (with_reducible exact below_undrew _ _) | (with_reducible refine Below.drew ?_) | (with_reducible refine Below.alloc ?_ (by first | exact Nat.le_refl _ | (simp [World.setCell]; done) | (simp [World.setCell]; omega) | omega) _))))))
        refine any_branch (by decide +kernel) ?_
        simp only [List.size_toArray, List.length_cons, List.length_nil, Nat.zero_add, Nat.reduceAdd]
        repeat' (first | exact lt_zero | refine lt_succ ?_ ?_ | exact any_none (by decide +kernel) | fail)
        · refine any_one rfl rfl rfl ?_
          go_wp2_with ((go_at_call 49; have hKB : ∀ W : World, Below wp1.heap.size wp1 W → HpSt _ HB g n c3 (fun k => q (r k)) W := fun W hB => HSt.out.keep hB.size (hB.block _ hHz) (hB.block _ hHy); refine (ino_any _ (n := n) (hKB _ (by repeat (first | (with_reducible exact Below.refl _ _) | (with_reducible refine Bal ?_ _) | (with_reducible refine Below.drew ?_) | (with_reducible refine below_drewN ?_ _) | (with_reducible refine Bset ?_ ?_ _; focus (first | (with_reducible exact Nat.le_refl _) | (simp; done) | (simp; omega) | omega)) | (with_reducible refine Bt ?_ (by assumption)) | (with_reducible refine Bp (g := g) ?_ (by assumption) (by assumption))))) (by omega) HA.out HPr.out HCr.out).mono ?_; rintro e wp2 ⟨AX, cX, rfl, hO, hE7⟩; obtain ⟨LX, hLX, hOX⟩ : ∃ L : Nat, L = _ ∧ RowOwn 54 wp2 L wp2.heap.size AX n cX 7 (HdF q) := ⟨_, rfl, hO⟩; (try simp at hLX); clear hO; have hBel7 := hE7.below (B := w2.heap.size) (fun k hk => by rcases hk with rfl | rfl <;> omega) (by first | exact Nat.le_refl _ | (simp; done) | (simp; omega) | omega); have hzp2 := hE7.size; (try simp at hzp2); (try (have g0_2 := (exc_box hE7 (w2.heap.size) (by first | omega | (simp; omega)) (by omega) g0_1 f0_1); obtain ⟨g0_2, f0_2⟩ := g0_2; have s0_2 : w2.heap.size < wp2.heap.size := (by omega))); (first | (have g1_2 := (exc_box (W := World.alloc _ _) hE7 (wp1.heap.size) (by simp) (by omega) (f := fun o => ([.int .i64 0, .int .i64 0, .slice none 0 0] : List Value)[o]?) (fun o => by simp [go_sem]) (fun o => by simp [go_sem])); obtain ⟨g1_2, f1_2⟩ := g1_2; have s1_2 : wp1.heap.size < wp2.heap.size := (by have := hE7.size; simp at this; omega)) | (have g1_2 := (exc_box (W := World.drew (World.alloc _ _)) hE7 (wp1.heap.size) (by simp) (by omega) (f := fun o => ([.int .i64 0, .int .i64 0, .slice none 0 0] : List Value)[o]?) (fun o => by simp [go_sem]) (fun o => by simp [go_sem])); obtain ⟨g1_2, f1_2⟩ := g1_2; have s1_2 : wp1.heap.size < wp2.heap.size := (by have := hE7.size; simp at this; omega)) | skip)))
          refine then_any rfl ?_ ?_; focus (first | (intro h; have h2 : false = true := h; cases h2) | (intro _; show Below _ _ _; first | (with_reducible assumption) | (first | exact Below.mono (by with_reducible assumption) (by first | exact Nat.le_refl _ | (simp [World.setCell]; done) | (simp [World.setCell]; omega) | omega) | (repeat (first | (with_reducible exact Below.refl _ _) | (with_reducible exact below_undrew _ _) | (with_reducible refine Below.drew ?_) | (with_reducible refine Below.alloc ?_ (by first | exact Nat.le_refl _ | (simp [World.setCell]; done) | (simp [World.setCell]; omega) | omega) _))))))
          refine any_pure 8 (by decide +kernel) rfl rfl ?_; apply Exists.intro; refine ⟨fun w' => ?_, ?_⟩; (focus (first | (fail) | (go_simp; try exact rfl))); have e0 : True := trivial; clear e0; refine any_putK ?_; intro K hK; go_simp; refine hK _ ?_; clear hK K
          refine any_branch (by decide +kernel) ?_
          simp only [List.size_toArray, List.length_cons, List.length_nil, Nat.zero_add, Nat.reduceAdd]
          repeat' (first | exact lt_zero | refine lt_succ ?_ ?_ | exact any_none (by decide +kernel) | fail)
          · refine any_one rfl rfl rfl ?_
            go_wp2_with (fail)
            refine then_any rfl ?_ ?_; focus (first | (intro h; have h2 : false = true := h; cases h2) | (intro _; show Below _ _ _; first | (with_reducible assumption) | (first | exact Below.mono (by with_reducible assumption) (by first | exact Nat.le_refl _ | (simp [World.setCell]; done) | (simp [World.setCell]; omega) | omega) | (repeat (first | (with_reducible exact Below.refl _ _) | (with_reducible exact below_undrew _ _) | (with_reducible refine Below.drew ?_) | (with_reducible refine Below.alloc ?_ (by first | exact Nat.le_refl _ | (simp [World.setCell]; done) | (simp [World.setCell]; omega) | omega) _))))))
            refine any_end (by decide +kernel) ?_
            go_wp2_with fail
            go_meet
            refine ⟨_, LX, wp2.heap.size, AX, cX, rfl, Lib.hid ?_, Lib.hid ?_, Lib.hid ?_, ?_, ?_, ?_, ?_, ?_⟩
            · refine ⟨?_, ?_, ?_, fun j => ?_, ?_⟩
              · go_simp
              · go_simp
              · go_simp
              · go_simp
              · exact (by first | exact Nat.le_refl _ | (simp [World.setCell]; done) | (simp [World.setCell]; omega) | omega)
            · repeat (first | (with_reducible exact hOX) | (with_reducible refine RowOwn.drew ?_) | (with_reducible refine RowOwn.alloc ?_ _) | (with_reducible refine RowOwn.setC ?_ ?_ _; focus (first | (left; first | omega | (simp; omega) | (simp; done)) | (right; first | omega | (simp; omega) | (simp; done)))))
            · have hl2 : Below w2.heap.size w2 wp2 := Below.trans (show Below w2.heap.size w2 _ by repeat (first | (with_reducible exact Below.refl _ _) | (with_reducible refine Bal ?_ _) | (with_reducible refine Below.drew ?_) | (with_reducible refine below_drewN ?_ _) | (with_reducible refine Bset ?_ ?_ _; focus (first | (with_reducible exact Nat.le_refl _) | (simp; done) | (simp; omega) | omega)) | (with_reducible refine Bt ?_ (by assumption)) | (with_reducible refine Bp (g := g) ?_ (by assumption) (by assumption)))) hBel7
              repeat (first | (with_reducible exact hl2) | (with_reducible refine Bal ?_ _) | (with_reducible refine Below.drew ?_) | (with_reducible refine Bset ?_ ?_ _; focus (first | (with_reducible exact Nat.le_refl _) | (simp; done) | (simp; omega) | omega)))
            · exact (by first | exact Nat.le_refl _ | (simp [World.setCell]; done) | (simp [World.setCell]; omega) | omega)
            · omega
            · omega
            · exact (by first | exact Nat.le_refl _ | (simp [World.setCell]; done) | (simp [World.setCell]; omega) | omega)
            · first | omega | (simp; omega) | (simp; done)
    · refine any_one rfl rfl rfl ?_
      go_wp2_with ((go_at_call 47; refine (nhh_any _ (lo := lo) (hi := hi) (A := A) (n := n) (ca := c) (e := q) (H2.out.below (B := w2.heap.size) (by omega) (by repeat (first | (with_reducible exact Below.refl _ _) | (with_reducible refine Bal ?_ _) | (with_reducible refine Below.drew ?_) | (with_reducible refine below_drewN ?_ _) | (with_reducible refine Bset ?_ ?_ _; focus (first | (with_reducible exact Nat.le_refl _) | (simp; done) | (simp; omega) | omega)) | (with_reducible refine Bt ?_ (by assumption)) | (with_reducible refine Bp (g := g) ?_ (by assumption) (by assumption))))) (by first | exact Nat.le_refl _ | (simp; done) | (simp; omega) | omega) (by omega) HA.out).mono ?_; rintro e wp1 ⟨HB, g, c3, r, rfl, hPr, hCr, hSt, hbp1⟩; have hzp1 := hbp1.size; (try simp at hzp1); have hHB := hSt.lo; have hHg := hSt.g_lo; (try simp at hHB); (try simp at hHg); have hHz := hSt.lt; have hHy := hSt.g_lt; have HPr := Lib.hid hPr; have HCr := Lib.hid hCr; have HSt := Lib.hid hSt; clear hSt hPr hCr; (first | (have g0_1 := (bel_box (W := World.alloc _ _) hbp1 (w2.heap.size) (by simp) (f := fun o => ([.int .i64 0, .int .i64 0, .slice none 0 0] : List Value)[o]?) (fun o => by simp [go_sem]) (fun o => by simp [go_sem])); obtain ⟨g0_1, f0_1⟩ := g0_1; have s0_1 : w2.heap.size < wp1.heap.size := (by have := hbp1.size; simp at this; omega)) | (have g0_1 := (bel_box (W := World.drew (World.alloc _ _)) hbp1 (w2.heap.size) (by simp) (f := fun o => ([.int .i64 0, .int .i64 0, .slice none 0 0] : List Value)[o]?) (fun o => by simp [go_sem]) (fun o => by simp [go_sem])); obtain ⟨g0_1, f0_1⟩ := g0_1; have s0_1 : w2.heap.size < wp1.heap.size := (by have := hbp1.size; simp at this; omega)) | skip)))
      refine then_any rfl ?_ ?_; focus (first | (intro h; have h2 : false = true := h; cases h2) | (intro _; show Below _ _ _; first | (with_reducible assumption) | (first | exact Below.mono (by with_reducible assumption) (by first | exact Nat.le_refl _ | (simp [World.setCell]; done) | (simp [World.setCell]; omega) | omega) | (repeat (first | (with_reducible exact Below.refl _ _) | (with_reducible exact below_undrew _ _) | (with_reducible refine Below.drew ?_) | (with_reducible refine Below.alloc ?_ (by first | exact Nat.le_refl _ | (simp [World.setCell]; done) | (simp [World.setCell]; omega) | omega) _))))))
      refine any_branch (by decide +kernel) ?_
      simp only [List.size_toArray, List.length_cons, List.length_nil, Nat.zero_add, Nat.reduceAdd]
      repeat' (first | exact lt_zero | refine lt_succ ?_ ?_ | exact any_none (by decide +kernel) | fail)
      · refine any_one rfl rfl rfl ?_
        go_wp2_with (fail)
        refine then_any rfl ?_ ?_; focus (first | (intro h; have h2 : false = true := h; cases h2) | (intro _; show Below _ _ _; first | (with_reducible assumption) | (first | exact Below.mono (by with_reducible assumption) (by first | exact Nat.le_refl _ | (simp [World.setCell]; done) | (simp [World.setCell]; omega) | omega) | (repeat (first | (with_reducible exact Below.refl _ _) | (with_reducible exact below_undrew _ _) | (with_reducible refine Below.drew ?_) | (with_reducible refine Below.alloc ?_ (by first | exact Nat.le_refl _ | (simp [World.setCell]; done) | (simp [World.setCell]; omega) | omega) _))))))
        refine any_branch (by decide +kernel) ?_
        simp only [List.size_toArray, List.length_cons, List.length_nil, Nat.zero_add, Nat.reduceAdd]
        repeat' (first | exact lt_zero | refine lt_succ ?_ ?_ | exact any_none (by decide +kernel) | fail)
        · refine any_one rfl rfl rfl ?_
          go_wp2_with ((go_at_call 49; have hKB : ∀ W : World, Below wp1.heap.size wp1 W → HpSt _ HB g n c3 (fun k => q (r k)) W := fun W hB => HSt.out.keep hB.size (hB.block _ hHz) (hB.block _ hHy); refine (ino_any _ (n := n) (hKB _ (by repeat (first | (with_reducible exact Below.refl _ _) | (with_reducible refine Bal ?_ _) | (with_reducible refine Below.drew ?_) | (with_reducible refine below_drewN ?_ _) | (with_reducible refine Bset ?_ ?_ _; focus (first | (with_reducible exact Nat.le_refl _) | (simp; done) | (simp; omega) | omega)) | (with_reducible refine Bt ?_ (by assumption)) | (with_reducible refine Bp (g := g) ?_ (by assumption) (by assumption))))) (by omega) HA.out HPr.out HCr.out).mono ?_; rintro e wp2 ⟨AX, cX, rfl, hO, hE7⟩; obtain ⟨LX, hLX, hOX⟩ : ∃ L : Nat, L = _ ∧ RowOwn 54 wp2 L wp2.heap.size AX n cX 7 (HdF q) := ⟨_, rfl, hO⟩; (try simp at hLX); clear hO; have hBel7 := hE7.below (B := w2.heap.size) (fun k hk => by rcases hk with rfl | rfl <;> omega) (by first | exact Nat.le_refl _ | (simp; done) | (simp; omega) | omega); have hzp2 := hE7.size; (try simp at hzp2); (try (have g0_2 := (exc_box hE7 (w2.heap.size) (by first | omega | (simp; omega)) (by omega) g0_1 f0_1); obtain ⟨g0_2, f0_2⟩ := g0_2; have s0_2 : w2.heap.size < wp2.heap.size := (by omega))); (first | (have g1_2 := (exc_box (W := World.alloc _ _) hE7 (wp1.heap.size) (by simp) (by omega) (f := fun o => ([.int .i64 0, .int .i64 0, .slice none 0 0] : List Value)[o]?) (fun o => by simp [go_sem]) (fun o => by simp [go_sem])); obtain ⟨g1_2, f1_2⟩ := g1_2; have s1_2 : wp1.heap.size < wp2.heap.size := (by have := hE7.size; simp at this; omega)) | (have g1_2 := (exc_box (W := World.drew (World.alloc _ _)) hE7 (wp1.heap.size) (by simp) (by omega) (f := fun o => ([.int .i64 0, .int .i64 0, .slice none 0 0] : List Value)[o]?) (fun o => by simp [go_sem]) (fun o => by simp [go_sem])); obtain ⟨g1_2, f1_2⟩ := g1_2; have s1_2 : wp1.heap.size < wp2.heap.size := (by have := hE7.size; simp at this; omega)) | skip)))
          refine then_any rfl ?_ ?_; focus (first | (intro h; have h2 : false = true := h; cases h2) | (intro _; show Below _ _ _; first | (with_reducible assumption) | (first | exact Below.mono (by with_reducible assumption) (by first | exact Nat.le_refl _ | (simp [World.setCell]; done) | (simp [World.setCell]; omega) | omega) | (repeat (first | (with_reducible exact Below.refl _ _) | (with_reducible exact below_undrew _ _) | (with_reducible refine Below.drew ?_) | (with_reducible refine Below.alloc ?_ (by first | exact Nat.le_refl _ | (simp [World.setCell]; done) | (simp [World.setCell]; omega) | omega) _))))))
          refine any_pure 8 (by decide +kernel) rfl rfl ?_; apply Exists.intro; refine ⟨fun w' => ?_, ?_⟩; (focus (first | (fail) | (go_simp; try exact rfl))); have e0 : True := trivial; clear e0; refine any_putK ?_; intro K hK; go_simp; refine hK _ ?_; clear hK K
          refine any_branch (by decide +kernel) ?_
          simp only [List.size_toArray, List.length_cons, List.length_nil, Nat.zero_add, Nat.reduceAdd]
          repeat' (first | exact lt_zero | refine lt_succ ?_ ?_ | exact any_none (by decide +kernel) | fail)
          · refine any_one rfl rfl rfl ?_
            go_wp2_with (fail)
            refine then_any rfl ?_ ?_; focus (first | (intro h; have h2 : false = true := h; cases h2) | (intro _; show Below _ _ _; first | (with_reducible assumption) | (first | exact Below.mono (by with_reducible assumption) (by first | exact Nat.le_refl _ | (simp [World.setCell]; done) | (simp [World.setCell]; omega) | omega) | (repeat (first | (with_reducible exact Below.refl _ _) | (with_reducible exact below_undrew _ _) | (with_reducible refine Below.drew ?_) | (with_reducible refine Below.alloc ?_ (by first | exact Nat.le_refl _ | (simp [World.setCell]; done) | (simp [World.setCell]; omega) | omega) _))))))
            refine any_end (by decide +kernel) ?_
            go_wp2_with fail
            go_meet
            refine ⟨_, LX, wp2.heap.size, AX, cX, rfl, Lib.hid ?_, Lib.hid ?_, Lib.hid ?_, ?_, ?_, ?_, ?_, ?_⟩
            · refine ⟨?_, ?_, ?_, fun j => ?_, ?_⟩
              · go_simp
              · go_simp
              · go_simp
              · go_simp
              · exact (by first | exact Nat.le_refl _ | (simp [World.setCell]; done) | (simp [World.setCell]; omega) | omega)
            · repeat (first | (with_reducible exact hOX) | (with_reducible refine RowOwn.drew ?_) | (with_reducible refine RowOwn.alloc ?_ _) | (with_reducible refine RowOwn.setC ?_ ?_ _; focus (first | (left; first | omega | (simp; omega) | (simp; done)) | (right; first | omega | (simp; omega) | (simp; done)))))
            · have hl2 : Below w2.heap.size w2 wp2 := Below.trans (show Below w2.heap.size w2 _ by repeat (first | (with_reducible exact Below.refl _ _) | (with_reducible refine Bal ?_ _) | (with_reducible refine Below.drew ?_) | (with_reducible refine below_drewN ?_ _) | (with_reducible refine Bset ?_ ?_ _; focus (first | (with_reducible exact Nat.le_refl _) | (simp; done) | (simp; omega) | omega)) | (with_reducible refine Bt ?_ (by assumption)) | (with_reducible refine Bp (g := g) ?_ (by assumption) (by assumption)))) hBel7
              repeat (first | (with_reducible exact hl2) | (with_reducible refine Bal ?_ _) | (with_reducible refine Below.drew ?_) | (with_reducible refine Bset ?_ ?_ _; focus (first | (with_reducible exact Nat.le_refl _) | (simp; done) | (simp; omega) | omega)))
            · exact (by first | exact Nat.le_refl _ | (simp [World.setCell]; done) | (simp [World.setCell]; omega) | omega)
            · omega
            · omega
            · exact (by first | exact Nat.le_refl _ | (simp [World.setCell]; done) | (simp [World.setCell]; omega) | omega)
            · first | omega | (simp; omega) | (simp; done)
      · refine any_one rfl rfl rfl ?_
        go_wp2_with ((go_at_call 49; have hKB : ∀ W : World, Below wp1.heap.size wp1 W → HpSt _ HB g n c3 (fun k => q (r k)) W := fun W hB => HSt.out.keep hB.size (hB.block _ hHz) (hB.block _ hHy); refine (ino_any _ (n := n) (hKB _ (by repeat (first | (with_reducible exact Below.refl _ _) | (with_reducible refine Bal ?_ _) | (with_reducible refine Below.drew ?_) | (with_reducible refine below_drewN ?_ _) | (with_reducible refine Bset ?_ ?_ _; focus (first | (with_reducible exact Nat.le_refl _) | (simp; done) | (simp; omega) | omega)) | (with_reducible refine Bt ?_ (by assumption)) | (with_reducible refine Bp (g := g) ?_ (by assumption) (by assumption))))) (by omega) HA.out HPr.out HCr.out).mono ?_; rintro e wp2 ⟨AX, cX, rfl, hO, hE7⟩; obtain ⟨LX, hLX, hOX⟩ : ∃ L : Nat, L = _ ∧ RowOwn 54 wp2 L wp2.heap.size AX n cX 7 (HdF q) := ⟨_, rfl, hO⟩; (try simp at hLX); clear hO; have hBel7 := hE7.below (B := w2.heap.size) (fun k hk => by rcases hk with rfl | rfl <;> omega) (by first | exact Nat.le_refl _ | (simp; done) | (simp; omega) | omega); have hzp2 := hE7.size; (try simp at hzp2); (try (have g0_2 := (exc_box hE7 (w2.heap.size) (by first | omega | (simp; omega)) (by omega) g0_1 f0_1); obtain ⟨g0_2, f0_2⟩ := g0_2; have s0_2 : w2.heap.size < wp2.heap.size := (by omega))); (first | (have g1_2 := (exc_box (W := World.alloc _ _) hE7 (wp1.heap.size) (by simp) (by omega) (f := fun o => ([.int .i64 0, .int .i64 0, .slice none 0 0] : List Value)[o]?) (fun o => by simp [go_sem]) (fun o => by simp [go_sem])); obtain ⟨g1_2, f1_2⟩ := g1_2; have s1_2 : wp1.heap.size < wp2.heap.size := (by have := hE7.size; simp at this; omega)) | (have g1_2 := (exc_box (W := World.drew (World.alloc _ _)) hE7 (wp1.heap.size) (by simp) (by omega) (f := fun o => ([.int .i64 0, .int .i64 0, .slice none 0 0] : List Value)[o]?) (fun o => by simp [go_sem]) (fun o => by simp [go_sem])); obtain ⟨g1_2, f1_2⟩ := g1_2; have s1_2 : wp1.heap.size < wp2.heap.size := (by have := hE7.size; simp at this; omega)) | skip)))
        refine then_any rfl ?_ ?_; focus (first | (intro h; have h2 : false = true := h; cases h2) | (intro _; show Below _ _ _; first | (with_reducible assumption) | (first | exact Below.mono (by with_reducible assumption) (by first | exact Nat.le_refl _ | (simp [World.setCell]; done) | (simp [World.setCell]; omega) | omega) | (repeat (first | (with_reducible exact Below.refl _ _) | (with_reducible exact below_undrew _ _) | (with_reducible refine Below.drew ?_) | (with_reducible refine Below.alloc ?_ (by first | exact Nat.le_refl _ | (simp [World.setCell]; done) | (simp [World.setCell]; omega) | omega) _))))))
        refine any_pure 8 (by decide +kernel) rfl rfl ?_; apply Exists.intro; refine ⟨fun w' => ?_, ?_⟩; (focus (first | (fail) | (go_simp; try exact rfl))); have e0 : True := trivial; clear e0; refine any_putK ?_; intro K hK; go_simp; refine hK _ ?_; clear hK K
        refine any_branch (by decide +kernel) ?_
        simp only [List.size_toArray, List.length_cons, List.length_nil, Nat.zero_add, Nat.reduceAdd]
        repeat' (first | exact lt_zero | refine lt_succ ?_ ?_ | exact any_none (by decide +kernel) | fail)
        · refine any_one rfl rfl rfl ?_
          go_wp2_with (fail)
          refine then_any rfl ?_ ?_; focus (first | (intro h; have h2 : false = true := h; cases h2) | (intro _; show Below _ _ _; first | (with_reducible assumption) | (first | exact Below.mono (by with_reducible assumption) (by first | exact Nat.le_refl _ | (simp [World.setCell]; done) | (simp [World.setCell]; omega) | omega) | (repeat (first | (with_reducible exact Below.refl _ _) | (with_reducible exact below_undrew _ _) | (with_reducible refine Below.drew ?_) | (with_reducible refine Below.alloc ?_ (by first | exact Nat.le_refl _ | (simp [World.setCell]; done) | (simp [World.setCell]; omega) | omega) _))))))
          refine any_branch (by decide +kernel) ?_
          simp only [List.size_toArray, List.length_cons, List.length_nil, Nat.zero_add, Nat.reduceAdd]
          repeat' (first | exact lt_zero | refine lt_succ ?_ ?_ | exact any_none (by decide +kernel) | fail)
          · refine any_one rfl rfl rfl ?_
            go_wp2_with (fail)
            refine then_any rfl ?_ ?_; focus (first | (intro h; have h2 : false = true := h; cases h2) | (intro _; show Below _ _ _; first | (with_reducible assumption) | (first | exact Below.mono (by with_reducible assumption) (by first | exact Nat.le_refl _ | (simp [World.setCell]; done) | (simp [World.setCell]; omega) | omega) | (repeat (first | (with_reducible exact Below.refl _ _) | (with_reducible exact below_undrew _ _) | (with_reducible refine Below.drew ?_) | (with_reducible refine Below.alloc ?_ (by first | exact Nat.le_refl _ | (simp [World.setCell]; done) | (simp [World.setCell]; omega) | omega) _))))))
            refine any_end (by decide +kernel) ?_
            go_wp2_with fail
            go_meet
            refine ⟨_, LX, wp2.heap.size, AX, cX, rfl, Lib.hid ?_, Lib.hid ?_, Lib.hid ?_, ?_, ?_, ?_, ?_, ?_⟩
            · refine ⟨?_, ?_, ?_, fun j => ?_, ?_⟩
              · go_simp
              · go_simp
              · go_simp
              · go_simp
              · exact (by first | exact Nat.le_refl _ | (simp [World.setCell]; done) | (simp [World.setCell]; omega) | omega)
            · repeat (first | (with_reducible exact hOX) | (with_reducible refine RowOwn.drew ?_) | (with_reducible refine RowOwn.alloc ?_ _) | (with_reducible refine RowOwn.setC ?_ ?_ _; focus (first | (left; first | omega | (simp; omega) | (simp; done)) | (right; first | omega | (simp; omega) | (simp; done)))))
            · have hl2 : Below w2.heap.size w2 wp2 := Below.trans (show Below w2.heap.size w2 _ by repeat (first | (with_reducible exact Below.refl _ _) | (with_reducible refine Bal ?_ _) | (with_reducible refine Below.drew ?_) | (with_reducible refine below_drewN ?_ _) | (with_reducible refine Bset ?_ ?_ _; focus (first | (with_reducible exact Nat.le_refl _) | (simp; done) | (simp; omega) | omega)) | (with_reducible refine Bt ?_ (by assumption)) | (with_reducible refine Bp (g := g) ?_ (by assumption) (by assumption)))) hBel7
              repeat (first | (with_reducible exact hl2) | (with_reducible refine Bal ?_ _) | (with_reducible refine Below.drew ?_) | (with_reducible refine Bset ?_ ?_ _; focus (first | (with_reducible exact Nat.le_refl _) | (simp; done) | (simp; omega) | omega)))
            · exact (by first | exact Nat.le_refl _ | (simp [World.setCell]; done) | (simp [World.setCell]; omega) | omega)
            · omega
            · omega
            · exact (by first | exact Nat.le_refl _ | (simp [World.setCell]; done) | (simp [World.setCell]; omega) | omega)
            · first | omega | (simp; omega) | (simp; done)
  case rest =>
    obtain ⟨b8, L2, H2', A3, c3, rfl, HX, HO, HW, r1, r2, r3, r4, r5⟩ := hcut
    obtain ⟨wl, rfl⟩ : ∃ v, v = wc := ⟨_, rfl⟩
    have hlo3 : ∀ g, (Value.slice A3 n c3).ownBlock = some g → L2 ≤ g := fun g hg => (HO.out.1.lt g hg).1
    have hS : ASt w (w.heap.size + 1 + 1) (w.heap.size + 1) b8 y d n q 0 A3 c3 (some ⟨w1.heap.size, 0, none⟩) 0 wl := by
      refine ⟨HW2.out.trans (HW.out.mono HW2.out.size), HR2.out.below HW.out, HX.out, HO.out.wide (by omega) r4, ?_, fun g hg => ?_, fun g hg e => ?_⟩
      · exact (HE2.out.below (B := w2.heap.size) (by omega) HW.out).wide (by omega) (by have := HW.out.size; omega)
      · simp [Value.ownBlock] at hg; omega
      · simp [Value.ownBlock] at hg
        have := hlo3 g e
        omega
    have HS := Lib.hid hS
    have h38 : w.heap.size + 1 + 1 ≤ b8 := by omega
    clear hS HX HO HW r1 r2 r3 r4 r5 hlo3 z0 z1 z2 HR2 HE2 HW2 H2
    go_wp2_with fail
    go_loopw [7] (fun s7 wr => ∃ (k : Nat) (A : Option Addr) (c : Nat) (B : Option Addr) (cb : Nat), k ≤ K ∧ s7 = .slice B k cb ∧ Hid (ASt w (w.heap.size + 1 + 1) (w.heap.size + 1) b8 y d n q k A c B cb wr)) (fun s7 _ => n - lenV s7)
    case atStart => exact ⟨0, _, _, _, 0, Nat.zero_le _, rfl, HS⟩
    case round =>
      obtain ⟨k, A, c, B, cb, hk, rfl, HSk⟩ := hrel
      clear HS
      have hwr := HSk.out.bel.size
      have h8r : b8 < wr.heap.size := HSk.out.box.2.2.2.2
      have h4r : (w.heap.size + 1) < wr.heap.size := HSk.out.res.2.2.2.2
      have hnk : n - k ≤ 1048576 := by omega
      by_cases hkK : k < K
      · have hta := hall k hkK
        obtain ⟨z0, z1, z2, z3, z4⟩ := HSk.out.box
        go_wp2_with fail
        clear z0 z1 z2 z3 z4
        refine ((ibk_any wr (w.heap.size + 1 + 1) wr.heap.size A (n - k) c (yAt y q k) d now (dropQ q k) HSk.out.ra.row (Nat.le_refl _) hnk).mono fun e w' hr => take_on hta hr).mono ?_
        rintro e w5 ⟨A5, c5, hO5, rfl, hb5⟩
        have hz5 := hb5.size
        have hltr : ∀ g, (Value.slice B k cb).ownBlock = some g → g < wr.heap.size := fun g hg => (HSk.out.rb.1.lt g hg).2
        have HS5 := Lib.hid (HSk.out.below hb5)
        have HO5 := Lib.hid hO5
        clear hb5 hO5 HSk hta
        have hlt5 : ∀ g, (Value.slice B k cb).ownBlock = some g → (w.heap.size + 1 + 1) ≤ g ∧ g < w5.heap.size := fun g hg => HS5.out.rb.1.lt g hg
        obtain ⟨Y5, hY5⟩ : ∃ v, yAt y q (k + 1) = v := ⟨_, rfl⟩
        obtain ⟨N5, hN5⟩ : ∃ v, n - (k + 1) = v := ⟨_, rfl⟩
        rw [hY5, hN5]
        rw [hN5] at HO5
        have HY5 := Lib.hid hY5
        have HN5 := Lib.hid hN5
        clear hY5 hN5
        go_upto_region 9 with (at_builtin; go_loud (refine wpList_rowAppend _ rfl (.tmp 43) (.tmp 45) _ rfl 30 i0 _ 6 40 Try.underlying43 q1 q2 q3 q4 rfl (by decide) (w.heap.size + 1 + 1) _ B k cb (PkF fun i => (q i).p) rfl (RowOwn.alloc (RowOwn.alloc (RowOwn.alloc HS5.out.rb _) _) _) _ _ _ 1 1 _ rfl (six_at _ _ _ _ _ _ _ _ _ (by simp)) ?_ (by unfold maxLen; omega) (by omega) (by simp; omega) ?_); (focus (intro i hi; rcases (by omega : i = 0 ∨ i = 1 ∨ i = 2 ∨ i = 3 ∨ i = 4 ∨ i = 5) with rfl | rfl | rfl | rfl | rfl | rfl <;> rfl)); intro B6 cb6 w6 hO6 hG6 hL6)
        have hb9 := Bx.grown (b := w5.heap.size) (y := Y5) (d := d) (A := A5) (n := N5) (c := c5) ⟨by simp [go_sem], by simp [go_sem], by simp [go_sem], fun j => by simp [go_sem], by simp; try omega⟩ hG6 (fun e => by have := hlt5 _ e.symm; omega)
        have hb8 := (Bx.below HS5.out.box (by repeat (first | (with_reducible exact Below.refl _ _) | (with_reducible refine Bal ?_ _) | (with_reducible refine Below.drew ?_) | (with_reducible refine below_drewN ?_ _) | (with_reducible refine Bset ?_ ?_ _; focus (first | (with_reducible exact Nat.le_refl _) | (simp; done) | (simp; omega) | omega)) | (with_reducible refine Bt ?_ (by assumption)) | (with_reducible refine Bp (g := g) ?_ (by assumption) (by assumption))))).grown hG6 (fun e => HS5.out.nb b8 e.symm rfl)
        obtain ⟨k0, k1, k2, k3, k4⟩ := hb9
        obtain ⟨m0, m1, m2, m3, m4⟩ := hb8
        have HO6 := Lib.hid hO6
        have HG6 := Lib.hid hG6
        have HL6 := Lib.hid hL6
        clear hO6 hG6 hL6
        go_wp2_with fail
        go_roundw
        case rel =>
          have eY := HY5.out
          have eN := HN5.out
          subst eY eN
          have h8w : b8 < w5.heap.size := HS5.out.box.2.2.2.2
          refine ⟨k + 1, A5, c5, B6, cb6, by omega, rfl, Lib.hid (ASt.next (h := HS5.out.below (by repeat (first | (with_reducible exact Below.refl _ _) | (with_reducible refine Bal ?_ _) | (with_reducible refine Below.drew ?_) | (with_reducible refine below_drewN ?_ _) | (with_reducible refine Bset ?_ ?_ _; focus (first | (with_reducible exact Nat.le_refl _) | (simp; done) | (simp; omega) | omega)) | (with_reducible refine Bt ?_ (by assumption)) | (with_reducible refine Bp (g := g) ?_ (by assumption) (by assumption))))) (hw := by omega) (by omega) (by omega) (by omega) HG6.out ⟨wr.heap.size, ?_, by omega, by omega, ?_⟩ ?_ ?_)⟩
          · have hg := HG6.out
            refine RowOwn.wide (hi := w5.heap.size) (RowOwn.only (fun g hg => Or.inl (hltr g hg)) (RowOwn.below (Nat.le_refl _) HO5.out (by repeat (first | (with_reducible exact Below.refl _ _) | (with_reducible refine Bal ?_ _) | (with_reducible refine Below.drew ?_) | (with_reducible refine below_drewN ?_ _) | (with_reducible refine Bset ?_ ?_ _; focus (first | (with_reducible exact Nat.le_refl _) | (simp; done) | (simp; omega) | omega)) | (with_reducible refine Bt ?_ (by assumption)) | (with_reducible refine Bp (g := g) ?_ (by assumption) (by assumption))))) hg) (Nat.le_refl _) (by have := hg.size; simp at this; omega)
          · intro g hg e
            have h1 := HO5.out.1.lt g e
            rcases HL6.out with h | h
            · rw [h] at hg; have := hltr g hg; omega
            · rw [h] at hg; simp at hg; omega
          · refine (snoc_pk HO6.out).congr (RowF_congr (n := k + 1) (by decide) fun i hi => ?_)
            unfold snocP
            by_cases e : i < k
            · rw [if_pos e]
            · obtain rfl : i = k := by omega
              rw [if_neg e]
          · intro g hg e
            subst e
            rcases HL6.out with h | h
            · rw [h] at hg; exact HS5.out.nb _ hg rfl
            · rw [h] at hg; simp at hg; omega
        case measure => simp [lenV]; omega
      · obtain rfl : k = K := by omega
        obtain ⟨z0, z1, z2, z3, z4⟩ := HSk.out.box
        go_wp2_with fail
        clear z0 z1 z2 z3 z4
        refine ((ibk_any wr (w.heap.size + 1 + 1) wr.heap.size A (n - k) c (yAt y q k) d now (dropQ q k) HSk.out.ra.row (Nat.le_refl _) hnk).mono fun e w' hr => take_off hno hr).mono ?_
        rintro e w5 ⟨rfl, hb5⟩
        have hz5 := hb5.size
        have HS5 := Lib.hid (HSk.out.below hb5)
        clear hb5 HSk hno
        obtain ⟨z0, z1, z2, z3, z4⟩ := HS5.out.box
        obtain ⟨p0, p1, p2, p3, p4⟩ := HS5.out.res
        have HRA := Lib.hid HS5.out.ra
        have HRB := Lib.hid HS5.out.rb
        have HBE := Lib.hid HS5.out.bel
        have hq1 : w.heap.size < w5.heap.size := by omega
        have hq2 : w.heap.size < w5.heap.size + 1 := by omega
        have hq3 : w.heap.size + 1 < w5.heap.size + 1 := by omega
        go_wp2_with fail
        refine bodyPost_ret (v := .tuple #[.agg #[.int .i64 (yAt y q k), .int .i64 d, .slice A (n - k) c], .slice B k cb, .bool true]) ?_ rfl ?_
        · simp only [results, Try.results28]
          go_simp
        refine ⟨A, c, B, cb, ?_, ?_, HS5.out.dis, rfl, ?_⟩
        · refine RowOwn.wide (lo := (w.heap.size + 1 + 1)) (hi := w5.heap.size) ?_ (by omega) (by first | exact Nat.le_refl _ | (simp [World.setCell]; done) | (simp [World.setCell]; omega) | omega)
          repeat (first | (with_reducible exact HRA.out) | (with_reducible refine RowOwn.drew ?_) | (with_reducible refine RowOwn.alloc ?_ _) | (with_reducible refine RowOwn.setC ?_ ?_ _; focus (left; first | omega | (simp; omega) | (simp; done))))
        · refine RowOwn.wide (lo := (w.heap.size + 1 + 1)) (hi := w5.heap.size) ?_ (by omega) (by first | exact Nat.le_refl _ | (simp [World.setCell]; done) | (simp [World.setCell]; omega) | omega)
          repeat (first | (with_reducible exact HRB.out) | (with_reducible refine RowOwn.drew ?_) | (with_reducible refine RowOwn.alloc ?_ _) | (with_reducible refine RowOwn.setC ?_ ?_ _; focus (left; first | omega | (simp; omega) | (simp; done))))
        · have hbe := HBE.out
          repeat (first | (with_reducible exact hbe) | (with_reducible refine Bal ?_ _) | (with_reducible refine Below.drew ?_) | (with_reducible refine Bset ?_ ?_ _; focus (first | (simp; done) | (simp; omega) | omega)))
end Go.Proofs.Ytegdogamenoaiaa
