/- Rooms: when they are valid (printed by gen_rmv.py). -/
import Derived.Test.YtelcclhaepfmgaaRmp
namespace Go.Proofs.Ytelcclhaepfmgaa
open Go Go.RowKit
set_option linter.unusedVariables false
set_option linter.unusedSimpArgs false
theorem HearsUp.zero (n : Nat) (r : Nat → Mm) (m : Mm) : HearsUp 0 n r m := fun j h => absurd h (by omega)
theorem HearsUp.succ {k n : Nat} {r : Nat → Mm} {m : Mm} (h : HearsUp k n r m) (h1 : m.z k ≠ m.id) (h2 : ¬ placeI n r (m.z k) < 0) (h3 : 0 < k → m.z (k - 1) < m.z k) : HearsUp (k + 1) n r m := fun j hj => by
  by_cases e : j = k
  · subst e
    refine ⟨h1, ?_, h3⟩
    by_cases h4 : ∃ i, i < n ∧ (r i).id = m.z j
    · exact h4
    · exact absurd (placeI_neg.2 fun i hi e => h4 ⟨i, hi, e⟩) h2
  · exact h j (by omega)
def mvB (n : Nat) (r : Nat → Mm) (m : Mm) : Bool := decide ((0 ≤ m.id ∧ m.id ≤ 99) ∧ HearsUp m.n n r m)
def hvB (n : Nat) (r : Nat → Mm) (m : Mm) : Bool := decide (HearsUp m.n n r m)
theorem MbrUp.zero (n : Nat) (r : Nat → Mm) : MbrUp 0 n r := fun j h => absurd h (by omega)
theorem MbrUp.succ {k n : Nat} {r : Nat → Mm} (h : MbrUp k n r) (h1 : (0 ≤ (r k).id ∧ (r k).id ≤ 99) ∧ HearsUp (r k).n n r (r k)) (h3 : 0 < k → (r (k - 1)).id < (r k).id) : MbrUp (k + 1) n r := fun j hj => by
  by_cases e : j = k
  · subst e; exact ⟨h1.1, h1.2, h3⟩
  · exact h j (by omega)
set_option maxRecDepth 100000 in
set_option maxHeartbeats 8000000 in
theorem imv_any (w : World) (lo hi lo2 hi2 : Nat) (A : Option Addr) (n c : Nat) (M : Nat → Mb) (id : Int) (s : Bool) (nm cm : Nat) (z : Nat → Int) (Am : Option Addr) (h : RowAt w lo hi A n 3 (MbF M)) (hi' : hi ≤ w.heap.size) (hn : n ≤ 1048576) (hz : Ints w lo2 hi2 Am nm z) (hi2' : hi2 ≤ w.heap.size) (hnm : nm ≤ 1048576) :
    Calls Try.prog 44 #[.slice A n c, .agg #[.int .i64 id, .bool s, .slice Am nm cm]] w fun e w' => e = .returned (.bool (mvB n (plain M) ⟨id, s, nm, z⟩)) ∧ Below w.heap.size w w' := by
  have hp := fun W v (hb : Below w.heap.size w W) => placeOf_any W lo hi A n c v M (h.below hi' hb) (Nat.le_trans hi' hb.size) hn
  have HP := Lib.hid hp
  have HZ := Lib.hid hz
  clear hp h hz
  by_cases g1 : 0 ≤ id
  rotate_left
  · have HN := Lib.hid (show false = mvB n (plain M) ⟨id, s, nm, z⟩ from (decide_eq_false (fun h => g1 h.1.1)).symm)
    have g1x : id < 0 := by omega
    go_enter Try.func44, Try.ntmps44
    go_wp2_with fail
    go_ret
    go_light
    refine ⟨ret_bool HN.out, ?_⟩
    repeat (first | (with_reducible exact Below.refl _ _) | (with_reducible refine Bal ?_ _) | (with_reducible refine Below.drew ?_) | (with_reducible refine below_drewN ?_ _) | (with_reducible refine Bset ?_ ?_ _; focus (first | (with_reducible exact Nat.le_refl _) | (simp; done) | (simp; omega) | omega)) | (with_reducible refine Bt ?_ (by assumption)) | (with_reducible refine Bp (g := g) ?_ (by assumption) (by assumption)))
  by_cases g2 : id ≤ 99
  rotate_left
  · have HN := Lib.hid (show false = mvB n (plain M) ⟨id, s, nm, z⟩ from (decide_eq_false (fun h => g2 h.1.2)).symm)
    have g2x : 99 < id := by omega
    go_enter Try.func44, Try.ntmps44
    go_wp2_with fail
    go_ret
    go_light
    refine ⟨ret_bool HN.out, ?_⟩
    repeat (first | (with_reducible exact Below.refl _ _) | (with_reducible refine Bal ?_ _) | (with_reducible refine Below.drew ?_) | (with_reducible refine below_drewN ?_ _) | (with_reducible refine Bset ?_ ?_ _; focus (first | (with_reducible exact Nat.le_refl _) | (simp; done) | (simp; omega) | omega)) | (with_reducible refine Bt ?_ (by assumption)) | (with_reducible refine Bp (g := g) ?_ (by assumption) (by assumption)))
  have HG := Lib.hid (show 0 ≤ id ∧ id ≤ 99 from ⟨g1, g2⟩)
  have g1x : ¬ id < 0 := by omega
  have g2x : ¬ 99 < id := by omega
  clear g1 g2
  go_enter Try.func44, Try.ntmps44
  go_wp2_with fail
  go_loopw [18] (fun i wr => ∃ k, k ≤ nm ∧ i = .int .i64 (k : Nat) ∧ Hid (HearsUp k n (plain M) ⟨id, s, nm, z⟩) ∧ Hid (Below (w.heap.size + 1) (w.alloc (.cells #[.int .i64 id, .bool s, .slice Am nm cm] 28)) wr)) (fun i _ => nm - (intOf i).toNat)
  case atStart => exact ⟨0, Nat.zero_le _, rfl, Lib.hid (HearsUp.zero _ _ _), Lib.hid (Below.refl _ _)⟩
  case round =>
    obtain ⟨k, hk, rfl, hA, hB⟩ := hrel
    have hBs : w.heap.size + 1 ≤ wr.heap.size := by have := hB.out.size; simpa using this
    have hws : w.heap.size < wr.heap.size := by omega
    have e0 : wr.cell? ⟨w.heap.size, 0, none⟩ = some (.int .i64 id) := (hB.out.cell (p := ⟨w.heap.size, 0, none⟩) (Nat.lt_succ_self _)).trans (by go_simp)
    have e2 : wr.cell? ⟨w.heap.size, 2, none⟩ = some (.slice Am nm cm) := (hB.out.cell (p := ⟨w.heap.size, 2, none⟩) (Nat.lt_succ_self _)).trans (by go_simp)
    have hbr : w.heap.size ≤ wr.heap.size := by omega
    have HBR := Lib.hid (show Below w.heap.size w wr from (Below.alloc (Below.refl w.heap.size w) (Nat.le_refl _) _).trans (Below.mono hB.out (Nat.le_succ _)))
    have HBW := HBR
    have HZr := Lib.hid (HZ.out.below hi2' HBR.out)
    by_cases hkn : k < nm
    rotate_left
    · obtain rfl : k = nm := by omega
      have HN := Lib.hid (show true = mvB n (plain M) ⟨id, s, k, z⟩ from (decide_eq_true ⟨HG.out, hA.out⟩).symm)
      go_wp2_with fail
      go_ret
      exact ⟨ret_bool HN.out, HBR.out⟩
    by_cases hs : z k = id
    · obtain ⟨b, off, rfl, _, hb2, c0⟩ := Ints.at_ HZr.out hkn
      have hbw : b < wr.heap.size := by omega
      have HN := Lib.hid (show false = mvB n (plain M) ⟨id, s, nm, z⟩ from (decide_eq_false fun h => (h.2 k hkn).1 hs).symm)
      go_wp2_with fail
      go_ret
      go_light
      refine ⟨ret_bool HN.out, ?_⟩
      exact HBR.out
    have HQ := Lib.hid hs
    have hqb : (z k == id) = false := by simpa using hs
    clear hs
    obtain ⟨pv, hpv⟩ : ∃ v, placeI n (plain M) (z k) = v := ⟨_, rfl⟩
    by_cases hv : pv < 0
    · obtain ⟨b, off, rfl, _, hb2, c0⟩ := Ints.at_ HZr.out hkn
      have hbw : b < wr.heap.size := by omega
      have hvb : decide (pv < 0) = true := decide_eq_true hv
      have HN := Lib.hid (show false = mvB n (plain M) ⟨id, s, nm, z⟩ from (decide_eq_false fun h => by
        obtain ⟨i, hi, e⟩ := (h.2 k hkn).2.1
        exact placeI_neg.1 (by rw [hpv]; exact hv) i hi e).symm)
      go_wp2_with fail
      refine (HP.out _ _ ?_).mono ?_
      focus (exact HBW.out)
      rintro e w2 ⟨rfl, hbv⟩
      rw [hpv]
      have hyv := hbv.size
      have x0 := (hbv.cell (p := ⟨w.heap.size, 0, none⟩) hws).trans e0
      have x2 := (hbv.cell (p := ⟨w.heap.size, 2, none⟩) hws).trans e2
      have hws2 : w.heap.size < w2.heap.size := by omega
      have hb22 : b < w2.heap.size := by omega
      have y0 := (hbv.cell (p := ⟨b, off + k, none⟩) hbw).trans c0
      clear c0 e0 e2
      go_wp2_with fail
      go_ret
      go_light
      refine ⟨ret_bool HN.out, ?_⟩
      refine HBR.out.trans (Below.mono (B := wr.heap.size) ?_ hbr)
      repeat (first | (with_reducible exact Below.refl _ _) | (with_reducible refine Bal ?_ _) | (with_reducible refine Below.drew ?_) | (with_reducible refine below_drewN ?_ _) | (with_reducible refine Bset ?_ ?_ _; focus (first | (with_reducible exact Nat.le_refl _) | (simp; done) | (simp; omega) | omega)) | (with_reducible refine Bt ?_ (by assumption)) | (with_reducible refine Bp (g := g) ?_ (by assumption) (by assumption)))
    have HV := Lib.hid (show ¬ placeI n (plain M) (z k) < 0 by rw [hpv]; exact hv)
    have hvb : decide (pv < 0) = false := decide_eq_false hv
    clear hv
    by_cases hk0 : k = 0
    · subst hk0
      obtain ⟨b, off, rfl, _, hb2, c0⟩ := Ints.at_ HZr.out hkn
      have hbw : b < wr.heap.size := by omega
      simp only [Nat.add_zero] at c0
      go_wp2_with fail
      refine (HP.out _ _ ?_).mono ?_
      focus (exact HBW.out)
      rintro e w2 ⟨rfl, hbv⟩
      rw [hpv]
      have hyv := hbv.size
      have x0 := (hbv.cell (p := ⟨w.heap.size, 0, none⟩) hws).trans e0
      have x2 := (hbv.cell (p := ⟨w.heap.size, 2, none⟩) hws).trans e2
      have hws2 : w.heap.size < w2.heap.size := by omega
      have hb22 : b < w2.heap.size := by omega
      have y0 := (hbv.cell (p := ⟨b, off, none⟩) hbw).trans c0
      clear c0 e0 e2
      go_wp2_with fail
      go_roundw
      case rel =>
        refine ⟨0 + 1, by omega, by go_num, Lib.hid (hA.out.succ HQ.out (by have hh := HV.out; first | exact hh | exact Int.not_lt.2 hh) (fun h => absurd h (by omega))), Lib.hid (hB.out.trans (Below.mono (B := wr.heap.size) ?_ hBs))⟩
        repeat (first | (with_reducible exact Below.refl _ _) | (with_reducible refine Bal ?_ _) | (with_reducible refine Below.drew ?_) | (with_reducible refine below_drewN ?_ _) | (with_reducible refine Bset ?_ ?_ _; focus (first | (with_reducible exact Nat.le_refl _) | (simp; done) | (simp; omega) | omega)) | (with_reducible refine Bt ?_ (by assumption)) | (with_reducible refine Bp (g := g) ?_ (by assumption) (by assumption)))
      case measure => simp [intOf]; omega
    obtain ⟨j, rfl⟩ : ∃ j, k = j + 1 := ⟨k - 1, by omega⟩
    have hjn : j < nm := by omega
    obtain ⟨b, off, rfl, _, hb2, c0⟩ := Ints.at_ HZr.out hkn
    obtain ⟨b', off', hAe, _, _, d0⟩ := Ints.at_ HZr.out hjn
    cases hAe
    have hbw : b < wr.heap.size := by omega
    have wj : IntKind.i64.wrap (j : Int) = (j : Int) := IntWalk.i64_in _ (by omega)
    clear hk0
    by_cases hl : z j < z (j + 1)
    · have HL := Lib.hid hl
      have hlx : decide (z (j + 1) ≤ z j) = false := decide_eq_false (by omega)
      clear hl
      go_wp2_with fail
      refine (HP.out _ _ ?_).mono ?_
      focus (exact HBW.out)
      rintro e w2 ⟨rfl, hbv⟩
      rw [hpv]
      have hyv := hbv.size
      have x0 := (hbv.cell (p := ⟨w.heap.size, 0, none⟩) hws).trans e0
      have x2 := (hbv.cell (p := ⟨w.heap.size, 2, none⟩) hws).trans e2
      have hws2 : w.heap.size < w2.heap.size := by omega
      have hb22 : b < w2.heap.size := by omega
      have y0 := (hbv.cell (p := ⟨b, off + (j + 1), none⟩) hbw).trans c0
      have y1 := (hbv.cell (p := ⟨b, off + j, none⟩) hbw).trans d0
      clear c0 d0 e0 e2
      go_wp2_with fail
      go_roundw
      case rel =>
        refine ⟨j + 1 + 1, by omega, by go_num, Lib.hid (hA.out.succ HQ.out (by have hh := HV.out; first | exact hh | exact Int.not_lt.2 hh) (fun _ => HL.out)), Lib.hid (hB.out.trans (Below.mono (B := wr.heap.size) ?_ hBs))⟩
        repeat (first | (with_reducible exact Below.refl _ _) | (with_reducible refine Bal ?_ _) | (with_reducible refine Below.drew ?_) | (with_reducible refine below_drewN ?_ _) | (with_reducible refine Bset ?_ ?_ _; focus (first | (with_reducible exact Nat.le_refl _) | (simp; done) | (simp; omega) | omega)) | (with_reducible refine Bt ?_ (by assumption)) | (with_reducible refine Bp (g := g) ?_ (by assumption) (by assumption)))
      case measure => simp [intOf]; omega
    · have hlx : decide (z (j + 1) ≤ z j) = true := decide_eq_true (by omega)
      have HN := Lib.hid (show false = mvB n (plain M) ⟨id, s, nm, z⟩ from (decide_eq_false fun h => hl ((h.2 (j + 1) hkn).2.2 (by omega))).symm)
      clear hl
      go_wp2_with fail
      refine (HP.out _ _ ?_).mono ?_
      focus (exact HBW.out)
      rintro e w2 ⟨rfl, hbv⟩
      rw [hpv]
      have hyv := hbv.size
      have x0 := (hbv.cell (p := ⟨w.heap.size, 0, none⟩) hws).trans e0
      have x2 := (hbv.cell (p := ⟨w.heap.size, 2, none⟩) hws).trans e2
      have hws2 : w.heap.size < w2.heap.size := by omega
      have hb22 : b < w2.heap.size := by omega
      have y0 := (hbv.cell (p := ⟨b, off + (j + 1), none⟩) hbw).trans c0
      have y1 := (hbv.cell (p := ⟨b, off + j, none⟩) hbw).trans d0
      clear c0 d0 e0 e2
      go_wp2_with fail
      go_ret
      go_light
      refine ⟨ret_bool HN.out, ?_⟩
      refine HBR.out.trans (Below.mono (B := wr.heap.size) ?_ hbr)
      repeat (first | (with_reducible exact Below.refl _ _) | (with_reducible refine Bal ?_ _) | (with_reducible refine Below.drew ?_) | (with_reducible refine below_drewN ?_ _) | (with_reducible refine Bset ?_ ?_ _; focus (first | (with_reducible exact Nat.le_refl _) | (simp; done) | (simp; omega) | omega)) | (with_reducible refine Bt ?_ (by assumption)) | (with_reducible refine Bp (g := g) ?_ (by assumption) (by assumption)))
set_option maxRecDepth 100000 in
set_option maxHeartbeats 8000000 in
theorem shv_any (w : World) (lo hi lo2 hi2 : Nat) (A : Option Addr) (n c : Nat) (M : Nat → Mb) (id : Int) (s : Bool) (nm cm : Nat) (z : Nat → Int) (Am : Option Addr) (h : RowAt w lo hi A n 3 (MbF M)) (hi' : hi ≤ w.heap.size) (hn : n ≤ 1048576) (hz : Ints w lo2 hi2 Am nm z) (hi2' : hi2 ≤ w.heap.size) (hnm : nm ≤ 1048576) :
    Calls Try.prog 46 #[.slice A n c, .agg #[.int .i64 id, .bool s, .slice Am nm cm]] w fun e w' => e = .returned (.bool (hvB n (plain M) ⟨id, s, nm, z⟩)) ∧ Below w.heap.size w w' := by
  have hp := fun W v (hb : Below w.heap.size w W) => l31At_any W lo hi A n c v M (h.below hi' hb) (Nat.le_trans hi' hb.size) hn
  have HP := Lib.hid hp
  have HZ := Lib.hid hz
  clear hp h hz
  go_enter Try.func46, Try.ntmps46
  go_wp2_with fail
  go_loopw [5] (fun i wr => ∃ k, k ≤ nm ∧ i = .int .i64 (k : Nat) ∧ Hid (HearsUp k n (plain M) ⟨id, s, nm, z⟩) ∧ Hid (Below (w.heap.size + 1) (w.alloc (.cells #[.int .i64 id, .bool s, .slice Am nm cm] 28)) wr)) (fun i _ => nm - (intOf i).toNat)
  case atStart => exact ⟨0, Nat.zero_le _, rfl, Lib.hid (HearsUp.zero _ _ _), Lib.hid (Below.refl _ _)⟩
  case round =>
    obtain ⟨k, hk, rfl, hA, hB⟩ := hrel
    have hBs : w.heap.size + 1 ≤ wr.heap.size := by have := hB.out.size; simpa using this
    have hws : w.heap.size < wr.heap.size := by omega
    have e0 : wr.cell? ⟨w.heap.size, 0, none⟩ = some (.int .i64 id) := (hB.out.cell (p := ⟨w.heap.size, 0, none⟩) (Nat.lt_succ_self _)).trans (by go_simp)
    have e2 : wr.cell? ⟨w.heap.size, 2, none⟩ = some (.slice Am nm cm) := (hB.out.cell (p := ⟨w.heap.size, 2, none⟩) (Nat.lt_succ_self _)).trans (by go_simp)
    have hbr : w.heap.size ≤ wr.heap.size := by omega
    have HBR := Lib.hid (show Below w.heap.size w wr from (Below.alloc (Below.refl w.heap.size w) (Nat.le_refl _) _).trans (Below.mono hB.out (Nat.le_succ _)))
    have HBW := HBR
    have HZr := Lib.hid (HZ.out.below hi2' HBR.out)
    by_cases hkn : k < nm
    rotate_left
    · obtain rfl : k = nm := by omega
      have HN := Lib.hid (show true = hvB n (plain M) ⟨id, s, k, z⟩ from (decide_eq_true hA.out).symm)
      go_wp2_with fail
      go_ret
      exact ⟨ret_bool HN.out, HBR.out⟩
    by_cases hs : z k = id
    · obtain ⟨b, off, rfl, _, hb2, c0⟩ := Ints.at_ HZr.out hkn
      have hbw : b < wr.heap.size := by omega
      have HN := Lib.hid (show false = hvB n (plain M) ⟨id, s, nm, z⟩ from (decide_eq_false fun h => (h k hkn).1 hs).symm)
      go_wp2_with fail
      refine wp_region_mixB (by kernel_rfl) (by kernel_rfl) ?_
      repeat (first
        | (refine mix_skip rfl ?_; have e0 : True := trivial; clear e0; refine mix_putK ?_; intro K hK; go_simp; refine hK _ ?_; clear hK K)
        | (refine mix_readE rfl rfl rfl ?_; apply Exists.intro; refine ⟨fun w' hb' => ?_, ?_⟩; (focus (obtain ⟨hc', hf'⟩ := Old.cells hb'; clear hb'; go_simp; try exact rfl)); have e0 : True := trivial; clear e0; refine mix_putK ?_; intro K hK; go_simp; refine hK _ ?_; clear hK K)
        | (refine mix_pureE rfl rfl ?_; apply Exists.intro; refine ⟨fun w' => ?_, ?_⟩; (focus (go_simp; try exact rfl)); have e0 : True := trivial; clear e0; refine mix_putK ?_; intro K hK; go_simp; refine hK _ ?_; clear hK K)
        | (refine mix_eff rfl rfl ?_; go_wp2_with (fail); refine then_mix rfl ?_ ?_; (first | (intro h; have h2 : false = true := h; cases h2) | (intro _; assumption) | (intro _; refine Old.mk ?_; repeat (first | (with_reducible exact Below.refl _ _) | (with_reducible refine Bal ?_ _) | (with_reducible refine Below.drew ?_) | (with_reducible refine below_drewN ?_ _) | (with_reducible refine Bset ?_ ?_ _; focus (first | (with_reducible exact Nat.le_refl _) | (simp; done) | (simp; omega) | omega)) | (with_reducible refine Bt ?_ (by assumption)) | (with_reducible refine Bp (g := g) ?_ (by assumption) (by assumption)))))))
      refine mix_nil ?_
      go_wp2_with fail
      go_ret
      go_light
      refine ⟨ret_bool HN.out, ?_⟩
      refine HBR.out.trans (Below.mono (B := wr.heap.size) ?_ hbr)
      repeat (first | (with_reducible exact Below.refl _ _) | (with_reducible refine Bal ?_ _) | (with_reducible refine Below.drew ?_) | (with_reducible refine below_drewN ?_ _) | (with_reducible refine Bset ?_ ?_ _; focus (first | (with_reducible exact Nat.le_refl _) | (simp; done) | (simp; omega) | omega)) | (with_reducible refine Bt ?_ (by assumption)) | (with_reducible refine Bp (g := g) ?_ (by assumption) (by assumption)))
    have HQ := Lib.hid hs
    have hqb : (z k == id) = false := by simpa using hs
    clear hs
    obtain ⟨pv, hpv⟩ : ∃ v, placeI n (plain M) (z k) = v := ⟨_, rfl⟩
    by_cases hv : pv < 0
    · obtain ⟨b, off, rfl, _, hb2, c0⟩ := Ints.at_ HZr.out hkn
      have hbw : b < wr.heap.size := by omega
      have hvb : decide (pv < 0) = true := decide_eq_true hv
      have HN := Lib.hid (show false = hvB n (plain M) ⟨id, s, nm, z⟩ from (decide_eq_false fun h => by
        obtain ⟨i, hi, e⟩ := (h k hkn).2.1
        exact placeI_neg.1 (by rw [hpv]; exact hv) i hi e).symm)
      go_wp2_with fail
      refine wp_region_mixB (by kernel_rfl) (by kernel_rfl) ?_
      repeat (first
        | (refine mix_skip rfl ?_; have e0 : True := trivial; clear e0; refine mix_putK ?_; intro K hK; go_simp; refine hK _ ?_; clear hK K)
        | (refine mix_readE rfl rfl rfl ?_; apply Exists.intro; refine ⟨fun w' hb' => ?_, ?_⟩; (focus (obtain ⟨hc', hf'⟩ := Old.cells hb'; clear hb'; go_simp; try exact rfl)); have e0 : True := trivial; clear e0; refine mix_putK ?_; intro K hK; go_simp; refine hK _ ?_; clear hK K)
        | (refine mix_pureE rfl rfl ?_; apply Exists.intro; refine ⟨fun w' => ?_, ?_⟩; (focus (go_simp; try exact rfl)); have e0 : True := trivial; clear e0; refine mix_putK ?_; intro K hK; go_simp; refine hK _ ?_; clear hK K)
        | (refine mix_eff rfl rfl ?_; go_wp2_with ((go_at_call 51; refine (HP.out _ _ ((HBW.out.drew).trans (Below.refl _ _))).mono ?_; rintro e w2 ⟨rfl, hbv⟩; rw [hpv])); refine then_mix rfl ?_ ?_; (first | (intro h; have h2 : false = true := h; cases h2) | (intro _; assumption) | (intro _; refine Old.mk ?_; repeat (first | (with_reducible exact Below.refl _ _) | (with_reducible refine Bal ?_ _) | (with_reducible refine Below.drew ?_) | (with_reducible refine below_drewN ?_ _) | (with_reducible refine Bset ?_ ?_ _; focus (first | (with_reducible exact Nat.le_refl _) | (simp; done) | (simp; omega) | omega)) | (with_reducible refine Bt ?_ (by assumption)) | (with_reducible refine Bp (g := g) ?_ (by assumption) (by assumption)))))))
      refine mix_nil ?_
      go_wp2_with fail
      go_ret
      go_light
      refine ⟨ret_bool HN.out, ?_⟩
      refine HBR.out.trans (Below.mono (B := wr.heap.size) ?_ hbr)
      repeat (first | (with_reducible exact Below.refl _ _) | (with_reducible refine Bal ?_ _) | (with_reducible refine Below.drew ?_) | (with_reducible refine below_drewN ?_ _) | (with_reducible refine Bset ?_ ?_ _; focus (first | (with_reducible exact Nat.le_refl _) | (simp; done) | (simp; omega) | omega)) | (with_reducible refine Bt ?_ (by assumption)) | (with_reducible refine Bp (g := g) ?_ (by assumption) (by assumption)))
    have HV := Lib.hid (show ¬ placeI n (plain M) (z k) < 0 by rw [hpv]; exact hv)
    have hvb : decide (pv < 0) = false := decide_eq_false hv
    clear hv
    by_cases hk0 : k = 0
    · subst hk0
      obtain ⟨b, off, rfl, _, hb2, c0⟩ := Ints.at_ HZr.out hkn
      have hbw : b < wr.heap.size := by omega
      simp only [Nat.add_zero] at c0
      go_wp2_with fail
      refine wp_region_mixB (by kernel_rfl) (by kernel_rfl) ?_
      repeat (first
        | (refine mix_skip rfl ?_; have e0 : True := trivial; clear e0; refine mix_putK ?_; intro K hK; go_simp; refine hK _ ?_; clear hK K)
        | (refine mix_readE rfl rfl rfl ?_; apply Exists.intro; refine ⟨fun w' hb' => ?_, ?_⟩; (focus (obtain ⟨hc', hf'⟩ := Old.cells hb'; clear hb'; go_simp; try exact rfl)); have e0 : True := trivial; clear e0; refine mix_putK ?_; intro K hK; go_simp; refine hK _ ?_; clear hK K)
        | (refine mix_pureE rfl rfl ?_; apply Exists.intro; refine ⟨fun w' => ?_, ?_⟩; (focus (go_simp; try exact rfl)); have e0 : True := trivial; clear e0; refine mix_putK ?_; intro K hK; go_simp; refine hK _ ?_; clear hK K)
        | (refine mix_eff rfl rfl ?_; go_wp2_with ((go_at_call 51; refine (HP.out _ _ ((HBW.out.drew).trans (Below.refl _ _))).mono ?_; rintro e w2 ⟨rfl, hbv⟩; rw [hpv])); refine then_mix rfl ?_ ?_; (first | (intro h; have h2 : false = true := h; cases h2) | (intro _; assumption) | (intro _; refine Old.mk ?_; repeat (first | (with_reducible exact Below.refl _ _) | (with_reducible refine Bal ?_ _) | (with_reducible refine Below.drew ?_) | (with_reducible refine below_drewN ?_ _) | (with_reducible refine Bset ?_ ?_ _; focus (first | (with_reducible exact Nat.le_refl _) | (simp; done) | (simp; omega) | omega)) | (with_reducible refine Bt ?_ (by assumption)) | (with_reducible refine Bp (g := g) ?_ (by assumption) (by assumption)))))))
      refine mix_nil ?_
      go_wp2_with fail
      go_roundw
      case rel =>
        refine ⟨0 + 1, by omega, by go_num, Lib.hid (hA.out.succ HQ.out (by have hh := HV.out; first | exact hh | exact Int.not_lt.2 hh) (fun h => absurd h (by omega))), Lib.hid (hB.out.trans (Below.mono (B := wr.heap.size) ?_ hBs))⟩
        repeat (first | (with_reducible exact Below.refl _ _) | (with_reducible refine Bal ?_ _) | (with_reducible refine Below.drew ?_) | (with_reducible refine below_drewN ?_ _) | (with_reducible refine Bset ?_ ?_ _; focus (first | (with_reducible exact Nat.le_refl _) | (simp; done) | (simp; omega) | omega)) | (with_reducible refine Bt ?_ (by assumption)) | (with_reducible refine Bp (g := g) ?_ (by assumption) (by assumption)))
      case measure => simp [intOf]; omega
    obtain ⟨j, rfl⟩ : ∃ j, k = j + 1 := ⟨k - 1, by omega⟩
    have hjn : j < nm := by omega
    obtain ⟨b, off, rfl, _, hb2, c0⟩ := Ints.at_ HZr.out hkn
    obtain ⟨b', off', hAe, _, _, d0⟩ := Ints.at_ HZr.out hjn
    cases hAe
    have hbw : b < wr.heap.size := by omega
    have wj : IntKind.i64.wrap (j : Int) = (j : Int) := IntWalk.i64_in _ (by omega)
    clear hk0
    by_cases hl : z j < z (j + 1)
    · have HL := Lib.hid hl
      have hlx : decide (z (j + 1) ≤ z j) = false := decide_eq_false (by omega)
      clear hl
      go_wp2_with fail
      refine wp_region_mixB (by kernel_rfl) (by kernel_rfl) ?_
      repeat (first
        | (refine mix_skip rfl ?_; have e0 : True := trivial; clear e0; refine mix_putK ?_; intro K hK; go_simp; refine hK _ ?_; clear hK K)
        | (refine mix_readE rfl rfl rfl ?_; apply Exists.intro; refine ⟨fun w' hb' => ?_, ?_⟩; (focus (obtain ⟨hc', hf'⟩ := Old.cells hb'; clear hb'; go_simp; try exact rfl)); have e0 : True := trivial; clear e0; refine mix_putK ?_; intro K hK; go_simp; refine hK _ ?_; clear hK K)
        | (refine mix_pureE rfl rfl ?_; apply Exists.intro; refine ⟨fun w' => ?_, ?_⟩; (focus (go_simp; try exact rfl)); have e0 : True := trivial; clear e0; refine mix_putK ?_; intro K hK; go_simp; refine hK _ ?_; clear hK K)
        | (refine mix_eff rfl rfl ?_; go_wp2_with ((go_at_call 51; refine (HP.out _ _ ((HBW.out.drew).trans (Below.refl _ _))).mono ?_; rintro e w2 ⟨rfl, hbv⟩; rw [hpv])); refine then_mix rfl ?_ ?_; (first | (intro h; have h2 : false = true := h; cases h2) | (intro _; assumption) | (intro _; refine Old.mk ?_; repeat (first | (with_reducible exact Below.refl _ _) | (with_reducible refine Bal ?_ _) | (with_reducible refine Below.drew ?_) | (with_reducible refine below_drewN ?_ _) | (with_reducible refine Bset ?_ ?_ _; focus (first | (with_reducible exact Nat.le_refl _) | (simp; done) | (simp; omega) | omega)) | (with_reducible refine Bt ?_ (by assumption)) | (with_reducible refine Bp (g := g) ?_ (by assumption) (by assumption)))))))
      refine mix_nil ?_
      go_wp2_with fail
      go_roundw
      case rel =>
        refine ⟨j + 1 + 1, by omega, by go_num, Lib.hid (hA.out.succ HQ.out (by have hh := HV.out; first | exact hh | exact Int.not_lt.2 hh) (fun _ => HL.out)), Lib.hid (hB.out.trans (Below.mono (B := wr.heap.size) ?_ hBs))⟩
        repeat (first | (with_reducible exact Below.refl _ _) | (with_reducible refine Bal ?_ _) | (with_reducible refine Below.drew ?_) | (with_reducible refine below_drewN ?_ _) | (with_reducible refine Bset ?_ ?_ _; focus (first | (with_reducible exact Nat.le_refl _) | (simp; done) | (simp; omega) | omega)) | (with_reducible refine Bt ?_ (by assumption)) | (with_reducible refine Bp (g := g) ?_ (by assumption) (by assumption)))
      case measure => simp [intOf]; omega
    · have hlx : decide (z (j + 1) ≤ z j) = true := decide_eq_true (by omega)
      have HN := Lib.hid (show false = hvB n (plain M) ⟨id, s, nm, z⟩ from (decide_eq_false fun h => hl ((h (j + 1) hkn).2.2 (by omega))).symm)
      clear hl
      go_wp2_with fail
      refine wp_region_mixB (by kernel_rfl) (by kernel_rfl) ?_
      repeat (first
        | (refine mix_skip rfl ?_; have e0 : True := trivial; clear e0; refine mix_putK ?_; intro K hK; go_simp; refine hK _ ?_; clear hK K)
        | (refine mix_readE rfl rfl rfl ?_; apply Exists.intro; refine ⟨fun w' hb' => ?_, ?_⟩; (focus (obtain ⟨hc', hf'⟩ := Old.cells hb'; clear hb'; go_simp; try exact rfl)); have e0 : True := trivial; clear e0; refine mix_putK ?_; intro K hK; go_simp; refine hK _ ?_; clear hK K)
        | (refine mix_pureE rfl rfl ?_; apply Exists.intro; refine ⟨fun w' => ?_, ?_⟩; (focus (go_simp; try exact rfl)); have e0 : True := trivial; clear e0; refine mix_putK ?_; intro K hK; go_simp; refine hK _ ?_; clear hK K)
        | (refine mix_eff rfl rfl ?_; go_wp2_with ((go_at_call 51; refine (HP.out _ _ ((HBW.out.drew).trans (Below.refl _ _))).mono ?_; rintro e w2 ⟨rfl, hbv⟩; rw [hpv])); refine then_mix rfl ?_ ?_; (first | (intro h; have h2 : false = true := h; cases h2) | (intro _; assumption) | (intro _; refine Old.mk ?_; repeat (first | (with_reducible exact Below.refl _ _) | (with_reducible refine Bal ?_ _) | (with_reducible refine Below.drew ?_) | (with_reducible refine below_drewN ?_ _) | (with_reducible refine Bset ?_ ?_ _; focus (first | (with_reducible exact Nat.le_refl _) | (simp; done) | (simp; omega) | omega)) | (with_reducible refine Bt ?_ (by assumption)) | (with_reducible refine Bp (g := g) ?_ (by assumption) (by assumption)))))))
      refine mix_nil ?_
      go_wp2_with fail
      go_ret
      go_light
      refine ⟨ret_bool HN.out, ?_⟩
      refine HBR.out.trans (Below.mono (B := wr.heap.size) ?_ hbr)
      repeat (first | (with_reducible exact Below.refl _ _) | (with_reducible refine Bal ?_ _) | (with_reducible refine Below.drew ?_) | (with_reducible refine below_drewN ?_ _) | (with_reducible refine Bset ?_ ?_ _; focus (first | (with_reducible exact Nat.le_refl _) | (simp; done) | (simp; omega) | omega)) | (with_reducible refine Bt ?_ (by assumption)) | (with_reducible refine Bp (g := g) ?_ (by assumption) (by assumption)))
end Go.Proofs.Ytelcclhaepfmgaa
