/- All packets that are returned at a time: both calls by one contract; equal lists of packets, compared as the laws do. -/
import Derived.Test.YtegdogamenoaiaaBai
import Derived.Test.YtegdogamenoaiaaBas
namespace Go.Proofs.Ytegdogamenoaiaa
open Go Go.RowKit
set_option linter.unusedVariables false
set_option linter.unusedSimpArgs false
theorem ba_any (y d now : Int) (n : Nat) (q : Nat → Hd) (hn : n ≤ 1048576) : ∃ (yy dd : Int) (nn : Nat) (qq : Nat → Hd) (K : Nat) (ok : Bool), nn ≤ 1048576 ∧ K ≤ 1048576 ∧
    (ok = true → BfOk y d n q ∧ (0 ≤ now ∧ now ≤ 100998) ∧ K ≤ n ∧ yy = yAt y q K ∧ dd = d ∧ nn = n - K ∧ qq = dropQ q K ∧ ¬ tkA y d n q now K ∧ ∀ k, k < K → tkA y d n q now k) ∧
    (∀ W lo hi A c, RowAt W lo hi A n 7 (HdF q) → hi ≤ W.heap.size → Calls Try.prog 28 #[.agg #[.int .i64 y, .int .i64 d, .slice A n c], .int .i64 now] W (GivesBA yy dd nn qq K (fun i => (q i).p) ok W)) ∧
    (∀ W lo hi A c, RowAt W lo hi A n 7 (HdF q) → hi ≤ W.heap.size → Calls Try.prog 27 #[.agg #[.int .i64 y, .int .i64 d, .slice A n c], .int .i64 now] W (GivesBA yy dd nn qq K (fun i => (q i).p) ok W)) := by
  by_cases h : BfOk y d n q ∧ 0 ≤ now ∧ now ≤ 100998
  · obtain ⟨K, h1, h2, h3⟩ := first_no (tkA_end y d n q now)
    exact ⟨_, _, _, _, K, true, by omega, by omega, fun _ => ⟨h.1, h.2, h1, rfl, rfl, rfl, rfl, h2, h3⟩, fun W lo hi A c hr hh => iba_ok W lo hi A n c y d now q K hr hh hn h.1 h.2 h1 h2 h3, fun W lo hi A c hr hh => sba_ok W lo hi A n c y d now q K hr hh hn h.1 h.2 h1 h2 h3⟩
  · exact ⟨_, _, _, _, 0, false, by omega, by omega, (fun e => absurd e (by decide)), fun W lo hi A c hr hh => iba_bad W lo hi A n c y d now q hr hh hn h, fun W lo hi A c hr hh => sba_bad W lo hi A n c y d now q hr hh hn h⟩
theorem bf_sucA {y d : Int} {M : Nat} {q : Nat → Hd} (h : BfOk y d (M + 1) q) : BfOk ((q 0).p.w + 1) d M (sucQ q) := by
  have h0 := h.2.2.2 0 (by omega)
  obtain ⟨⟨a1, a2⟩, _⟩ := h0.1
  refine ⟨by omega, h.2.1, by have := h.2.2.1; omega, fun i hi => ?_⟩
  have h1 := h.2.2.2 (i + 1) (by omega)
  have h2 := h.2.2.2.asc 0 (i + 1) (by omega) (by omega)
  refine ⟨h1.1, h1.2.1, by show (q 0).p.w + 1 ≤ (q (i + 1)).p.w; omega, fun h3 => ?_⟩
  have := h1.2.2.2 (by omega)
  show (q (i - 1 + 1)).p.w < (q (i + 1)).p.w
  rw [show i - 1 + 1 = i + 1 - 1 by omega]
  exact this
theorem bf_drop {y d : Int} {n : Nat} {q : Nat → Hd} (h : BfOk y d n q) : ∀ k, k ≤ n → BfOk (yAt y q k) d (n - k) (dropQ q k)
  | 0, _ => h
  | k + 1, hk => by
    have h1 := bf_drop h k (by omega)
    rw [show n - k = n - (k + 1) + 1 by omega] at h1
    have h2 := bf_sucA h1
    rw [dropQ_at, dropQ_suc] at h2
    exact h2
/-- Late enough all are returned. -/
theorem all_late {y d : Int} {n : Nat} {q : Nat → Hd} (h : BfOk y d n q) {K : Nat} (hK : K ≤ n) (hno : ¬ tkA y d n q 100998 K) : K = n := by
  rcases Nat.lt_or_ge K n with hlt | hge
  · refine absurd ?_ hno
    refine ⟨bf_drop h K hK, by omega, by omega, Or.inr ?_⟩
    rw [dropQ_at]
    have h1 := (h.2.2.2 K hlt).2.1
    have h2 := h.2.1
    omega
  · omega
set_option maxRecDepth 100000 in
set_option maxHeartbeats 4000000 in
theorem samePk_same (w : World) {lo hi lo2 hi2 : Nat} {A B : Option Addr} {n c d : Nat} {q : Nat → Pk} (h : RowAt w lo hi A n 6 (PkF q)) (h2 : RowAt w lo2 hi2 B n 6 (PkF q)) (hh : hi ≤ w.heap.size) (hh2 : hi2 ≤ w.heap.size) (hn : n ≤ 1048576) :
    Calls Try.prog 41 #[.slice A n c, .slice B n d] w fun e w' => e = .returned (.bool true) ∧ Below w.heap.size w w' := by
  have H := Lib.hid h
  have H2 := Lib.hid h2
  clear h h2
  go_enter Try.func41, Try.ntmps41
  go_wp2_with fail
  go_loopw [5] (fun i wr => ∃ k, k ≤ n ∧ i = .int .i64 (k : Nat) ∧ Hid (Below w.heap.size w wr)) (fun i _ => n - (intOf i).toNat)
  case atStart => exact ⟨0, Nat.zero_le _, rfl, Lib.hid (Below.refl _ _)⟩
  case round =>
    obtain ⟨k, hk, rfl, hB⟩ := hrel
    by_cases hkn : k < n
    · obtain ⟨b, off, rfl, _, hb1, c0, c1, c2, c3, c4, c5⟩ := Pk_at (H.out.below hh hB.out) hkn
      obtain ⟨b2, off2, rfl, _, hb2, d0, d1, d2, d3, d4, d5⟩ := Pk_at (H2.out.below hh2 hB.out) hkn
      have hs := hB.out.size
      have hb1' : b < wr.heap.size := by omega
      have hb2' : b2 < wr.heap.size := by omega
      go_wp2_with fail
      refine wp_region_mixB (by kernel_rfl) (by kernel_rfl) ?_
      repeat (first
        | (refine mix_skip rfl ?_; have e0 : True := trivial; clear e0; refine mix_putK ?_; intro K hK; go_simp; refine hK _ ?_; clear hK K)
        | (refine mix_readE rfl rfl rfl ?_; apply Exists.intro; refine ⟨fun w' hb' => ?_, ?_⟩; (focus (obtain ⟨hc', hf'⟩ := Old.cells hb'; clear hb'; go_simp; try exact rfl)); have e0 : True := trivial; clear e0; refine mix_putK ?_; intro K hK; go_simp; refine hK _ ?_; clear hK K)
        | (refine mix_pureE rfl rfl ?_; apply Exists.intro; refine ⟨fun w' => ?_, ?_⟩; (focus (go_simp; try exact rfl)); have e0 : True := trivial; clear e0; refine mix_putK ?_; intro K hK; go_simp; refine hK _ ?_; clear hK K)
        | (refine mix_eff rfl rfl ?_; go_wp2_with (fail); refine then_mix rfl ?_ ?_; (first | (intro h; have h2 : false = true := h; cases h2) | (intro _; assumption) | (intro _; refine Old.mk ?_; repeat (first | (with_reducible exact Below.refl _ _) | (with_reducible refine Bal ?_ _) | (with_reducible refine Below.drew ?_) | (with_reducible refine below_drewN ?_ _) | (with_reducible refine Bset ?_ ?_ _; focus (first | (with_reducible exact Nat.le_refl _) | (simp; done) | (simp; omega) | omega)) | (with_reducible refine Bt ?_ (by assumption)) | (with_reducible refine Bp (g := g) ?_ (by assumption) (by assumption)))))))
      refine mix_nil ?_
      go_wp2_with fail
      go_roundw
      case rel => exact ⟨k + 1, by omega, by go_num, Lib.hid hB.out.drew⟩
      case measure => simp [intOf]; omega
    · go_wp2_with fail
      go_ret
      exact ⟨rfl, hB.out⟩
end Go.Proofs.Ytegdogamenoaiaa
