/- Who speaks next: the step that follows from who is the loudest. -/
import Derived.Test.YtcdpalpoanlbmaaSpl
import Derived.Test.YtcdpalpoanlbmaaDraw
namespace Go.Proofs.Ytcdpalpoanlbmaa
open Go Go.RowKit
set_option linter.unusedVariables false
set_option linter.unusedSimpArgs false

/-- The next speaker. -/
def stN (now next wait : Int) (n : Nat) (z : Nat → Int) : Int :=
  if now = -1 then (if 20 ≤ z (bestF z n) then bestF z n else -1)
  else if (bestF z n : Int) = now ∨ z (bestF z n) < z now.toNat + 10 then now
  else if (bestF z n : Int) = next ∧ wait = 2 then bestF z n else now
def stX (now next wait : Int) (n : Nat) (z : Nat → Int) : Int :=
  if now = -1 then -1
  else if (bestF z n : Int) = now ∨ z (bestF z n) < z now.toNat + 10 then -1
  else if (bestF z n : Int) = next ∧ wait = 2 then -1 else bestF z n
def stW (now next wait : Int) (n : Nat) (z : Nat → Int) : Int :=
  if now = -1 then 0
  else if (bestF z n : Int) = now ∨ z (bestF z n) < z now.toNat + 10 then 0
  else if (bestF z n : Int) = next then (if wait = 2 then 0 else wait + 1) else 1
theorem ret_agg3 {a b c a' b' c' : Int} (h1 : a = a') (h2 : b = b') (h3 : c = c') : Ending.returned (.agg #[.int .i64 a, .int .i64 b, .int .i64 c]) = .returned (.agg #[.int .i64 a', .int .i64 b', .int .i64 c']) := by rw [h1, h2, h3]

set_option maxHeartbeats 4000000 in
theorem istep_any (now next wait : Int) (w : World) {lo hi : Nat} {A : Option Addr} {n c : Nat} {z : Nat → Int} (h : Ints w lo hi A n z) (hh : hi ≤ w.heap.size) (hs : SpkOk now next wait) (hl : LoudOk n z) (h1 : now < n) (h2 : next < n) :
    Calls Try.prog 21 #[.agg #[.int .i64 now, .int .i64 next, .int .i64 wait], .slice A n c] w fun e w' => e = .returned (.agg #[.int .i64 (stN now next wait n z), .int .i64 (stX now next wait n z), .int .i64 (stW now next wait n z)]) ∧ Below w.heap.size w w' := by
  have hn1 := hl.1.1
  have hn6 := hl.1.2
  have hbn := bestF_lt z hn1 n (Nat.le_refl _)
  have hzb := hl.2 _ hbn
  have hb := fun W : World => fun hW : Ints W lo hi A n z => fun hwh : hi ≤ W.heap.size => (ibest_any W (c := c) hW hn1 (by omega)).mono fun e w' he => (⟨he.1, he.2 ▸ Below.refl _ _⟩ : e = .returned (.int .i64 (bestF z n)) ∧ Below W.heap.size W w')
  unfold stN stX stW
  obtain ⟨B, hB⟩ : ∃ B, B = bestF z n := ⟨_, rfl⟩
  rw [← hB] at hb hbn hzb ⊢
  clear hB
  have HB := Lib.hid hb
  clear hb
  have H := Lib.hid h
  obtain ⟨b, off, rfl, _, hbh, hcB⟩ := h.at_ hbn
  have hb1' : b < w.heap.size := by omega
  have hcN : 0 ≤ now → w.cell? ⟨b, off + now.toNat, none⟩ = some (.int .i64 (z now.toNat)) := fun h0 => h.cell (by omega)
  have hzN : 0 ≤ now → 0 ≤ z now.toNat ∧ z now.toNat ≤ 127 := fun h0 => hl.2 _ (by omega)
  have HL := Lib.hid hl
  clear h hl
  obtain ⟨⟨s1, s2, s3, s4⟩, hs⟩ := hs
  by_cases hnow : now = -1
  · subst hnow
    clear hcN hzN hcB
    rcases hs with ⟨rfl, rfl⟩ | ⟨q1, q2, _⟩
    · by_cases h20 : 20 ≤ z B
      all_goals (
        go_enter Try.func21, Try.ntmps21
        go_wp2_with fail
        refine (HB.out _ (H.out.below hh (by repeat (first | (with_reducible exact Below.refl _ _) | (with_reducible refine Bal ?_ _) | (with_reducible refine Below.drew ?_) | (with_reducible refine below_drewN ?_ _) | (with_reducible refine Bset ?_ ?_ _; focus (first | (with_reducible exact Nat.le_refl _) | (simp; done) | (simp; omega) | omega)) | (with_reducible refine Bt ?_ (by assumption)) | (with_reducible refine Bp (g := g) ?_ (by assumption) (by assumption))))) (by simp; omega)).mono ?_
        rintro e w1 ⟨rfl, hb1⟩
        obtain ⟨hc1, hf1⟩ := bcell hb1
        have hy1 := hb1.size
        try simp at hy1
        first | (have hz1 : w.heap.size < w1.heap.size := by (have := hb1.size; (try simp at this); omega)) | skip
        have ho1_0 : w.heap.size < w1.heap.size := by (have := hb1.size; (try simp at this); omega)
        have hg1_0 := fun o => hc1 (w.heap.size) o (by first | (simp; done) | (simp; omega) | omega)
        have hk1_0 := fun o => hf1 (w.heap.size) o (by first | (simp; done) | (simp; omega) | omega)
        try simp [go_sem] at hg1_0
        try simp [go_sem] at hk1_0
        have ho1_1 : w.heap.size + 1 < w1.heap.size := by (have := hb1.size; (try simp at this); omega)
        have hg1_1 := fun o => hc1 (w.heap.size + 1) o (by first | (simp; done) | (simp; omega) | omega)
        have hk1_1 := fun o => hf1 (w.heap.size + 1) o (by first | (simp; done) | (simp; omega) | omega)
        try simp [go_sem] at hg1_1
        try simp [go_sem] at hk1_1
        have hbw1 : b < w1.heap.size := by omega
        have hcB1 := (H.out.below hh (show Below w.heap.size w w1 by repeat (first | (with_reducible exact Below.refl _ _) | (with_reducible refine Bal ?_ _) | (with_reducible refine Below.drew ?_) | (with_reducible refine below_drewN ?_ _) | (with_reducible refine Bset ?_ ?_ _; focus (first | (with_reducible exact Nat.le_refl _) | (simp; done) | (simp; omega) | omega)) | (with_reducible refine Bt ?_ (by assumption)) | (with_reducible refine Bp (g := g) ?_ (by assumption) (by assumption))))).cell hbn
        try have hcN1 := (H.out.below hh (show Below w.heap.size w w1 by repeat (first | (with_reducible exact Below.refl _ _) | (with_reducible refine Bal ?_ _) | (with_reducible refine Below.drew ?_) | (with_reducible refine below_drewN ?_ _) | (with_reducible refine Bset ?_ ?_ _; focus (first | (with_reducible exact Nat.le_refl _) | (simp; done) | (simp; omega) | omega)) | (with_reducible refine Bt ?_ (by assumption)) | (with_reducible refine Bp (g := g) ?_ (by assumption) (by assumption))))).cell hN
        go_wp2_with fail
        refine bodyPost_retE rfl ?_
        apply Exists.intro
        refine ⟨?_, ?_⟩
        · simp only [results, Try.results21]
          go_simp
          first | done | rfl
        go_light
        refine ⟨ret_agg3 ?_ ?_ ?_, ?_⟩
        · simp [h20]
        · simp
        · simp
        repeat (first | (with_reducible exact Below.refl _ _) | (with_reducible refine Bal ?_ _) | (with_reducible refine Below.drew ?_) | (with_reducible refine below_drewN ?_ _) | (with_reducible refine Bset ?_ ?_ _; focus (first | (with_reducible exact Nat.le_refl _) | (simp; done) | (simp; omega) | omega)) | (with_reducible refine Bt ?_ (by assumption)) | (with_reducible refine Bp (g := g) ?_ (by assumption) (by assumption)))
        done)
    · exact absurd rfl q2
  · obtain ⟨N, rfl⟩ : ∃ N : Nat, now = N := ⟨now.toNat, by omega⟩
    have hcN' := hcN (by omega)
    have hzN' := hzN (by omega)
    rw [Int.toNat_natCast] at hcN' hzN'
    have hN : N < n := by omega
    have hw : (B : Int) = next → 1 ≤ wait ∧ wait ≤ 2 := fun e => by rcases hs with ⟨q, _⟩ | ⟨_, _, _, q1, q2⟩ <;> omega
    clear hs
    clear hcN'
    clear hcB
    rw [Int.toNat_natCast]
    clear hcN hzN
    by_cases e1 : B = N
    · clear hw
      subst e1
      go_enter Try.func21, Try.ntmps21
      go_wp2_with fail
      refine (HB.out _ (H.out.below hh (by repeat (first | (with_reducible exact Below.refl _ _) | (with_reducible refine Bal ?_ _) | (with_reducible refine Below.drew ?_) | (with_reducible refine below_drewN ?_ _) | (with_reducible refine Bset ?_ ?_ _; focus (first | (with_reducible exact Nat.le_refl _) | (simp; done) | (simp; omega) | omega)) | (with_reducible refine Bt ?_ (by assumption)) | (with_reducible refine Bp (g := g) ?_ (by assumption) (by assumption))))) (by simp; omega)).mono ?_
      rintro e w1 ⟨rfl, hb1⟩
      obtain ⟨hc1, hf1⟩ := bcell hb1
      have hy1 := hb1.size
      try simp at hy1
      first | (have hz1 : w.heap.size < w1.heap.size := by (have := hb1.size; (try simp at this); omega)) | skip
      have ho1_0 : w.heap.size < w1.heap.size := by (have := hb1.size; (try simp at this); omega)
      have hg1_0 := fun o => hc1 (w.heap.size) o (by first | (simp; done) | (simp; omega) | omega)
      have hk1_0 := fun o => hf1 (w.heap.size) o (by first | (simp; done) | (simp; omega) | omega)
      try simp [go_sem] at hg1_0
      try simp [go_sem] at hk1_0
      have ho1_1 : w.heap.size + 1 < w1.heap.size := by (have := hb1.size; (try simp at this); omega)
      have hg1_1 := fun o => hc1 (w.heap.size + 1) o (by first | (simp; done) | (simp; omega) | omega)
      have hk1_1 := fun o => hf1 (w.heap.size + 1) o (by first | (simp; done) | (simp; omega) | omega)
      try simp [go_sem] at hg1_1
      try simp [go_sem] at hk1_1
      have hbw1 : b < w1.heap.size := by omega
      have hcB1 := (H.out.below hh (show Below w.heap.size w w1 by repeat (first | (with_reducible exact Below.refl _ _) | (with_reducible refine Bal ?_ _) | (with_reducible refine Below.drew ?_) | (with_reducible refine below_drewN ?_ _) | (with_reducible refine Bset ?_ ?_ _; focus (first | (with_reducible exact Nat.le_refl _) | (simp; done) | (simp; omega) | omega)) | (with_reducible refine Bt ?_ (by assumption)) | (with_reducible refine Bp (g := g) ?_ (by assumption) (by assumption))))).cell hbn
      try have hcN1 := (H.out.below hh (show Below w.heap.size w w1 by repeat (first | (with_reducible exact Below.refl _ _) | (with_reducible refine Bal ?_ _) | (with_reducible refine Below.drew ?_) | (with_reducible refine below_drewN ?_ _) | (with_reducible refine Bset ?_ ?_ _; focus (first | (with_reducible exact Nat.le_refl _) | (simp; done) | (simp; omega) | omega)) | (with_reducible refine Bt ?_ (by assumption)) | (with_reducible refine Bp (g := g) ?_ (by assumption) (by assumption))))).cell hN
      go_wp2_with fail
      try have v1 : IntKind.i64.wrap (z B - z N) = z B - z N := IntWalk.i64_in _ ⟨by omega, by omega⟩
      try have v2 : IntKind.i64.wrap (z N + 10) = z N + 10 := IntWalk.i64_in _ ⟨by omega, by omega⟩
      refine wp_region_mixB (by kernel_rfl) (by kernel_rfl) ?_
      repeat (first
        | (refine mix_skip rfl ?_; have e0 : True := trivial; clear e0; refine mix_putK ?_; intro K hK; go_simp; refine hK _ ?_; clear hK K)
        | (refine mix_readE rfl rfl rfl ?_; apply Exists.intro; refine ⟨fun w' hb' => ?_, ?_⟩; (focus (obtain ⟨hc', hf'⟩ := Old.cells hb'; clear hb'; go_simp; try exact rfl)); have e0 : True := trivial; clear e0; refine mix_putK ?_; intro K hK; go_simp; refine hK _ ?_; clear hK K)
        | (refine mix_pureE rfl rfl ?_; apply Exists.intro; refine ⟨fun w' => ?_, ?_⟩; (focus (go_simp; try exact rfl)); have e0 : True := trivial; clear e0; refine mix_putK ?_; intro K hK; go_simp; refine hK _ ?_; clear hK K)
        | (refine mix_eff rfl rfl ?_; go_wp2_with (fail); refine then_mix rfl ?_ ?_; (first | (intro h; have h2 : false = true := h; cases h2) | (intro _; assumption) | (intro _; refine Old.mk ?_; repeat (first | (with_reducible exact Below.refl _ _) | (with_reducible refine Bal ?_ _) | (with_reducible refine Below.drew ?_) | (with_reducible refine below_drewN ?_ _) | (with_reducible refine Bset ?_ ?_ _; focus (first | (with_reducible exact Nat.le_refl _) | (simp; done) | (simp; omega) | omega)) | (with_reducible refine Bt ?_ (by assumption)) | (with_reducible refine Bp (g := g) ?_ (by assumption) (by assumption)))))))
      refine mix_nil ?_
      try clear v1 v2
      go_wp2_with fail
      refine bodyPost_retE rfl ?_
      apply Exists.intro
      refine ⟨?_, ?_⟩
      · simp only [results, Try.results21]
        go_simp
        first | done | rfl
      go_light
      refine ⟨ret_agg3 ?_ ?_ ?_, ?_⟩
      · simp [hnow]
      · simp [hnow]
      · simp [hnow]
      repeat (first | (with_reducible exact Below.refl _ _) | (with_reducible refine Bal ?_ _) | (with_reducible refine Below.drew ?_) | (with_reducible refine below_drewN ?_ _) | (with_reducible refine Bset ?_ ?_ _; focus (first | (with_reducible exact Nat.le_refl _) | (simp; done) | (simp; omega) | omega)) | (with_reducible refine Bt ?_ (by assumption)) | (with_reducible refine Bp (g := g) ?_ (by assumption) (by assumption)))
    · have e1' : ((B : Int) == (N : Int)) = false := by simp; omega
      by_cases e2 : z B < z N + 10
      · clear hw
        have e2' : decide (z B - z N < 10) = true := by simp; omega
        have e2'' : decide (z B < z N + 10) = true := by simp; omega
        go_enter Try.func21, Try.ntmps21
        go_wp2_with fail
        refine (HB.out _ (H.out.below hh (by repeat (first | (with_reducible exact Below.refl _ _) | (with_reducible refine Bal ?_ _) | (with_reducible refine Below.drew ?_) | (with_reducible refine below_drewN ?_ _) | (with_reducible refine Bset ?_ ?_ _; focus (first | (with_reducible exact Nat.le_refl _) | (simp; done) | (simp; omega) | omega)) | (with_reducible refine Bt ?_ (by assumption)) | (with_reducible refine Bp (g := g) ?_ (by assumption) (by assumption))))) (by simp; omega)).mono ?_
        rintro e w1 ⟨rfl, hb1⟩
        obtain ⟨hc1, hf1⟩ := bcell hb1
        have hy1 := hb1.size
        try simp at hy1
        first | (have hz1 : w.heap.size < w1.heap.size := by (have := hb1.size; (try simp at this); omega)) | skip
        have ho1_0 : w.heap.size < w1.heap.size := by (have := hb1.size; (try simp at this); omega)
        have hg1_0 := fun o => hc1 (w.heap.size) o (by first | (simp; done) | (simp; omega) | omega)
        have hk1_0 := fun o => hf1 (w.heap.size) o (by first | (simp; done) | (simp; omega) | omega)
        try simp [go_sem] at hg1_0
        try simp [go_sem] at hk1_0
        have ho1_1 : w.heap.size + 1 < w1.heap.size := by (have := hb1.size; (try simp at this); omega)
        have hg1_1 := fun o => hc1 (w.heap.size + 1) o (by first | (simp; done) | (simp; omega) | omega)
        have hk1_1 := fun o => hf1 (w.heap.size + 1) o (by first | (simp; done) | (simp; omega) | omega)
        try simp [go_sem] at hg1_1
        try simp [go_sem] at hk1_1
        have hbw1 : b < w1.heap.size := by omega
        have hcB1 := (H.out.below hh (show Below w.heap.size w w1 by repeat (first | (with_reducible exact Below.refl _ _) | (with_reducible refine Bal ?_ _) | (with_reducible refine Below.drew ?_) | (with_reducible refine below_drewN ?_ _) | (with_reducible refine Bset ?_ ?_ _; focus (first | (with_reducible exact Nat.le_refl _) | (simp; done) | (simp; omega) | omega)) | (with_reducible refine Bt ?_ (by assumption)) | (with_reducible refine Bp (g := g) ?_ (by assumption) (by assumption))))).cell hbn
        try have hcN1 := (H.out.below hh (show Below w.heap.size w w1 by repeat (first | (with_reducible exact Below.refl _ _) | (with_reducible refine Bal ?_ _) | (with_reducible refine Below.drew ?_) | (with_reducible refine below_drewN ?_ _) | (with_reducible refine Bset ?_ ?_ _; focus (first | (with_reducible exact Nat.le_refl _) | (simp; done) | (simp; omega) | omega)) | (with_reducible refine Bt ?_ (by assumption)) | (with_reducible refine Bp (g := g) ?_ (by assumption) (by assumption))))).cell hN
        go_wp2_with fail
        try have v1 : IntKind.i64.wrap (z B - z N) = z B - z N := IntWalk.i64_in _ ⟨by omega, by omega⟩
        try have v2 : IntKind.i64.wrap (z N + 10) = z N + 10 := IntWalk.i64_in _ ⟨by omega, by omega⟩
        refine wp_region_mixB (by kernel_rfl) (by kernel_rfl) ?_
        repeat (first
          | (refine mix_skip rfl ?_; have e0 : True := trivial; clear e0; refine mix_putK ?_; intro K hK; go_simp; refine hK _ ?_; clear hK K)
          | (refine mix_readE rfl rfl rfl ?_; apply Exists.intro; refine ⟨fun w' hb' => ?_, ?_⟩; (focus (obtain ⟨hc', hf'⟩ := Old.cells hb'; clear hb'; go_simp; try exact rfl)); have e0 : True := trivial; clear e0; refine mix_putK ?_; intro K hK; go_simp; refine hK _ ?_; clear hK K)
          | (refine mix_pureE rfl rfl ?_; apply Exists.intro; refine ⟨fun w' => ?_, ?_⟩; (focus (go_simp; try exact rfl)); have e0 : True := trivial; clear e0; refine mix_putK ?_; intro K hK; go_simp; refine hK _ ?_; clear hK K)
          | (refine mix_eff rfl rfl ?_; go_wp2_with (fail); refine then_mix rfl ?_ ?_; (first | (intro h; have h2 : false = true := h; cases h2) | (intro _; assumption) | (intro _; refine Old.mk ?_; repeat (first | (with_reducible exact Below.refl _ _) | (with_reducible refine Bal ?_ _) | (with_reducible refine Below.drew ?_) | (with_reducible refine below_drewN ?_ _) | (with_reducible refine Bset ?_ ?_ _; focus (first | (with_reducible exact Nat.le_refl _) | (simp; done) | (simp; omega) | omega)) | (with_reducible refine Bt ?_ (by assumption)) | (with_reducible refine Bp (g := g) ?_ (by assumption) (by assumption)))))))
        refine mix_nil ?_
        try clear v1 v2
        go_wp2_with fail
        refine bodyPost_retE rfl ?_
        apply Exists.intro
        refine ⟨?_, ?_⟩
        · simp only [results, Try.results21]
          go_simp
          first | done | rfl
        go_light
        refine ⟨ret_agg3 ?_ ?_ ?_, ?_⟩
        · simp [hnow, e2]
        · simp [hnow, e2]
        · simp [hnow, e2]
        repeat (first | (with_reducible exact Below.refl _ _) | (with_reducible refine Bal ?_ _) | (with_reducible refine Below.drew ?_) | (with_reducible refine below_drewN ?_ _) | (with_reducible refine Bset ?_ ?_ _; focus (first | (with_reducible exact Nat.le_refl _) | (simp; done) | (simp; omega) | omega)) | (with_reducible refine Bt ?_ (by assumption)) | (with_reducible refine Bp (g := g) ?_ (by assumption) (by assumption)))
      · have e2' : decide (z B - z N < 10) = false := by simp; omega
        have e2'' : decide (z B < z N + 10) = false := by simp; omega
        by_cases e3 : (B : Int) = next
        · obtain ⟨wt1, wt2⟩ := hw e3
          clear hw
          subst e3
          by_cases e4 : wait = 2
          all_goals (
            go_enter Try.func21, Try.ntmps21
            go_wp2_with fail
            refine (HB.out _ (H.out.below hh (by repeat (first | (with_reducible exact Below.refl _ _) | (with_reducible refine Bal ?_ _) | (with_reducible refine Below.drew ?_) | (with_reducible refine below_drewN ?_ _) | (with_reducible refine Bset ?_ ?_ _; focus (first | (with_reducible exact Nat.le_refl _) | (simp; done) | (simp; omega) | omega)) | (with_reducible refine Bt ?_ (by assumption)) | (with_reducible refine Bp (g := g) ?_ (by assumption) (by assumption))))) (by simp; omega)).mono ?_
            rintro e w1 ⟨rfl, hb1⟩
            obtain ⟨hc1, hf1⟩ := bcell hb1
            have hy1 := hb1.size
            try simp at hy1
            first | (have hz1 : w.heap.size < w1.heap.size := by (have := hb1.size; (try simp at this); omega)) | skip
            have ho1_0 : w.heap.size < w1.heap.size := by (have := hb1.size; (try simp at this); omega)
            have hg1_0 := fun o => hc1 (w.heap.size) o (by first | (simp; done) | (simp; omega) | omega)
            have hk1_0 := fun o => hf1 (w.heap.size) o (by first | (simp; done) | (simp; omega) | omega)
            try simp [go_sem] at hg1_0
            try simp [go_sem] at hk1_0
            have ho1_1 : w.heap.size + 1 < w1.heap.size := by (have := hb1.size; (try simp at this); omega)
            have hg1_1 := fun o => hc1 (w.heap.size + 1) o (by first | (simp; done) | (simp; omega) | omega)
            have hk1_1 := fun o => hf1 (w.heap.size + 1) o (by first | (simp; done) | (simp; omega) | omega)
            try simp [go_sem] at hg1_1
            try simp [go_sem] at hk1_1
            have hbw1 : b < w1.heap.size := by omega
            have hcB1 := (H.out.below hh (show Below w.heap.size w w1 by repeat (first | (with_reducible exact Below.refl _ _) | (with_reducible refine Bal ?_ _) | (with_reducible refine Below.drew ?_) | (with_reducible refine below_drewN ?_ _) | (with_reducible refine Bset ?_ ?_ _; focus (first | (with_reducible exact Nat.le_refl _) | (simp; done) | (simp; omega) | omega)) | (with_reducible refine Bt ?_ (by assumption)) | (with_reducible refine Bp (g := g) ?_ (by assumption) (by assumption))))).cell hbn
            try have hcN1 := (H.out.below hh (show Below w.heap.size w w1 by repeat (first | (with_reducible exact Below.refl _ _) | (with_reducible refine Bal ?_ _) | (with_reducible refine Below.drew ?_) | (with_reducible refine below_drewN ?_ _) | (with_reducible refine Bset ?_ ?_ _; focus (first | (with_reducible exact Nat.le_refl _) | (simp; done) | (simp; omega) | omega)) | (with_reducible refine Bt ?_ (by assumption)) | (with_reducible refine Bp (g := g) ?_ (by assumption) (by assumption))))).cell hN
            go_wp2_with fail
            try have v1 : IntKind.i64.wrap (z B - z N) = z B - z N := IntWalk.i64_in _ ⟨by omega, by omega⟩
            try have v2 : IntKind.i64.wrap (z N + 10) = z N + 10 := IntWalk.i64_in _ ⟨by omega, by omega⟩
            refine wp_region_mixB (by kernel_rfl) (by kernel_rfl) ?_
            repeat (first
              | (refine mix_skip rfl ?_; have e0 : True := trivial; clear e0; refine mix_putK ?_; intro K hK; go_simp; refine hK _ ?_; clear hK K)
              | (refine mix_readE rfl rfl rfl ?_; apply Exists.intro; refine ⟨fun w' hb' => ?_, ?_⟩; (focus (obtain ⟨hc', hf'⟩ := Old.cells hb'; clear hb'; go_simp; try exact rfl)); have e0 : True := trivial; clear e0; refine mix_putK ?_; intro K hK; go_simp; refine hK _ ?_; clear hK K)
              | (refine mix_pureE rfl rfl ?_; apply Exists.intro; refine ⟨fun w' => ?_, ?_⟩; (focus (go_simp; try exact rfl)); have e0 : True := trivial; clear e0; refine mix_putK ?_; intro K hK; go_simp; refine hK _ ?_; clear hK K)
              | (refine mix_eff rfl rfl ?_; go_wp2_with (fail); refine then_mix rfl ?_ ?_; (first | (intro h; have h2 : false = true := h; cases h2) | (intro _; assumption) | (intro _; refine Old.mk ?_; repeat (first | (with_reducible exact Below.refl _ _) | (with_reducible refine Bal ?_ _) | (with_reducible refine Below.drew ?_) | (with_reducible refine below_drewN ?_ _) | (with_reducible refine Bset ?_ ?_ _; focus (first | (with_reducible exact Nat.le_refl _) | (simp; done) | (simp; omega) | omega)) | (with_reducible refine Bt ?_ (by assumption)) | (with_reducible refine Bp (g := g) ?_ (by assumption) (by assumption)))))))
            refine mix_nil ?_
            try clear v1 v2
            go_wp2_with fail
            refine bodyPost_retE rfl ?_
            apply Exists.intro
            refine ⟨?_, ?_⟩
            · simp only [results, Try.results21]
              go_simp
              first | done | rfl
            go_light
            refine ⟨ret_agg3 ?_ ?_ ?_, ?_⟩
            · simp [hnow, e1, e2, e4]
            · simp [hnow, e1, e2, e4]
            · simp [hnow, e1, e2, e4]
            repeat (first | (with_reducible exact Below.refl _ _) | (with_reducible refine Bal ?_ _) | (with_reducible refine Below.drew ?_) | (with_reducible refine below_drewN ?_ _) | (with_reducible refine Bset ?_ ?_ _; focus (first | (with_reducible exact Nat.le_refl _) | (simp; done) | (simp; omega) | omega)) | (with_reducible refine Bt ?_ (by assumption)) | (with_reducible refine Bp (g := g) ?_ (by assumption) (by assumption)))
            done)
        · clear hw
          have e3' : ((B : Int) == next) = false := by simp; omega
          go_enter Try.func21, Try.ntmps21
          go_wp2_with fail
          refine (HB.out _ (H.out.below hh (by repeat (first | (with_reducible exact Below.refl _ _) | (with_reducible refine Bal ?_ _) | (with_reducible refine Below.drew ?_) | (with_reducible refine below_drewN ?_ _) | (with_reducible refine Bset ?_ ?_ _; focus (first | (with_reducible exact Nat.le_refl _) | (simp; done) | (simp; omega) | omega)) | (with_reducible refine Bt ?_ (by assumption)) | (with_reducible refine Bp (g := g) ?_ (by assumption) (by assumption))))) (by simp; omega)).mono ?_
          rintro e w1 ⟨rfl, hb1⟩
          obtain ⟨hc1, hf1⟩ := bcell hb1
          have hy1 := hb1.size
          try simp at hy1
          first | (have hz1 : w.heap.size < w1.heap.size := by (have := hb1.size; (try simp at this); omega)) | skip
          have ho1_0 : w.heap.size < w1.heap.size := by (have := hb1.size; (try simp at this); omega)
          have hg1_0 := fun o => hc1 (w.heap.size) o (by first | (simp; done) | (simp; omega) | omega)
          have hk1_0 := fun o => hf1 (w.heap.size) o (by first | (simp; done) | (simp; omega) | omega)
          try simp [go_sem] at hg1_0
          try simp [go_sem] at hk1_0
          have ho1_1 : w.heap.size + 1 < w1.heap.size := by (have := hb1.size; (try simp at this); omega)
          have hg1_1 := fun o => hc1 (w.heap.size + 1) o (by first | (simp; done) | (simp; omega) | omega)
          have hk1_1 := fun o => hf1 (w.heap.size + 1) o (by first | (simp; done) | (simp; omega) | omega)
          try simp [go_sem] at hg1_1
          try simp [go_sem] at hk1_1
          have hbw1 : b < w1.heap.size := by omega
          have hcB1 := (H.out.below hh (show Below w.heap.size w w1 by repeat (first | (with_reducible exact Below.refl _ _) | (with_reducible refine Bal ?_ _) | (with_reducible refine Below.drew ?_) | (with_reducible refine below_drewN ?_ _) | (with_reducible refine Bset ?_ ?_ _; focus (first | (with_reducible exact Nat.le_refl _) | (simp; done) | (simp; omega) | omega)) | (with_reducible refine Bt ?_ (by assumption)) | (with_reducible refine Bp (g := g) ?_ (by assumption) (by assumption))))).cell hbn
          try have hcN1 := (H.out.below hh (show Below w.heap.size w w1 by repeat (first | (with_reducible exact Below.refl _ _) | (with_reducible refine Bal ?_ _) | (with_reducible refine Below.drew ?_) | (with_reducible refine below_drewN ?_ _) | (with_reducible refine Bset ?_ ?_ _; focus (first | (with_reducible exact Nat.le_refl _) | (simp; done) | (simp; omega) | omega)) | (with_reducible refine Bt ?_ (by assumption)) | (with_reducible refine Bp (g := g) ?_ (by assumption) (by assumption))))).cell hN
          go_wp2_with fail
          try have v1 : IntKind.i64.wrap (z B - z N) = z B - z N := IntWalk.i64_in _ ⟨by omega, by omega⟩
          try have v2 : IntKind.i64.wrap (z N + 10) = z N + 10 := IntWalk.i64_in _ ⟨by omega, by omega⟩
          refine wp_region_mixB (by kernel_rfl) (by kernel_rfl) ?_
          repeat (first
            | (refine mix_skip rfl ?_; have e0 : True := trivial; clear e0; refine mix_putK ?_; intro K hK; go_simp; refine hK _ ?_; clear hK K)
            | (refine mix_readE rfl rfl rfl ?_; apply Exists.intro; refine ⟨fun w' hb' => ?_, ?_⟩; (focus (obtain ⟨hc', hf'⟩ := Old.cells hb'; clear hb'; go_simp; try exact rfl)); have e0 : True := trivial; clear e0; refine mix_putK ?_; intro K hK; go_simp; refine hK _ ?_; clear hK K)
            | (refine mix_pureE rfl rfl ?_; apply Exists.intro; refine ⟨fun w' => ?_, ?_⟩; (focus (go_simp; try exact rfl)); have e0 : True := trivial; clear e0; refine mix_putK ?_; intro K hK; go_simp; refine hK _ ?_; clear hK K)
            | (refine mix_eff rfl rfl ?_; go_wp2_with (fail); refine then_mix rfl ?_ ?_; (first | (intro h; have h2 : false = true := h; cases h2) | (intro _; assumption) | (intro _; refine Old.mk ?_; repeat (first | (with_reducible exact Below.refl _ _) | (with_reducible refine Bal ?_ _) | (with_reducible refine Below.drew ?_) | (with_reducible refine below_drewN ?_ _) | (with_reducible refine Bset ?_ ?_ _; focus (first | (with_reducible exact Nat.le_refl _) | (simp; done) | (simp; omega) | omega)) | (with_reducible refine Bt ?_ (by assumption)) | (with_reducible refine Bp (g := g) ?_ (by assumption) (by assumption)))))))
          refine mix_nil ?_
          try clear v1 v2
          go_wp2_with fail
          refine bodyPost_retE rfl ?_
          apply Exists.intro
          refine ⟨?_, ?_⟩
          · simp only [results, Try.results21]
            go_simp
            first | done | rfl
          go_light
          refine ⟨ret_agg3 ?_ ?_ ?_, ?_⟩
          · simp [hnow, e1, e2, e3]
          · simp [hnow, e1, e2, e3]
          · simp [hnow, e1, e2, e3]
          repeat (first | (with_reducible exact Below.refl _ _) | (with_reducible refine Bal ?_ _) | (with_reducible refine Below.drew ?_) | (with_reducible refine below_drewN ?_ _) | (with_reducible refine Bset ?_ ?_ _; focus (first | (with_reducible exact Nat.le_refl _) | (simp; done) | (simp; omega) | omega)) | (with_reducible refine Bt ?_ (by assumption)) | (with_reducible refine Bp (g := g) ?_ (by assumption) (by assumption)))

set_option maxHeartbeats 4000000 in
theorem sstep_any (now next wait : Int) (w : World) {lo hi : Nat} {A : Option Addr} {n c : Nat} {z : Nat → Int} (h : Ints w lo hi A n z) (hh : hi ≤ w.heap.size) (hs : SpkOk now next wait) (hl : LoudOk n z) (h1 : now < n) (h2 : next < n) :
    Calls Try.prog 23 #[.agg #[.int .i64 now, .int .i64 next, .int .i64 wait], .slice A n c] w fun e w' => e = .returned (.agg #[.int .i64 (stN now next wait n z), .int .i64 (stX now next wait n z), .int .i64 (stW now next wait n z)]) ∧ Below w.heap.size w w' := by
  have hn1 := hl.1.1
  have hn6 := hl.1.2
  have hbn := bestF_lt z hn1 n (Nat.le_refl _)
  have hzb := hl.2 _ hbn
  have hb := fun W : World => fun hW : Ints W lo hi A n z => fun hwh : hi ≤ W.heap.size => sbest_any W (c := c) hW hwh hn1 (by omega)
  unfold stN stX stW
  obtain ⟨B, hB⟩ : ∃ B, B = bestF z n := ⟨_, rfl⟩
  rw [← hB] at hb hbn hzb ⊢
  clear hB
  have HB := Lib.hid hb
  clear hb
  have H := Lib.hid h
  obtain ⟨b, off, rfl, _, hbh, hcB⟩ := h.at_ hbn
  have hb1' : b < w.heap.size := by omega
  have hcN : 0 ≤ now → w.cell? ⟨b, off + now.toNat, none⟩ = some (.int .i64 (z now.toNat)) := fun h0 => h.cell (by omega)
  have hzN : 0 ≤ now → 0 ≤ z now.toNat ∧ z now.toNat ≤ 127 := fun h0 => hl.2 _ (by omega)
  have HL := Lib.hid hl
  clear h hl
  obtain ⟨⟨s1, s2, s3, s4⟩, hs⟩ := hs
  by_cases hnow : now = -1
  · subst hnow
    clear hcN hzN hcB
    rcases hs with ⟨rfl, rfl⟩ | ⟨q1, q2, _⟩
    · by_cases h20 : 20 ≤ z B
      all_goals (
        go_enter Try.func23, Try.ntmps23
        go_wp2_with fail
        refine (HB.out _ (H.out.below hh (by repeat (first | (with_reducible exact Below.refl _ _) | (with_reducible refine Bal ?_ _) | (with_reducible refine Below.drew ?_) | (with_reducible refine below_drewN ?_ _) | (with_reducible refine Bset ?_ ?_ _; focus (first | (with_reducible exact Nat.le_refl _) | (simp; done) | (simp; omega) | omega)) | (with_reducible refine Bt ?_ (by assumption)) | (with_reducible refine Bp (g := g) ?_ (by assumption) (by assumption))))) (by simp; omega)).mono ?_
        rintro e w1 ⟨rfl, hb1⟩
        obtain ⟨hc1, hf1⟩ := bcell hb1
        have hy1 := hb1.size
        try simp at hy1
        first | (have hz1 : w.heap.size < w1.heap.size := by (have := hb1.size; (try simp at this); omega)) | skip
        have ho1_0 : w.heap.size < w1.heap.size := by (have := hb1.size; (try simp at this); omega)
        have hg1_0 := fun o => hc1 (w.heap.size) o (by first | (simp; done) | (simp; omega) | omega)
        have hk1_0 := fun o => hf1 (w.heap.size) o (by first | (simp; done) | (simp; omega) | omega)
        try simp [go_sem] at hg1_0
        try simp [go_sem] at hk1_0
        have ho1_1 : w.heap.size + 1 < w1.heap.size := by (have := hb1.size; (try simp at this); omega)
        have hg1_1 := fun o => hc1 (w.heap.size + 1) o (by first | (simp; done) | (simp; omega) | omega)
        have hk1_1 := fun o => hf1 (w.heap.size + 1) o (by first | (simp; done) | (simp; omega) | omega)
        try simp [go_sem] at hg1_1
        try simp [go_sem] at hk1_1
        have hbw1 : b < w1.heap.size := by omega
        have hcB1 := (H.out.below hh (show Below w.heap.size w w1 by repeat (first | (with_reducible exact Below.refl _ _) | (with_reducible refine Bal ?_ _) | (with_reducible refine Below.drew ?_) | (with_reducible refine below_drewN ?_ _) | (with_reducible refine Bset ?_ ?_ _; focus (first | (with_reducible exact Nat.le_refl _) | (simp; done) | (simp; omega) | omega)) | (with_reducible refine Bt ?_ (by assumption)) | (with_reducible refine Bp (g := g) ?_ (by assumption) (by assumption))))).cell hbn
        try have hcN1 := (H.out.below hh (show Below w.heap.size w w1 by repeat (first | (with_reducible exact Below.refl _ _) | (with_reducible refine Bal ?_ _) | (with_reducible refine Below.drew ?_) | (with_reducible refine below_drewN ?_ _) | (with_reducible refine Bset ?_ ?_ _; focus (first | (with_reducible exact Nat.le_refl _) | (simp; done) | (simp; omega) | omega)) | (with_reducible refine Bt ?_ (by assumption)) | (with_reducible refine Bp (g := g) ?_ (by assumption) (by assumption))))).cell hN
        go_wp2_with fail
        refine bodyPost_retE rfl ?_
        apply Exists.intro
        refine ⟨?_, ?_⟩
        · simp only [results, Try.results23]
          go_simp
          first | done | rfl
        go_light
        refine ⟨ret_agg3 ?_ ?_ ?_, ?_⟩
        · simp [h20]
        · simp
        · simp
        repeat (first | (with_reducible exact Below.refl _ _) | (with_reducible refine Bal ?_ _) | (with_reducible refine Below.drew ?_) | (with_reducible refine below_drewN ?_ _) | (with_reducible refine Bset ?_ ?_ _; focus (first | (with_reducible exact Nat.le_refl _) | (simp; done) | (simp; omega) | omega)) | (with_reducible refine Bt ?_ (by assumption)) | (with_reducible refine Bp (g := g) ?_ (by assumption) (by assumption)))
        done)
    · exact absurd rfl q2
  · obtain ⟨N, rfl⟩ : ∃ N : Nat, now = N := ⟨now.toNat, by omega⟩
    have hcN' := hcN (by omega)
    have hzN' := hzN (by omega)
    rw [Int.toNat_natCast] at hcN' hzN'
    have hN : N < n := by omega
    have hw : (B : Int) = next → 1 ≤ wait ∧ wait ≤ 2 := fun e => by rcases hs with ⟨q, _⟩ | ⟨_, _, _, q1, q2⟩ <;> omega
    clear hs
    clear hcN'
    clear hcB
    rw [Int.toNat_natCast]
    clear hcN hzN
    by_cases e1 : B = N
    · clear hw
      subst e1
      go_enter Try.func23, Try.ntmps23
      go_wp2_with fail
      refine (HB.out _ (H.out.below hh (by repeat (first | (with_reducible exact Below.refl _ _) | (with_reducible refine Bal ?_ _) | (with_reducible refine Below.drew ?_) | (with_reducible refine below_drewN ?_ _) | (with_reducible refine Bset ?_ ?_ _; focus (first | (with_reducible exact Nat.le_refl _) | (simp; done) | (simp; omega) | omega)) | (with_reducible refine Bt ?_ (by assumption)) | (with_reducible refine Bp (g := g) ?_ (by assumption) (by assumption))))) (by simp; omega)).mono ?_
      rintro e w1 ⟨rfl, hb1⟩
      obtain ⟨hc1, hf1⟩ := bcell hb1
      have hy1 := hb1.size
      try simp at hy1
      first | (have hz1 : w.heap.size < w1.heap.size := by (have := hb1.size; (try simp at this); omega)) | skip
      have ho1_0 : w.heap.size < w1.heap.size := by (have := hb1.size; (try simp at this); omega)
      have hg1_0 := fun o => hc1 (w.heap.size) o (by first | (simp; done) | (simp; omega) | omega)
      have hk1_0 := fun o => hf1 (w.heap.size) o (by first | (simp; done) | (simp; omega) | omega)
      try simp [go_sem] at hg1_0
      try simp [go_sem] at hk1_0
      have ho1_1 : w.heap.size + 1 < w1.heap.size := by (have := hb1.size; (try simp at this); omega)
      have hg1_1 := fun o => hc1 (w.heap.size + 1) o (by first | (simp; done) | (simp; omega) | omega)
      have hk1_1 := fun o => hf1 (w.heap.size + 1) o (by first | (simp; done) | (simp; omega) | omega)
      try simp [go_sem] at hg1_1
      try simp [go_sem] at hk1_1
      have hbw1 : b < w1.heap.size := by omega
      have hcB1 := (H.out.below hh (show Below w.heap.size w w1 by repeat (first | (with_reducible exact Below.refl _ _) | (with_reducible refine Bal ?_ _) | (with_reducible refine Below.drew ?_) | (with_reducible refine below_drewN ?_ _) | (with_reducible refine Bset ?_ ?_ _; focus (first | (with_reducible exact Nat.le_refl _) | (simp; done) | (simp; omega) | omega)) | (with_reducible refine Bt ?_ (by assumption)) | (with_reducible refine Bp (g := g) ?_ (by assumption) (by assumption))))).cell hbn
      try have hcN1 := (H.out.below hh (show Below w.heap.size w w1 by repeat (first | (with_reducible exact Below.refl _ _) | (with_reducible refine Bal ?_ _) | (with_reducible refine Below.drew ?_) | (with_reducible refine below_drewN ?_ _) | (with_reducible refine Bset ?_ ?_ _; focus (first | (with_reducible exact Nat.le_refl _) | (simp; done) | (simp; omega) | omega)) | (with_reducible refine Bt ?_ (by assumption)) | (with_reducible refine Bp (g := g) ?_ (by assumption) (by assumption))))).cell hN
      go_wp2_with fail
      try have v1 : IntKind.i64.wrap (z B - z N) = z B - z N := IntWalk.i64_in _ ⟨by omega, by omega⟩
      try have v2 : IntKind.i64.wrap (z N + 10) = z N + 10 := IntWalk.i64_in _ ⟨by omega, by omega⟩
      refine wp_region_mixB (by kernel_rfl) (by kernel_rfl) ?_
      repeat (first
        | (refine mix_skip rfl ?_; have e0 : True := trivial; clear e0; refine mix_putK ?_; intro K hK; go_simp; refine hK _ ?_; clear hK K)
        | (refine mix_readE rfl rfl rfl ?_; apply Exists.intro; refine ⟨fun w' hb' => ?_, ?_⟩; (focus (obtain ⟨hc', hf'⟩ := Old.cells hb'; clear hb'; go_simp; try exact rfl)); have e0 : True := trivial; clear e0; refine mix_putK ?_; intro K hK; go_simp; refine hK _ ?_; clear hK K)
        | (refine mix_pureE rfl rfl ?_; apply Exists.intro; refine ⟨fun w' => ?_, ?_⟩; (focus (go_simp; try exact rfl)); have e0 : True := trivial; clear e0; refine mix_putK ?_; intro K hK; go_simp; refine hK _ ?_; clear hK K)
        | (refine mix_eff rfl rfl ?_; go_wp2_with (fail); refine then_mix rfl ?_ ?_; (first | (intro h; have h2 : false = true := h; cases h2) | (intro _; assumption) | (intro _; refine Old.mk ?_; repeat (first | (with_reducible exact Below.refl _ _) | (with_reducible refine Bal ?_ _) | (with_reducible refine Below.drew ?_) | (with_reducible refine below_drewN ?_ _) | (with_reducible refine Bset ?_ ?_ _; focus (first | (with_reducible exact Nat.le_refl _) | (simp; done) | (simp; omega) | omega)) | (with_reducible refine Bt ?_ (by assumption)) | (with_reducible refine Bp (g := g) ?_ (by assumption) (by assumption)))))))
      refine mix_nil ?_
      try clear v1 v2
      go_wp2_with fail
      refine bodyPost_retE rfl ?_
      apply Exists.intro
      refine ⟨?_, ?_⟩
      · simp only [results, Try.results23]
        go_simp
        first | done | rfl
      go_light
      refine ⟨ret_agg3 ?_ ?_ ?_, ?_⟩
      · simp [hnow]
      · simp [hnow]
      · simp [hnow]
      repeat (first | (with_reducible exact Below.refl _ _) | (with_reducible refine Bal ?_ _) | (with_reducible refine Below.drew ?_) | (with_reducible refine below_drewN ?_ _) | (with_reducible refine Bset ?_ ?_ _; focus (first | (with_reducible exact Nat.le_refl _) | (simp; done) | (simp; omega) | omega)) | (with_reducible refine Bt ?_ (by assumption)) | (with_reducible refine Bp (g := g) ?_ (by assumption) (by assumption)))
    · have e1' : ((B : Int) == (N : Int)) = false := by simp; omega
      by_cases e2 : z B < z N + 10
      · clear hw
        have e2' : decide (z B - z N < 10) = true := by simp; omega
        have e2'' : decide (z B < z N + 10) = true := by simp; omega
        go_enter Try.func23, Try.ntmps23
        go_wp2_with fail
        refine (HB.out _ (H.out.below hh (by repeat (first | (with_reducible exact Below.refl _ _) | (with_reducible refine Bal ?_ _) | (with_reducible refine Below.drew ?_) | (with_reducible refine below_drewN ?_ _) | (with_reducible refine Bset ?_ ?_ _; focus (first | (with_reducible exact Nat.le_refl _) | (simp; done) | (simp; omega) | omega)) | (with_reducible refine Bt ?_ (by assumption)) | (with_reducible refine Bp (g := g) ?_ (by assumption) (by assumption))))) (by simp; omega)).mono ?_
        rintro e w1 ⟨rfl, hb1⟩
        obtain ⟨hc1, hf1⟩ := bcell hb1
        have hy1 := hb1.size
        try simp at hy1
        first | (have hz1 : w.heap.size < w1.heap.size := by (have := hb1.size; (try simp at this); omega)) | skip
        have ho1_0 : w.heap.size < w1.heap.size := by (have := hb1.size; (try simp at this); omega)
        have hg1_0 := fun o => hc1 (w.heap.size) o (by first | (simp; done) | (simp; omega) | omega)
        have hk1_0 := fun o => hf1 (w.heap.size) o (by first | (simp; done) | (simp; omega) | omega)
        try simp [go_sem] at hg1_0
        try simp [go_sem] at hk1_0
        have ho1_1 : w.heap.size + 1 < w1.heap.size := by (have := hb1.size; (try simp at this); omega)
        have hg1_1 := fun o => hc1 (w.heap.size + 1) o (by first | (simp; done) | (simp; omega) | omega)
        have hk1_1 := fun o => hf1 (w.heap.size + 1) o (by first | (simp; done) | (simp; omega) | omega)
        try simp [go_sem] at hg1_1
        try simp [go_sem] at hk1_1
        have hbw1 : b < w1.heap.size := by omega
        have hcB1 := (H.out.below hh (show Below w.heap.size w w1 by repeat (first | (with_reducible exact Below.refl _ _) | (with_reducible refine Bal ?_ _) | (with_reducible refine Below.drew ?_) | (with_reducible refine below_drewN ?_ _) | (with_reducible refine Bset ?_ ?_ _; focus (first | (with_reducible exact Nat.le_refl _) | (simp; done) | (simp; omega) | omega)) | (with_reducible refine Bt ?_ (by assumption)) | (with_reducible refine Bp (g := g) ?_ (by assumption) (by assumption))))).cell hbn
        try have hcN1 := (H.out.below hh (show Below w.heap.size w w1 by repeat (first | (with_reducible exact Below.refl _ _) | (with_reducible refine Bal ?_ _) | (with_reducible refine Below.drew ?_) | (with_reducible refine below_drewN ?_ _) | (with_reducible refine Bset ?_ ?_ _; focus (first | (with_reducible exact Nat.le_refl _) | (simp; done) | (simp; omega) | omega)) | (with_reducible refine Bt ?_ (by assumption)) | (with_reducible refine Bp (g := g) ?_ (by assumption) (by assumption))))).cell hN
        go_wp2_with fail
        try have v1 : IntKind.i64.wrap (z B - z N) = z B - z N := IntWalk.i64_in _ ⟨by omega, by omega⟩
        try have v2 : IntKind.i64.wrap (z N + 10) = z N + 10 := IntWalk.i64_in _ ⟨by omega, by omega⟩
        refine wp_region_mixB (by kernel_rfl) (by kernel_rfl) ?_
        repeat (first
          | (refine mix_skip rfl ?_; have e0 : True := trivial; clear e0; refine mix_putK ?_; intro K hK; go_simp; refine hK _ ?_; clear hK K)
          | (refine mix_readE rfl rfl rfl ?_; apply Exists.intro; refine ⟨fun w' hb' => ?_, ?_⟩; (focus (obtain ⟨hc', hf'⟩ := Old.cells hb'; clear hb'; go_simp; try exact rfl)); have e0 : True := trivial; clear e0; refine mix_putK ?_; intro K hK; go_simp; refine hK _ ?_; clear hK K)
          | (refine mix_pureE rfl rfl ?_; apply Exists.intro; refine ⟨fun w' => ?_, ?_⟩; (focus (go_simp; try exact rfl)); have e0 : True := trivial; clear e0; refine mix_putK ?_; intro K hK; go_simp; refine hK _ ?_; clear hK K)
          | (refine mix_eff rfl rfl ?_; go_wp2_with (fail); refine then_mix rfl ?_ ?_; (first | (intro h; have h2 : false = true := h; cases h2) | (intro _; assumption) | (intro _; refine Old.mk ?_; repeat (first | (with_reducible exact Below.refl _ _) | (with_reducible refine Bal ?_ _) | (with_reducible refine Below.drew ?_) | (with_reducible refine below_drewN ?_ _) | (with_reducible refine Bset ?_ ?_ _; focus (first | (with_reducible exact Nat.le_refl _) | (simp; done) | (simp; omega) | omega)) | (with_reducible refine Bt ?_ (by assumption)) | (with_reducible refine Bp (g := g) ?_ (by assumption) (by assumption)))))))
        refine mix_nil ?_
        try clear v1 v2
        go_wp2_with fail
        refine bodyPost_retE rfl ?_
        apply Exists.intro
        refine ⟨?_, ?_⟩
        · simp only [results, Try.results23]
          go_simp
          first | done | rfl
        go_light
        refine ⟨ret_agg3 ?_ ?_ ?_, ?_⟩
        · simp [hnow, e2]
        · simp [hnow, e2]
        · simp [hnow, e2]
        repeat (first | (with_reducible exact Below.refl _ _) | (with_reducible refine Bal ?_ _) | (with_reducible refine Below.drew ?_) | (with_reducible refine below_drewN ?_ _) | (with_reducible refine Bset ?_ ?_ _; focus (first | (with_reducible exact Nat.le_refl _) | (simp; done) | (simp; omega) | omega)) | (with_reducible refine Bt ?_ (by assumption)) | (with_reducible refine Bp (g := g) ?_ (by assumption) (by assumption)))
      · have e2' : decide (z B - z N < 10) = false := by simp; omega
        have e2'' : decide (z B < z N + 10) = false := by simp; omega
        by_cases e3 : (B : Int) = next
        · obtain ⟨wt1, wt2⟩ := hw e3
          clear hw
          subst e3
          by_cases e4 : wait = 2
          all_goals (
            go_enter Try.func23, Try.ntmps23
            go_wp2_with fail
            refine (HB.out _ (H.out.below hh (by repeat (first | (with_reducible exact Below.refl _ _) | (with_reducible refine Bal ?_ _) | (with_reducible refine Below.drew ?_) | (with_reducible refine below_drewN ?_ _) | (with_reducible refine Bset ?_ ?_ _; focus (first | (with_reducible exact Nat.le_refl _) | (simp; done) | (simp; omega) | omega)) | (with_reducible refine Bt ?_ (by assumption)) | (with_reducible refine Bp (g := g) ?_ (by assumption) (by assumption))))) (by simp; omega)).mono ?_
            rintro e w1 ⟨rfl, hb1⟩
            obtain ⟨hc1, hf1⟩ := bcell hb1
            have hy1 := hb1.size
            try simp at hy1
            first | (have hz1 : w.heap.size < w1.heap.size := by (have := hb1.size; (try simp at this); omega)) | skip
            have ho1_0 : w.heap.size < w1.heap.size := by (have := hb1.size; (try simp at this); omega)
            have hg1_0 := fun o => hc1 (w.heap.size) o (by first | (simp; done) | (simp; omega) | omega)
            have hk1_0 := fun o => hf1 (w.heap.size) o (by first | (simp; done) | (simp; omega) | omega)
            try simp [go_sem] at hg1_0
            try simp [go_sem] at hk1_0
            have ho1_1 : w.heap.size + 1 < w1.heap.size := by (have := hb1.size; (try simp at this); omega)
            have hg1_1 := fun o => hc1 (w.heap.size + 1) o (by first | (simp; done) | (simp; omega) | omega)
            have hk1_1 := fun o => hf1 (w.heap.size + 1) o (by first | (simp; done) | (simp; omega) | omega)
            try simp [go_sem] at hg1_1
            try simp [go_sem] at hk1_1
            have hbw1 : b < w1.heap.size := by omega
            have hcB1 := (H.out.below hh (show Below w.heap.size w w1 by repeat (first | (with_reducible exact Below.refl _ _) | (with_reducible refine Bal ?_ _) | (with_reducible refine Below.drew ?_) | (with_reducible refine below_drewN ?_ _) | (with_reducible refine Bset ?_ ?_ _; focus (first | (with_reducible exact Nat.le_refl _) | (simp; done) | (simp; omega) | omega)) | (with_reducible refine Bt ?_ (by assumption)) | (with_reducible refine Bp (g := g) ?_ (by assumption) (by assumption))))).cell hbn
            try have hcN1 := (H.out.below hh (show Below w.heap.size w w1 by repeat (first | (with_reducible exact Below.refl _ _) | (with_reducible refine Bal ?_ _) | (with_reducible refine Below.drew ?_) | (with_reducible refine below_drewN ?_ _) | (with_reducible refine Bset ?_ ?_ _; focus (first | (with_reducible exact Nat.le_refl _) | (simp; done) | (simp; omega) | omega)) | (with_reducible refine Bt ?_ (by assumption)) | (with_reducible refine Bp (g := g) ?_ (by assumption) (by assumption))))).cell hN
            go_wp2_with fail
            try have v1 : IntKind.i64.wrap (z B - z N) = z B - z N := IntWalk.i64_in _ ⟨by omega, by omega⟩
            try have v2 : IntKind.i64.wrap (z N + 10) = z N + 10 := IntWalk.i64_in _ ⟨by omega, by omega⟩
            refine wp_region_mixB (by kernel_rfl) (by kernel_rfl) ?_
            repeat (first
              | (refine mix_skip rfl ?_; have e0 : True := trivial; clear e0; refine mix_putK ?_; intro K hK; go_simp; refine hK _ ?_; clear hK K)
              | (refine mix_readE rfl rfl rfl ?_; apply Exists.intro; refine ⟨fun w' hb' => ?_, ?_⟩; (focus (obtain ⟨hc', hf'⟩ := Old.cells hb'; clear hb'; go_simp; try exact rfl)); have e0 : True := trivial; clear e0; refine mix_putK ?_; intro K hK; go_simp; refine hK _ ?_; clear hK K)
              | (refine mix_pureE rfl rfl ?_; apply Exists.intro; refine ⟨fun w' => ?_, ?_⟩; (focus (go_simp; try exact rfl)); have e0 : True := trivial; clear e0; refine mix_putK ?_; intro K hK; go_simp; refine hK _ ?_; clear hK K)
              | (refine mix_eff rfl rfl ?_; go_wp2_with (fail); refine then_mix rfl ?_ ?_; (first | (intro h; have h2 : false = true := h; cases h2) | (intro _; assumption) | (intro _; refine Old.mk ?_; repeat (first | (with_reducible exact Below.refl _ _) | (with_reducible refine Bal ?_ _) | (with_reducible refine Below.drew ?_) | (with_reducible refine below_drewN ?_ _) | (with_reducible refine Bset ?_ ?_ _; focus (first | (with_reducible exact Nat.le_refl _) | (simp; done) | (simp; omega) | omega)) | (with_reducible refine Bt ?_ (by assumption)) | (with_reducible refine Bp (g := g) ?_ (by assumption) (by assumption)))))))
            refine mix_nil ?_
            try clear v1 v2
            go_wp2_with fail
            refine bodyPost_retE rfl ?_
            apply Exists.intro
            refine ⟨?_, ?_⟩
            · simp only [results, Try.results23]
              go_simp
              first | done | rfl
            go_light
            refine ⟨ret_agg3 ?_ ?_ ?_, ?_⟩
            · simp [hnow, e1, e2, e4]
            · simp [hnow, e1, e2, e4]
            · simp [hnow, e1, e2, e4]
            repeat (first | (with_reducible exact Below.refl _ _) | (with_reducible refine Bal ?_ _) | (with_reducible refine Below.drew ?_) | (with_reducible refine below_drewN ?_ _) | (with_reducible refine Bset ?_ ?_ _; focus (first | (with_reducible exact Nat.le_refl _) | (simp; done) | (simp; omega) | omega)) | (with_reducible refine Bt ?_ (by assumption)) | (with_reducible refine Bp (g := g) ?_ (by assumption) (by assumption)))
            done)
        · clear hw
          have e3' : ((B : Int) == next) = false := by simp; omega
          go_enter Try.func23, Try.ntmps23
          go_wp2_with fail
          refine (HB.out _ (H.out.below hh (by repeat (first | (with_reducible exact Below.refl _ _) | (with_reducible refine Bal ?_ _) | (with_reducible refine Below.drew ?_) | (with_reducible refine below_drewN ?_ _) | (with_reducible refine Bset ?_ ?_ _; focus (first | (with_reducible exact Nat.le_refl _) | (simp; done) | (simp; omega) | omega)) | (with_reducible refine Bt ?_ (by assumption)) | (with_reducible refine Bp (g := g) ?_ (by assumption) (by assumption))))) (by simp; omega)).mono ?_
          rintro e w1 ⟨rfl, hb1⟩
          obtain ⟨hc1, hf1⟩ := bcell hb1
          have hy1 := hb1.size
          try simp at hy1
          first | (have hz1 : w.heap.size < w1.heap.size := by (have := hb1.size; (try simp at this); omega)) | skip
          have ho1_0 : w.heap.size < w1.heap.size := by (have := hb1.size; (try simp at this); omega)
          have hg1_0 := fun o => hc1 (w.heap.size) o (by first | (simp; done) | (simp; omega) | omega)
          have hk1_0 := fun o => hf1 (w.heap.size) o (by first | (simp; done) | (simp; omega) | omega)
          try simp [go_sem] at hg1_0
          try simp [go_sem] at hk1_0
          have ho1_1 : w.heap.size + 1 < w1.heap.size := by (have := hb1.size; (try simp at this); omega)
          have hg1_1 := fun o => hc1 (w.heap.size + 1) o (by first | (simp; done) | (simp; omega) | omega)
          have hk1_1 := fun o => hf1 (w.heap.size + 1) o (by first | (simp; done) | (simp; omega) | omega)
          try simp [go_sem] at hg1_1
          try simp [go_sem] at hk1_1
          have hbw1 : b < w1.heap.size := by omega
          have hcB1 := (H.out.below hh (show Below w.heap.size w w1 by repeat (first | (with_reducible exact Below.refl _ _) | (with_reducible refine Bal ?_ _) | (with_reducible refine Below.drew ?_) | (with_reducible refine below_drewN ?_ _) | (with_reducible refine Bset ?_ ?_ _; focus (first | (with_reducible exact Nat.le_refl _) | (simp; done) | (simp; omega) | omega)) | (with_reducible refine Bt ?_ (by assumption)) | (with_reducible refine Bp (g := g) ?_ (by assumption) (by assumption))))).cell hbn
          try have hcN1 := (H.out.below hh (show Below w.heap.size w w1 by repeat (first | (with_reducible exact Below.refl _ _) | (with_reducible refine Bal ?_ _) | (with_reducible refine Below.drew ?_) | (with_reducible refine below_drewN ?_ _) | (with_reducible refine Bset ?_ ?_ _; focus (first | (with_reducible exact Nat.le_refl _) | (simp; done) | (simp; omega) | omega)) | (with_reducible refine Bt ?_ (by assumption)) | (with_reducible refine Bp (g := g) ?_ (by assumption) (by assumption))))).cell hN
          go_wp2_with fail
          try have v1 : IntKind.i64.wrap (z B - z N) = z B - z N := IntWalk.i64_in _ ⟨by omega, by omega⟩
          try have v2 : IntKind.i64.wrap (z N + 10) = z N + 10 := IntWalk.i64_in _ ⟨by omega, by omega⟩
          refine wp_region_mixB (by kernel_rfl) (by kernel_rfl) ?_
          repeat (first
            | (refine mix_skip rfl ?_; have e0 : True := trivial; clear e0; refine mix_putK ?_; intro K hK; go_simp; refine hK _ ?_; clear hK K)
            | (refine mix_readE rfl rfl rfl ?_; apply Exists.intro; refine ⟨fun w' hb' => ?_, ?_⟩; (focus (obtain ⟨hc', hf'⟩ := Old.cells hb'; clear hb'; go_simp; try exact rfl)); have e0 : True := trivial; clear e0; refine mix_putK ?_; intro K hK; go_simp; refine hK _ ?_; clear hK K)
            | (refine mix_pureE rfl rfl ?_; apply Exists.intro; refine ⟨fun w' => ?_, ?_⟩; (focus (go_simp; try exact rfl)); have e0 : True := trivial; clear e0; refine mix_putK ?_; intro K hK; go_simp; refine hK _ ?_; clear hK K)
            | (refine mix_eff rfl rfl ?_; go_wp2_with (fail); refine then_mix rfl ?_ ?_; (first | (intro h; have h2 : false = true := h; cases h2) | (intro _; assumption) | (intro _; refine Old.mk ?_; repeat (first | (with_reducible exact Below.refl _ _) | (with_reducible refine Bal ?_ _) | (with_reducible refine Below.drew ?_) | (with_reducible refine below_drewN ?_ _) | (with_reducible refine Bset ?_ ?_ _; focus (first | (with_reducible exact Nat.le_refl _) | (simp; done) | (simp; omega) | omega)) | (with_reducible refine Bt ?_ (by assumption)) | (with_reducible refine Bp (g := g) ?_ (by assumption) (by assumption)))))))
          refine mix_nil ?_
          try clear v1 v2
          go_wp2_with fail
          refine bodyPost_retE rfl ?_
          apply Exists.intro
          refine ⟨?_, ?_⟩
          · simp only [results, Try.results23]
            go_simp
            first | done | rfl
          go_light
          refine ⟨ret_agg3 ?_ ?_ ?_, ?_⟩
          · simp [hnow, e1, e2, e3]
          · simp [hnow, e1, e2, e3]
          · simp [hnow, e1, e2, e3]
          repeat (first | (with_reducible exact Below.refl _ _) | (with_reducible refine Bal ?_ _) | (with_reducible refine Below.drew ?_) | (with_reducible refine below_drewN ?_ _) | (with_reducible refine Bset ?_ ?_ _; focus (first | (with_reducible exact Nat.le_refl _) | (simp; done) | (simp; omega) | omega)) | (with_reducible refine Bt ?_ (by assumption)) | (with_reducible refine Bp (g := g) ?_ (by assumption) (by assumption)))
end Go.Proofs.Ytcdpalpoanlbmaa
