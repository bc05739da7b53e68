/- A step of the speakers, as it is called: what is invalid is refused. -/
import Derived.Test.YtcdpalpoanlbmaaSps
namespace Go.Proofs.Ytcdpalpoanlbmaa
open Go Go.RowKit
set_option linter.unusedVariables false
set_option linter.unusedSimpArgs false

def OkStep (now next wait : Int) (n : Nat) (z : Nat → Int) : Prop := SpkOk now next wait ∧ LoudOk n z ∧ now < n ∧ next < n
instance (now next wait : Int) (n : Nat) (z : Nat → Int) : Decidable (OkStep now next wait n z) := inferInstanceAs (Decidable (_ ∧ _))
def spN (now next wait : Int) (n : Nat) (z : Nat → Int) : Int := if OkStep now next wait n z then stN now next wait n z else 0
def spX (now next wait : Int) (n : Nat) (z : Nat → Int) : Int := if OkStep now next wait n z then stX now next wait n z else 0
def spW (now next wait : Int) (n : Nat) (z : Nat → Int) : Int := if OkStep now next wait n z then stW now next wait n z else 0
def spB (now next wait : Int) (n : Nat) (z : Nat → Int) : Bool := decide (OkStep now next wait n z)
theorem ret_agg3b {a b c a' b' c' : Int} {x y : Bool} (h1 : a = a') (h2 : b = b') (h3 : c = c') (h4 : x = y) : Ending.returned (.tuple #[.agg #[.int .i64 a, .int .i64 b, .int .i64 c], .bool x]) = .returned (.tuple #[.agg #[.int .i64 a', .int .i64 b', .int .i64 c'], .bool y]) := by rw [h1, h2, h3, h4]

set_option maxHeartbeats 4000000 in
theorem istp_any (now next wait : Int) (w : World) {lo hi : Nat} {A : Option Addr} {n c : Nat} {z : Nat → Int} (h : Ints w lo hi A n z) (hh : hi ≤ w.heap.size) (hn : n ≤ 1048576) :
    Calls Try.prog 9 #[.agg #[.int .i64 now, .int .i64 next, .int .i64 wait], .slice A n c] w fun e w' => e = .returned (.tuple #[.agg #[.int .i64 (spN now next wait n z), .int .i64 (spX now next wait n z), .int .i64 (spW now next wait n z)], .bool (spB now next wait n z)]) ∧ Below w.heap.size w w' := by
  have H := Lib.hid h
  clear h
  have hv := fun W : World => ispk_any now next wait W
  have hl := fun W : World => fun hW : Ints W lo hi A n z => iloud_any (c := c) W hW hn
  have hs := fun W : World => fun hW : Ints W lo hi A n z => fun hwh : hi ≤ W.heap.size => fun h1 h2 h3 h4 => istep_any (c := c) now next wait W hW hwh h1 h2 h3 h4
  unfold spN spX spW spB
  by_cases ho : OkStep now next wait n z
  · rw [if_pos ho, if_pos ho, if_pos ho, decide_eq_true ho]
    obtain ⟨o1, o2, o3, o4⟩ := ho
    rw [spkB_t o1] at hv
    rw [loudB_t o2] at hl
    have HS := Lib.hid fun W hW hwh => hs W hW hwh o1 o2 o3 o4
    have HV := Lib.hid hv
    have HL := Lib.hid hl
    clear hs hv hl o1 o2
    go_enter Try.func9, Try.ntmps9
    go_wp2_with fail
    refine (HV.out _).mono ?_
    rintro e w1 ⟨rfl, hb1⟩
    obtain ⟨hc1, hf1⟩ := bcell hb1
    have hy1 := hb1.size
    try simp at hy1
    first | (have hz1 : w.heap.size < w1.heap.size := by (have := hb1.size; (try simp at this); omega)) | skip
    have ho1_0 : w.heap.size < w1.heap.size := by (have := hb1.size; (try simp at this); omega)
    have hg1_0 := fun o => hc1 (w.heap.size) o (by first | (simp; done) | (simp; omega) | omega)
    have hk1_0 := fun o => hf1 (w.heap.size) o (by first | (simp; done) | (simp; omega) | omega)
    try simp [go_sem] at hg1_0
    try simp [go_sem] at hk1_0
    have ho1_1 : w.heap.size + 1 < w1.heap.size := by (have := hb1.size; (try simp at this); omega)
    have hg1_1 := fun o => hc1 (w.heap.size + 1) o (by first | (simp; done) | (simp; omega) | omega)
    have hk1_1 := fun o => hf1 (w.heap.size + 1) o (by first | (simp; done) | (simp; omega) | omega)
    try simp [go_sem] at hg1_1
    try simp [go_sem] at hk1_1
    go_wp2_with (go_at_call 20; refine (HL.out _ (H.out.below hh (show Below w.heap.size w w1 by repeat (first | (with_reducible exact Below.refl _ _) | (with_reducible refine Bal ?_ _) | (with_reducible refine Below.drew ?_) | (with_reducible refine below_drewN ?_ _) | (with_reducible refine Bset ?_ ?_ _; focus (first | (with_reducible exact Nat.le_refl _) | (simp; done) | (simp; omega) | omega)) | (with_reducible refine Bt ?_ (by assumption)) | (with_reducible refine Bp (g := g) ?_ (by assumption) (by assumption)))))).mono ?_; rintro e w' ⟨rfl, rfl⟩)
    refine (HS.out _ (H.out.below hh (show Below w.heap.size w w1 by repeat (first | (with_reducible exact Below.refl _ _) | (with_reducible refine Bal ?_ _) | (with_reducible refine Below.drew ?_) | (with_reducible refine below_drewN ?_ _) | (with_reducible refine Bset ?_ ?_ _; focus (first | (with_reducible exact Nat.le_refl _) | (simp; done) | (simp; omega) | omega)) | (with_reducible refine Bt ?_ (by assumption)) | (with_reducible refine Bp (g := g) ?_ (by assumption) (by assumption))))) (by omega)).mono ?_
    rintro e w2 ⟨rfl, hb2⟩
    obtain ⟨hc2, hf2⟩ := bcell hb2
    have hy2 := hb2.size
    go_wp2_with fail
    refine bodyPost_retE rfl ?_
    apply Exists.intro
    refine ⟨?_, ?_⟩
    · simp only [results, Try.results9]
      go_simp
      first | done | rfl
    go_light
    refine ⟨ret_agg3b rfl rfl rfl rfl, ?_⟩
    repeat (first | (with_reducible exact Below.refl _ _) | (with_reducible refine Bal ?_ _) | (with_reducible refine Below.drew ?_) | (with_reducible refine below_drewN ?_ _) | (with_reducible refine Bset ?_ ?_ _; focus (first | (with_reducible exact Nat.le_refl _) | (simp; done) | (simp; omega) | omega)) | (with_reducible refine Bt ?_ (by assumption)) | (with_reducible refine Bp (g := g) ?_ (by assumption) (by assumption)))
  · rw [if_neg ho, if_neg ho, if_neg ho, decide_eq_false ho]
    clear hs
    have HV := Lib.hid hv
    have HL := Lib.hid hl
    have HO := Lib.hid ho
    clear hv hl ho
    by_cases o1 : SpkOk now next wait
    · have hv := fun W : World => HV.out W
      rw [spkB_t o1] at hv
      have HV1 := Lib.hid hv
      clear hv HV
      by_cases o2 : LoudOk n z
      · have hl := fun W : World => HL.out W
        rw [loudB_t o2] at hl
        have HL1 := Lib.hid hl
        clear hl HL
        have o34 : ¬ (now < n ∧ next < n) := fun o => HO.out ⟨o1, o2, o⟩
        clear o1 o2 HO
        by_cases o3 : now < n
        all_goals (
          have o4 : now < n → ¬ next < n := fun h1 h2 => o34 ⟨h1, h2⟩
          clear o34
          try have o5 := o4 o3
          clear o4
          go_enter Try.func9, Try.ntmps9
          go_wp2_with fail
          refine (HV1.out _).mono ?_
          rintro e w1 ⟨rfl, hb1⟩
          obtain ⟨hc1, hf1⟩ := bcell hb1
          have hy1 := hb1.size
          try simp at hy1
          first | (have hz1 : w.heap.size < w1.heap.size := by (have := hb1.size; (try simp at this); omega)) | skip
          have ho1_0 : w.heap.size < w1.heap.size := by (have := hb1.size; (try simp at this); omega)
          have hg1_0 := fun o => hc1 (w.heap.size) o (by first | (simp; done) | (simp; omega) | omega)
          have hk1_0 := fun o => hf1 (w.heap.size) o (by first | (simp; done) | (simp; omega) | omega)
          try simp [go_sem] at hg1_0
          try simp [go_sem] at hk1_0
          have ho1_1 : w.heap.size + 1 < w1.heap.size := by (have := hb1.size; (try simp at this); omega)
          have hg1_1 := fun o => hc1 (w.heap.size + 1) o (by first | (simp; done) | (simp; omega) | omega)
          have hk1_1 := fun o => hf1 (w.heap.size + 1) o (by first | (simp; done) | (simp; omega) | omega)
          try simp [go_sem] at hg1_1
          try simp [go_sem] at hk1_1
          go_wp2_with (go_at_call 20; refine (HL1.out _ (H.out.below hh (show Below w.heap.size w w1 by repeat (first | (with_reducible exact Below.refl _ _) | (with_reducible refine Bal ?_ _) | (with_reducible refine Below.drew ?_) | (with_reducible refine below_drewN ?_ _) | (with_reducible refine Bset ?_ ?_ _; focus (first | (with_reducible exact Nat.le_refl _) | (simp; done) | (simp; omega) | omega)) | (with_reducible refine Bt ?_ (by assumption)) | (with_reducible refine Bp (g := g) ?_ (by assumption) (by assumption)))))).mono ?_; rintro e w' ⟨rfl, rfl⟩)
          refine bodyPost_retE rfl ?_
          apply Exists.intro
          refine ⟨?_, ?_⟩
          · simp only [results, Try.results9]
            go_simp
            first | done | rfl
          go_light
          refine ⟨rfl, ?_⟩
          repeat (first | (with_reducible exact Below.refl _ _) | (with_reducible refine Bal ?_ _) | (with_reducible refine Below.drew ?_) | (with_reducible refine below_drewN ?_ _) | (with_reducible refine Bset ?_ ?_ _; focus (first | (with_reducible exact Nat.le_refl _) | (simp; done) | (simp; omega) | omega)) | (with_reducible refine Bt ?_ (by assumption)) | (with_reducible refine Bp (g := g) ?_ (by assumption) (by assumption)))
          done)
      · have hl := fun W : World => HL.out W
        rw [loudB_f o2] at hl
        have HL1 := Lib.hid hl
        clear hl HL o1 o2 HO
        go_enter Try.func9, Try.ntmps9
        go_wp2_with fail
        refine (HV1.out _).mono ?_
        rintro e w1 ⟨rfl, hb1⟩
        obtain ⟨hc1, hf1⟩ := bcell hb1
        have hy1 := hb1.size
        try simp at hy1
        first | (have hz1 : w.heap.size < w1.heap.size := by (have := hb1.size; (try simp at this); omega)) | skip
        have ho1_0 : w.heap.size < w1.heap.size := by (have := hb1.size; (try simp at this); omega)
        have hg1_0 := fun o => hc1 (w.heap.size) o (by first | (simp; done) | (simp; omega) | omega)
        have hk1_0 := fun o => hf1 (w.heap.size) o (by first | (simp; done) | (simp; omega) | omega)
        try simp [go_sem] at hg1_0
        try simp [go_sem] at hk1_0
        have ho1_1 : w.heap.size + 1 < w1.heap.size := by (have := hb1.size; (try simp at this); omega)
        have hg1_1 := fun o => hc1 (w.heap.size + 1) o (by first | (simp; done) | (simp; omega) | omega)
        have hk1_1 := fun o => hf1 (w.heap.size + 1) o (by first | (simp; done) | (simp; omega) | omega)
        try simp [go_sem] at hg1_1
        try simp [go_sem] at hk1_1
        go_wp2_with (go_at_call 20; refine (HL1.out _ (H.out.below hh (show Below w.heap.size w w1 by repeat (first | (with_reducible exact Below.refl _ _) | (with_reducible refine Bal ?_ _) | (with_reducible refine Below.drew ?_) | (with_reducible refine below_drewN ?_ _) | (with_reducible refine Bset ?_ ?_ _; focus (first | (with_reducible exact Nat.le_refl _) | (simp; done) | (simp; omega) | omega)) | (with_reducible refine Bt ?_ (by assumption)) | (with_reducible refine Bp (g := g) ?_ (by assumption) (by assumption)))))).mono ?_; rintro e w' ⟨rfl, rfl⟩)
        refine bodyPost_retE rfl ?_
        apply Exists.intro
        refine ⟨?_, ?_⟩
        · simp only [results, Try.results9]
          go_simp
          first | done | rfl
        go_light
        refine ⟨rfl, ?_⟩
        repeat (first | (with_reducible exact Below.refl _ _) | (with_reducible refine Bal ?_ _) | (with_reducible refine Below.drew ?_) | (with_reducible refine below_drewN ?_ _) | (with_reducible refine Bset ?_ ?_ _; focus (first | (with_reducible exact Nat.le_refl _) | (simp; done) | (simp; omega) | omega)) | (with_reducible refine Bt ?_ (by assumption)) | (with_reducible refine Bp (g := g) ?_ (by assumption) (by assumption)))
    · have hv := fun W : World => HV.out W
      rw [spkB_f o1] at hv
      have HV1 := Lib.hid hv
      clear hv HV HL o1 HO
      go_enter Try.func9, Try.ntmps9
      go_wp2_with fail
      refine (HV1.out _).mono ?_
      rintro e w1 ⟨rfl, hb1⟩
      obtain ⟨hc1, hf1⟩ := bcell hb1
      have hy1 := hb1.size
      try simp at hy1
      first | (have hz1 : w.heap.size < w1.heap.size := by (have := hb1.size; (try simp at this); omega)) | skip
      have ho1_0 : w.heap.size < w1.heap.size := by (have := hb1.size; (try simp at this); omega)
      have hg1_0 := fun o => hc1 (w.heap.size) o (by first | (simp; done) | (simp; omega) | omega)
      have hk1_0 := fun o => hf1 (w.heap.size) o (by first | (simp; done) | (simp; omega) | omega)
      try simp [go_sem] at hg1_0
      try simp [go_sem] at hk1_0
      have ho1_1 : w.heap.size + 1 < w1.heap.size := by (have := hb1.size; (try simp at this); omega)
      have hg1_1 := fun o => hc1 (w.heap.size + 1) o (by first | (simp; done) | (simp; omega) | omega)
      have hk1_1 := fun o => hf1 (w.heap.size + 1) o (by first | (simp; done) | (simp; omega) | omega)
      try simp [go_sem] at hg1_1
      try simp [go_sem] at hk1_1
      go_wp2_with fail
      refine bodyPost_retE rfl ?_
      apply Exists.intro
      refine ⟨?_, ?_⟩
      · simp only [results, Try.results9]
        go_simp
        first | done | rfl
      go_light
      refine ⟨rfl, ?_⟩
      repeat (first | (with_reducible exact Below.refl _ _) | (with_reducible refine Bal ?_ _) | (with_reducible refine Below.drew ?_) | (with_reducible refine below_drewN ?_ _) | (with_reducible refine Bset ?_ ?_ _; focus (first | (with_reducible exact Nat.le_refl _) | (simp; done) | (simp; omega) | omega)) | (with_reducible refine Bt ?_ (by assumption)) | (with_reducible refine Bp (g := g) ?_ (by assumption) (by assumption)))

end Go.Proofs.Ytcdpalpoanlbmaa
