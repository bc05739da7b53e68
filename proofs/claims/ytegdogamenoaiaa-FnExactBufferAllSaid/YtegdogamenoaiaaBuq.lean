/- A buffer: what is put, of the rule (printed by gen_buq.py). -/
import Derived.Test.YtegdogamenoaiaaSlc
namespace Go.Proofs.Ytegdogamenoaiaa
open Go Go.RowKit
set_option linter.unusedVariables false
set_option linter.unusedSimpArgs false
def CopyRet (y d : Int) (n : Nat) (q : Nat → Hd) (w : World) (e : Ending) (w' : World) : Prop :=
  ∃ A c, e = .returned (.agg #[.int .i64 y, .int .i64 d, .slice A n c]) ∧ RowOwn 54 w' w.heap.size w'.heap.size A n c 7 (HdF q) ∧ Below w.heap.size w w'
theorem own_below {w w2 w4 : World} {A : Option Addr} {n c B : Nat} (h : Below B w w2) (hG : w2.grownBy w4 (Value.slice A n c).ownBlock) (hB : B ≤ w2.heap.size) (hA : ∀ k, (Value.slice A n c).ownBlock = some k → B ≤ k) : Below B w w4 := h.grown hG hB hA
theorem Hd_cells {w : World} {lo hi n b off : Nat} {p : Nat → Hd} (h : RowAt w lo hi (some ⟨b, off, none⟩) n 7 (HdF p)) {k : Nat} (hk : k < n) :
    w.cell? ⟨b, off + k * 7, none⟩ = some (.int .i64 (p k).p.w) ∧ w.cell? ⟨b, off + k * 7 + 1, none⟩ = some (.int .i64 (p k).p.t) ∧
      w.cell? ⟨b, off + k * 7 + 2, none⟩ = some (.int .i64 (p k).p.l) ∧ w.cell? ⟨b, off + k * 7 + 3, none⟩ = some (.int .i64 (p k).p.s) ∧ w.cell? ⟨b, off + k * 7 + 4, none⟩ = some (.bool (p k).p.k) ∧ w.cell? ⟨b, off + k * 7 + 5, none⟩ = some (.bool (p k).p.z) ∧
      w.cell? ⟨b, off + k * 7 + 6, none⟩ = some (.int .i64 (p k).c) := by
  obtain ⟨b', off', h1, _, _, h4⟩ := Hd_at h hk
  cases h1
  exact h4
theorem zero_hd {w : World} {e : TypeId} {lo hi n c : Nat} {A : Option Addr} {p : Nat → Hd} {f0 : Nat → Value} (h : RowOwn e w lo hi A n c 7 (catF (0 * 7) f0 (HdF p))) : RowOwn e w lo hi A n c 7 (HdF p) := by
  refine RowOwn.congr h fun j hj => ?_
  unfold catF
  rw [if_neg (by omega)]
  simp
set_option maxRecDepth 100000 in
set_option maxHeartbeats 2000000 in
theorem copy_any (w : World) (lo hi : Nat) (A : Option Addr) (n c : Nat) (y d : Int) (q : Nat → Hd) (h : RowAt w lo hi A n 7 (HdF q)) (hi' : hi ≤ w.heap.size) (hn : n ≤ 1048576) :
    Calls Try.prog 55 #[.agg #[.int .i64 y, .int .i64 d, .slice A n c]] w (CopyRet y d n q w) := by
  obtain ⟨i0, q1, q2, q3, q4⟩ := info_parts info_hd
  have H := Lib.hid h
  clear h
  go_enter Try.func55, Try.ntmps55
  go_upto_region 1 with fail
  have HR := Lib.hid ((H.out.alloc hi' (.cells #[.int .i64 y, .int .i64 d, .slice A n c] 28)).alloc (show hi ≤ (w.alloc (.cells #[.int .i64 y, .int .i64 d, .slice A n c] 28)).heap.size by (simp; omega)) (.cells #[.int .i64 0, .int .i64 0, .slice none 0 0] 28))
  refine wp_region_mixB (by kernel_rfl) (by kernel_rfl) ?_
  repeat (first
    | (refine mix_skip rfl ?_; have e0 : True := trivial; clear e0; refine mix_putK ?_; intro K hK; go_simp; refine hK _ ?_; clear hK K)
    | (refine mix_readE rfl rfl rfl ?_; apply Exists.intro; refine ⟨fun w' hb' => ?_, ?_⟩; (focus (obtain ⟨hc', hf'⟩ := Old.cells hb'; clear hb'; go_simp; try exact rfl)); have e0 : True := trivial; clear e0; refine mix_putK ?_; intro K hK; go_simp; refine hK _ ?_; clear hK K)
    | (refine mix_pureE rfl rfl ?_; apply Exists.intro; refine ⟨fun w' => ?_, ?_⟩; (focus (go_simp; try exact rfl)); have e0 : True := trivial; clear e0; refine mix_putK ?_; intro K hK; go_simp; refine hK _ ?_; clear hK K)
    | (refine mix_eff rfl rfl ?_; go_wp2_with ((at_builtin; go_loud (refine wpList_rowAppend _ rfl (.tmp 7) (.tmp 9) _ rfl 54 i0 _ 7 48 Try.underlying26 q1 q2 q3 q4 rfl (by decide) (w.heap.size + 1 + 1) _ _ 0 0 (HdF q) rfl (empty_at _ _ _ 7 _ ?_) lo hi A n c _ rfl ((HR.out.drew).alloc ?_ _) ?_ (by unfold maxLen; omega) (by omega) ?_ ?_); (focus (simp)); (focus (simp; omega)); (focus (intro j hj; exact hd_one _ _)); (focus (simp)); intro A4 c4 w4 hO4 hG4 hL4; have hO5 := cat_hd hO4; (try rw [Nat.zero_add] at hL4); (try rw [Nat.zero_add]); have hb4 : Below (w.heap.size + 1 + 1) ((w.alloc (.cells #[.int .i64 y, .int .i64 d, .slice A n c] 28)).alloc (.cells #[.int .i64 0, .int .i64 0, .slice none 0 0] 28)) w4 := Below.grown ((Below.drew (Below.refl _ _)).alloc (by simp) _) hG4 (by simp) (by intro k hk; simp [Value.ownBlock] at hk; omega); have hb4' : Old ((w.alloc (.cells #[.int .i64 y, .int .i64 d, .slice A n c] 28)).alloc (.cells #[.int .i64 0, .int .i64 0, .slice none 0 0] 28)) w4 := Old.mk (by simpa using hb4); obtain ⟨hc4, hf4⟩ := below_cells hb4; have hg4 := fun o => hc4 (w.heap.size + 1) o (by omega); have hk4 := fun o => hf4 (w.heap.size + 1) o (by omega); (try simp [go_sem] at hg4); (try simp [go_sem] at hk4))); refine then_mix rfl ?_ ?_; (first | (intro h; have h2 : false = true := h; cases h2) | (intro _; assumption) | (intro _; refine Old.mk ?_; repeat (first | (with_reducible exact Below.refl _ _) | (with_reducible refine Bal ?_ _) | (with_reducible refine Below.drew ?_) | (with_reducible refine below_drewN ?_ _) | (with_reducible refine Bset ?_ ?_ _; focus (first | (with_reducible exact Nat.le_refl _) | (simp; done) | (simp; omega) | omega)) | (with_reducible refine Bt ?_ (by assumption)) | (with_reducible refine Bp (g := g) ?_ (by assumption) (by assumption)))))))
  refine mix_nil ?_
  go_wp2_with fail
  refine bodyPost_ret (v := .agg #[.int .i64 y, .int .i64 d, .slice A4 n c4]) ?_ rfl ?_
  · simp only [results, Try.results55]
    go_simp
  have hs4 := hb4.size
  simp at hs4
  refine ⟨_, _, rfl, ?_, ?_⟩
  · exact RowOwn.wide (RowOwn.setC (Or.inl (by simp)) (RowOwn.setC (Or.inl (by simp)) (RowOwn.setC (Or.inl (by simp)) hO5 _) _) _) (by omega) (by simp)
  · have hW : Below w.heap.size w w4 := Below.trans (((Below.refl _ w).alloc (Nat.le_refl _) _).alloc (by simp) _) (Below.mono hb4 (by omega))
    exact Bset (by simp) (Bset (by simp) (Bset (by simp) hW _) _) _
set_option maxRecDepth 100000 in
set_option maxHeartbeats 16000000 in
theorem sbp_early (w : World) (lo hi : Nat) (A : Option Addr) (n c : Nat) (y d now : Int) (q : Nat → Hd) (x : Pk) (h : RowAt w lo hi A n 7 (HdF q)) (hi' : hi ≤ w.heap.size) (hn : n ≤ 1048576) (hnc : n ≤ c) (hE : ¬ ptOk y d n q x now ∨ x.w < y) :
    Calls Try.prog 24 #[.agg #[.int .i64 y, .int .i64 d, .slice A n c], PkV x, .int .i64 now] w (PutRet y d n q x now w) := by
  obtain ⟨i0, q1, q2, q3, q4⟩ := info_parts info_hd
  have hv := fun W (hb : Below w.heap.size w W) => sbv_any W lo hi A n c y d q (h.below hi' hb) (Nat.le_trans hi' hb.size) hn
  have hp := fun W : World => spv_any x.w x.t x.l x.s x.k x.z W
  have ht := fun W : World => l6In_any now 0 99999 W
  have H := Lib.hid h
  clear h
  by_cases hO : BfOk y d n q
  rotate_left
  · rw [show bfB y d n q = false from decide_eq_false hO] at hv
    have HV := Lib.hid hv
    have HK := Lib.hid (pt_bad (x := x) (now := now) (fun h => hO h.1))
    clear hv hp ht hO
    go_enter Try.func24, Try.ntmps24
    unfold PkV
    go_wp2_with fail
    refine (HV.out _ ?_).mono ?_
    focus (repeat (first | (with_reducible exact Below.refl _ _) | (with_reducible refine Bal ?_ _) | (with_reducible refine Below.drew ?_) | (with_reducible refine below_drewN ?_ _) | (with_reducible refine Bset ?_ ?_ _; focus (first | (with_reducible exact Nat.le_refl _) | (simp; done) | (simp; omega) | omega)) | (with_reducible refine Bt ?_ (by assumption)) | (with_reducible refine Bp (g := g) ?_ (by assumption) (by assumption))))
    rintro e w1 ⟨rfl, hb1⟩
    obtain ⟨hc1, hf1⟩ := bcell hb1
    have hy1 := hb1.size
    try simp at hy1
    have hg1_0 := fun o => hc1 (w.heap.size) o (by first | (simp; done) | (simp; omega) | omega)
    try simp [go_sem] at hg1_0
    have hg1_1 := fun o => hc1 (w.heap.size + 1) o (by first | (simp; done) | (simp; omega) | omega)
    try simp [go_sem] at hg1_1
    have hg1_2 := fun o => hc1 (w.heap.size + 1 + 1) o (by first | (simp; done) | (simp; omega) | omega)
    try simp [go_sem] at hg1_2
    have hk1_2 := fun o => hf1 (w.heap.size + 1 + 1) o (by first | (simp; done) | (simp; omega) | omega)
    try simp [go_sem] at hk1_2
    go_wp2_with fail
    refine bodyPost_ret (v := .tuple #[.agg #[.int .i64 0, .int .i64 0, .slice none 0 0], .int .i64 4]) ?_ rfl ?_
    · simp only [results, Try.results24]
      go_simp
    refine PutRet.bad HK.out ?_
    repeat (first | (with_reducible exact Below.refl _ _) | (with_reducible refine Bal ?_ _) | (with_reducible refine Below.drew ?_) | (with_reducible refine below_drewN ?_ _) | (with_reducible refine Bset ?_ ?_ _; focus (first | (with_reducible exact Nat.le_refl _) | (simp; done) | (simp; omega) | omega)) | (with_reducible refine Bt ?_ (by assumption)) | (with_reducible refine Bp (g := g) ?_ (by assumption) (by assumption)))
  rw [show bfB y d n q = true from decide_eq_true hO] at hv
  have HV := Lib.hid hv
  clear hv
  by_cases hX : PkOk x
  rotate_left
  · rw [show pkB ⟨x.w, x.t, x.l, x.s, x.k, x.z⟩ = false from decide_eq_false hX] at hp
    have HP := Lib.hid hp
    have HK := Lib.hid (pt_bad (y := y) (d := d) (n := n) (q := q) (now := now) (fun h => hX h.2.1))
    clear hp ht hO hX
    go_enter Try.func24, Try.ntmps24
    unfold PkV
    go_wp2_with fail
    refine (HV.out _ ?_).mono ?_
    focus (repeat (first | (with_reducible exact Below.refl _ _) | (with_reducible refine Bal ?_ _) | (with_reducible refine Below.drew ?_) | (with_reducible refine below_drewN ?_ _) | (with_reducible refine Bset ?_ ?_ _; focus (first | (with_reducible exact Nat.le_refl _) | (simp; done) | (simp; omega) | omega)) | (with_reducible refine Bt ?_ (by assumption)) | (with_reducible refine Bp (g := g) ?_ (by assumption) (by assumption))))
    rintro e w1 ⟨rfl, hb1⟩
    obtain ⟨hc1, hf1⟩ := bcell hb1
    have hy1 := hb1.size
    try simp at hy1
    have hg1_0 := fun o => hc1 (w.heap.size) o (by first | (simp; done) | (simp; omega) | omega)
    try simp [go_sem] at hg1_0
    have hg1_1 := fun o => hc1 (w.heap.size + 1) o (by first | (simp; done) | (simp; omega) | omega)
    try simp [go_sem] at hg1_1
    have hg1_2 := fun o => hc1 (w.heap.size + 1 + 1) o (by first | (simp; done) | (simp; omega) | omega)
    try simp [go_sem] at hg1_2
    have hk1_2 := fun o => hf1 (w.heap.size + 1 + 1) o (by first | (simp; done) | (simp; omega) | omega)
    try simp [go_sem] at hk1_2
    go_wp2_with fail
    refine (HP.out _).mono ?_
    rintro e w2 ⟨rfl, hb2⟩
    obtain ⟨hc2, hf2⟩ := bcell hb2
    have hy2 := hb2.size
    try simp at hy2
    have hg2_0 := fun o => hc2 (w.heap.size) o (by first | (simp; done) | (simp; omega) | omega)
    try simp [go_sem] at hg2_0
    have hg2_1 := fun o => hc2 (w.heap.size + 1) o (by first | (simp; done) | (simp; omega) | omega)
    try simp [go_sem] at hg2_1
    have hg2_2 := fun o => hc2 (w.heap.size + 1 + 1) o (by first | (simp; done) | (simp; omega) | omega)
    try simp [go_sem] at hg2_2
    have hk2_2 := fun o => hf2 (w.heap.size + 1 + 1) o (by first | (simp; done) | (simp; omega) | omega)
    try simp [go_sem] at hk2_2
    go_wp2_with fail
    refine bodyPost_ret (v := .tuple #[.agg #[.int .i64 0, .int .i64 0, .slice none 0 0], .int .i64 4]) ?_ rfl ?_
    · simp only [results, Try.results24]
      go_simp
    refine PutRet.bad HK.out ?_
    repeat (first | (with_reducible exact Below.refl _ _) | (with_reducible refine Bal ?_ _) | (with_reducible refine Below.drew ?_) | (with_reducible refine below_drewN ?_ _) | (with_reducible refine Bset ?_ ?_ _; focus (first | (with_reducible exact Nat.le_refl _) | (simp; done) | (simp; omega) | omega)) | (with_reducible refine Bt ?_ (by assumption)) | (with_reducible refine Bp (g := g) ?_ (by assumption) (by assumption)))
  rw [show pkB ⟨x.w, x.t, x.l, x.s, x.k, x.z⟩ = true from decide_eq_true hX] at hp
  have HP := Lib.hid hp
  clear hp
  by_cases hT : 0 ≤ now ∧ now ≤ 99999
  rotate_left
  · rw [show inB now 0 99999 = false by (unfold inB; simp; omega)] at ht
    have HT := Lib.hid ht
    have HK := Lib.hid (pt_bad (y := y) (d := d) (n := n) (q := q) (x := x) (fun h => hT h.2.2))
    clear ht hO hX hT
    go_enter Try.func24, Try.ntmps24
    unfold PkV
    go_wp2_with fail
    refine (HV.out _ ?_).mono ?_
    focus (repeat (first | (with_reducible exact Below.refl _ _) | (with_reducible refine Bal ?_ _) | (with_reducible refine Below.drew ?_) | (with_reducible refine below_drewN ?_ _) | (with_reducible refine Bset ?_ ?_ _; focus (first | (with_reducible exact Nat.le_refl _) | (simp; done) | (simp; omega) | omega)) | (with_reducible refine Bt ?_ (by assumption)) | (with_reducible refine Bp (g := g) ?_ (by assumption) (by assumption))))
    rintro e w1 ⟨rfl, hb1⟩
    obtain ⟨hc1, hf1⟩ := bcell hb1
    have hy1 := hb1.size
    try simp at hy1
    have hg1_0 := fun o => hc1 (w.heap.size) o (by first | (simp; done) | (simp; omega) | omega)
    try simp [go_sem] at hg1_0
    have hg1_1 := fun o => hc1 (w.heap.size + 1) o (by first | (simp; done) | (simp; omega) | omega)
    try simp [go_sem] at hg1_1
    have hg1_2 := fun o => hc1 (w.heap.size + 1 + 1) o (by first | (simp; done) | (simp; omega) | omega)
    try simp [go_sem] at hg1_2
    have hk1_2 := fun o => hf1 (w.heap.size + 1 + 1) o (by first | (simp; done) | (simp; omega) | omega)
    try simp [go_sem] at hk1_2
    go_wp2_with fail
    refine (HP.out _).mono ?_
    rintro e w2 ⟨rfl, hb2⟩
    obtain ⟨hc2, hf2⟩ := bcell hb2
    have hy2 := hb2.size
    try simp at hy2
    have hg2_0 := fun o => hc2 (w.heap.size) o (by first | (simp; done) | (simp; omega) | omega)
    try simp [go_sem] at hg2_0
    have hg2_1 := fun o => hc2 (w.heap.size + 1) o (by first | (simp; done) | (simp; omega) | omega)
    try simp [go_sem] at hg2_1
    have hg2_2 := fun o => hc2 (w.heap.size + 1 + 1) o (by first | (simp; done) | (simp; omega) | omega)
    try simp [go_sem] at hg2_2
    have hk2_2 := fun o => hf2 (w.heap.size + 1 + 1) o (by first | (simp; done) | (simp; omega) | omega)
    try simp [go_sem] at hk2_2
    go_wp2_with fail
    refine (HT.out _).mono ?_
    rintro e w' ⟨rfl, rfl⟩
    go_wp2_with fail
    refine bodyPost_ret (v := .tuple #[.agg #[.int .i64 0, .int .i64 0, .slice none 0 0], .int .i64 4]) ?_ rfl ?_
    · simp only [results, Try.results24]
      go_simp
    refine PutRet.bad HK.out ?_
    repeat (first | (with_reducible exact Below.refl _ _) | (with_reducible refine Bal ?_ _) | (with_reducible refine Below.drew ?_) | (with_reducible refine below_drewN ?_ _) | (with_reducible refine Bset ?_ ?_ _; focus (first | (with_reducible exact Nat.le_refl _) | (simp; done) | (simp; omega) | omega)) | (with_reducible refine Bt ?_ (by assumption)) | (with_reducible refine Bp (g := g) ?_ (by assumption) (by assumption)))
  rw [inB_t hT.1 hT.2] at ht
  have HT := Lib.hid ht
  clear ht
  have HOk := Lib.hid (show ptOk y d n q x now from ⟨hO, hX, hT⟩)
  have HA := Lib.hid hO.2.2.2.asc
  have hn10 : n ≤ 10 := hO.2.2.1
  clear hO hX hT hn
  by_cases hl : x.w < y
  · have HK := Lib.hid (pt_late HOk.out hl)
    go_enter Try.func24, Try.ntmps24
    unfold PkV
    go_wp2_with fail
    refine (HV.out _ ?_).mono ?_
    focus (repeat (first | (with_reducible exact Below.refl _ _) | (with_reducible refine Bal ?_ _) | (with_reducible refine Below.drew ?_) | (with_reducible refine below_drewN ?_ _) | (with_reducible refine Bset ?_ ?_ _; focus (first | (with_reducible exact Nat.le_refl _) | (simp; done) | (simp; omega) | omega)) | (with_reducible refine Bt ?_ (by assumption)) | (with_reducible refine Bp (g := g) ?_ (by assumption) (by assumption))))
    rintro e w1 ⟨rfl, hb1⟩
    obtain ⟨hc1, hf1⟩ := bcell hb1
    have hy1 := hb1.size
    try simp at hy1
    have hg1_0 := fun o => hc1 (w.heap.size) o (by first | (simp; done) | (simp; omega) | omega)
    try simp [go_sem] at hg1_0
    have hg1_1 := fun o => hc1 (w.heap.size + 1) o (by first | (simp; done) | (simp; omega) | omega)
    try simp [go_sem] at hg1_1
    have hg1_2 := fun o => hc1 (w.heap.size + 1 + 1) o (by first | (simp; done) | (simp; omega) | omega)
    try simp [go_sem] at hg1_2
    have hk1_2 := fun o => hf1 (w.heap.size + 1 + 1) o (by first | (simp; done) | (simp; omega) | omega)
    try simp [go_sem] at hk1_2
    go_wp2_with fail
    refine (HP.out _).mono ?_
    rintro e w2 ⟨rfl, hb2⟩
    obtain ⟨hc2, hf2⟩ := bcell hb2
    have hy2 := hb2.size
    try simp at hy2
    have hg2_0 := fun o => hc2 (w.heap.size) o (by first | (simp; done) | (simp; omega) | omega)
    try simp [go_sem] at hg2_0
    have hg2_1 := fun o => hc2 (w.heap.size + 1) o (by first | (simp; done) | (simp; omega) | omega)
    try simp [go_sem] at hg2_1
    have hg2_2 := fun o => hc2 (w.heap.size + 1 + 1) o (by first | (simp; done) | (simp; omega) | omega)
    try simp [go_sem] at hg2_2
    have hk2_2 := fun o => hf2 (w.heap.size + 1 + 1) o (by first | (simp; done) | (simp; omega) | omega)
    try simp [go_sem] at hk2_2
    go_wp2_with fail
    refine (HT.out _).mono ?_
    rintro e w' ⟨rfl, rfl⟩
    have hW2 : Below w.heap.size w w2 := by repeat (first | (with_reducible exact Below.refl _ _) | (with_reducible refine Bal ?_ _) | (with_reducible refine Below.drew ?_) | (with_reducible refine below_drewN ?_ _) | (with_reducible refine Bset ?_ ?_ _; focus (first | (with_reducible exact Nat.le_refl _) | (simp; done) | (simp; omega) | omega)) | (with_reducible refine Bt ?_ (by assumption)) | (with_reducible refine Bp (g := g) ?_ (by assumption) (by assumption)))
    have HW2 := Lib.hid hW2
    have hz2 := hW2.size
    clear hW2
    go_wp2_with fail
    refine (copy_any _ lo hi A n c y d q ?_ ?_ (by omega)).mono ?_
    focus (exact H.out.below hi' HW2.out)
    focus (omega)
    rintro e w3 ⟨A3, c3, rfl, hO3, hb3⟩
    obtain ⟨hc3, hf3⟩ := bcell hb3
    have hy3 := hb3.size
    try simp at hy3
    have hg3_0 := fun o => hc3 (w.heap.size) o (by first | (simp; done) | (simp; omega) | omega)
    try simp [go_sem] at hg3_0
    have hg3_1 := fun o => hc3 (w.heap.size + 1) o (by first | (simp; done) | (simp; omega) | omega)
    try simp [go_sem] at hg3_1
    have hg3_2 := fun o => hc3 (w.heap.size + 1 + 1) o (by first | (simp; done) | (simp; omega) | omega)
    try simp [go_sem] at hg3_2
    have hk3_2 := fun o => hf3 (w.heap.size + 1 + 1) o (by first | (simp; done) | (simp; omega) | omega)
    try simp [go_sem] at hk3_2
    have HO3 := Lib.hid hO3
    have hz3 := hb3.size
    have hz3a : w.heap.size < w3.heap.size := by omega
    have hz3b : w.heap.size + 1 < w3.heap.size := by omega
    have hz3c : w.heap.size + 1 + 1 < w3.heap.size := by omega
    have HW3 := Lib.hid (HW2.out.trans (Below.mono hb3 (by omega)))
    clear hO3
    go_wp2_with fail
    refine bodyPost_ret (v := .tuple #[.agg #[.int .i64 y, .int .i64 d, .slice A3 n c3], .int .i64 1]) ?_ rfl ?_
    · simp only [results, Try.results24]
      go_simp
    refine PutRet.same HK.out (by decide) ?_ ?_
    · refine RowOwn.wide (lo := w2.heap.size) (hi := w3.heap.size) ?_ (by omega) (by first | omega | (simp; omega) | (simp; done))
      repeat (first | (with_reducible exact HO3.out) | (with_reducible refine RowOwn.drew ?_) | refine RowOwn.alloc ?_ _ | (refine RowOwn.setC (Or.inl ?_) ?_ _; focus (simp; omega)))
    · repeat (first | (with_reducible exact HW3.out) | (with_reducible refine Below.drew ?_) | refine Bal ?_ _ | (refine Bset ?_ ?_ _; focus (simp; omega)))
  exact absurd HOk.out (fun h => hE.elim (fun h2 => h2 h) hl)
end Go.Proofs.Ytegdogamenoaiaa
