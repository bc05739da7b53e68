/- The law FnDemandsPart of the program is true at every input: the call returns true, and each argument reads behind the call as before. Conditions: none. -/
import Derived.Test.YtmidpodoapggnaaDd2
import Derived.WalkKit
import Derived.ProofKit
import Derived.OpenShut
import Derived.ShutString
import Derived.ChangeOld
import Derived.Below
import Derived.IntWalk
namespace Go.Proofs.Ytmidpodoapggnaa
open Go.RowKit
set_option linter.unusedVariables false
set_option linter.unusedSimpArgs false

def cutE {α : Type} (p : Nat → α) (k : Nat) : Nat → α := fun i => if i < k then p i else p (i + 1)
theorem cut_row {w : World} {e : TypeId} {lo hi n c k mm : Nat} {A : Option Addr} {p : Nat → Dm} {f0 : Nat → Value} (hk : k < n) (hmm : mm = n - 1) (h : RowOwn e w lo hi A mm c 4 (catF (k * 4) (catF (0 * 4) f0 fun j => DmF p (0 * 4 + j)) fun j => DmF p ((k + 1) * 4 + j))) :
    RowOwn e w lo hi A (n - 1) c 4 (DmF (cutE p k)) := by
  subst hmm
  refine RowOwn.congr h fun j hj => ?_
  have hd := Nat.div_add_mod j 4
  have hm := Nat.mod_lt j (show 0 < 4 by decide)
  unfold catF DmF RowF cutE
  by_cases h1 : j < k * 4
  · rw [if_pos h1, if_neg (by omega), if_pos (by omega)]
    simp
  · rw [if_neg h1, if_neg (by omega)]
    show DmC (p (((k + 1) * 4 + (j - k * 4)) / 4)) (((k + 1) * 4 + (j - k * 4)) % 4) = _
    rw [show ((k + 1) * 4 + (j - k * 4)) / 4 = j / 4 + 1 by omega, show ((k + 1) * 4 + (j - k * 4)) % 4 = j % 4 by omega]
theorem same_row {w : World} {e : TypeId} {lo hi n c : Nat} {A : Option Addr} {p : Nat → Dm} {f0 : Nat → Value} (h : RowOwn e w lo hi A (0 + n) c 4 (catF (0 * 4) f0 (DmF p))) : RowOwn e w lo hi A n c 4 (DmF p) := by
  rw [Nat.zero_add] at h
  refine RowOwn.congr h fun j hj => ?_
  unfold catF
  rw [if_neg (by omega)]
  simp
theorem low_row (p : Nat → Dm) (K : Nat) (x : Int) : ∀ j, updF (DmF p) (K * 4 + 1) (.int .i64 x) j = DmF (updE p K ⟨(p K).w, x, (p K).m, (p K).h⟩) j := by
  refine RowF_put (sz := 4) (C := DmC) (q := p) (k := K) (x := ⟨(p K).w, x, (p K).m, (p K).h⟩) (f := updF (DmF p) (K * 4 + 1) (.int .i64 x)) (by decide) ?_ ?_
  · intro r hr
    rcases (by omega : r = 0 ∨ r = 1 ∨ r = 2 ∨ r = 3) with rfl | rfl | rfl | rfl
    · exact (if_neg (by omega)).trans (RowF_at (sz := 4) (C := DmC) (q := p) (k := K) (r := 0) (by decide))
    · exact if_pos rfl
    · exact (if_neg (by omega)).trans (RowF_at (sz := 4) (C := DmC) (q := p) (k := K) (r := 2) (by decide))
    · exact (if_neg (by omega)).trans (RowF_at (sz := 4) (C := DmC) (q := p) (k := K) (r := 3) (by decide))
  · exact fun i hi => if_neg (by omega)
theorem own_some {e : TypeId} {w : World} {lo hi n c sz : Nat} {A : Option Addr} {f : Nat → Value} (h : RowOwn e w lo hi A n c sz f) (hn : 0 < n) :
    ∃ g, A = some ⟨g, 0, none⟩ ∧ lo ≤ g ∧ g < hi ∧ g < w.heap.size ∧ n ≤ c ∧ (∀ j, w.frozen? ⟨g, j, none⟩ = false) ∧ ∀ j, j < n * sz → w.cell? ⟨g, j, none⟩ = some (f j) := by
  rcases RowOwn.cases h with ⟨_, e, _⟩ | h
  · omega
  · exact h
theorem dm_one (d : Dm) (r : Nat) : (DmC d r).oneCell' = true := by
  match r with
  | 0 => rfl
  | 1 => rfl
  | 2 => rfl
  | _ + 3 => rfl
theorem cut_ok {n k : Nat} {p : Nat → Dm} (h : DmsOk n p) (hk : k < n) : DmsOk (n - 1) (cutE p k) := by
  refine ⟨by have := h.1; omega, fun i hi => ?_⟩
  unfold cutE
  split
  · exact h.2 i (by omega)
  · exact h.2 (i + 1) (by omega)
theorem upd_bad {n k : Nat} {p : Nat → Dm} (hk : k < n) {d : Dm} (hd : d.l = d.m) : ¬ DmsOk n (updE p k d) := by
  intro h
  have := h.2 k hk
  unfold updE at this
  rw [if_pos rfl] at this
  unfold DmOk at this
  omega
set_option maxRecDepth 100000 in
set_option maxHeartbeats 4000000 in
theorem walk_FnDemandsPart (A : Option Addr) (n c : Nat) (B : Option Addr) (n2 c2 : Nat) (w : World) (h : IsInts .u8 w A n c) (h2 : IsInts .u8 w B n2 c2) :
    Calls Try.prog 11 #[.slice A n c, .slice B n2 c2] w fun e w' => e = .returned (.bool true) ∧ Below w.heap.size w w' := by
  have H := Lib.hid h
  clear h h2
  by_cases hn0 : 1048576 < n
  · go_enter Try.func11, Try.ntmps11
    go_wp2_with fail
    go_ret
    exact ⟨rfl, Below.refl _ _⟩
  · have hn : n ≤ 1048576 := by omega
    by_cases hn1 : 1048576 < n2
    · go_enter Try.func11, Try.ntmps11
      go_wp2_with fail
      go_ret
      exact ⟨rfl, Below.refl _ _⟩
    · have hn2 : n2 ≤ 1048576 := by omega
      clear hn0 hn1
      obtain ⟨i0, q1, q2, q3, q4⟩ := info_parts info_dm
      go_enter Try.func11, Try.ntmps11
      go_wp2_with fail
      refine (draw_dms _ A n c (H.out.below (by repeat (first | (with_reducible exact Below.refl _ _) | (with_reducible refine Bal ?_ _) | (with_reducible refine Below.drew ?_) | (with_reducible refine below_drewN ?_ _) | (with_reducible refine Bset ?_ ?_ _; focus (first | (with_reducible exact Nat.le_refl _) | (simp; done) | (simp; omega) | omega)) | (with_reducible refine Bt ?_ (by assumption)) | (with_reducible refine Bp (g := g) ?_ (by assumption) (by assumption))))) hn).mono ?_
      rintro e w1 ⟨A1, m, c1, p, hm7, hO1, rfl, hb1⟩
      obtain ⟨hc1, hf1⟩ := bcell hb1
      have hy1 := hb1.size
      try simp at hy1
      have hmn : m ≤ 1048576 := by omega
      have HO := Lib.hid hO1
      have HR := Lib.hid hO1.row
      clear hO1
      have hi := fun W h1 h2 => idms_any W w.heap.size w1.heap.size A1 m c1 p h1 h2 hmn
      have hs := fun W h1 h2 => sdms_any W w.heap.size w1.heap.size A1 m c1 p h1 h2 hmn
      by_cases hv : DmsOk m p
      · rw [show dmsB m p = true from decide_eq_true hv] at hi hs
        have HI := Lib.hid hi
        have HS := Lib.hid hs
        have HV := Lib.hid hv
        clear hi hs hv
        by_cases hm0 : m = 0
        · subst hm0
          go_wp2_with fail
          refine (HI.out _ (HR.out.below (Nat.le_refl _) (by repeat (first | (with_reducible exact Below.refl _ _) | (with_reducible refine Bal ?_ _) | (with_reducible refine Below.drew ?_) | (with_reducible refine below_drewN ?_ _) | (with_reducible refine Bset ?_ ?_ _; focus (first | (with_reducible exact Nat.le_refl _) | (simp; done) | (simp; omega) | omega)) | (with_reducible refine Bt ?_ (by assumption)) | (with_reducible refine Bp (g := g) ?_ (by assumption) (by assumption))))) (by first | exact Nat.le_refl _ | (simp; done) | (simp; omega) | omega)).mono ?_
          rintro e w2 ⟨rfl, hb2⟩
          obtain ⟨hc2, hf2⟩ := bcell hb2
          have hy2 := hb2.size
          try simp at hy2
          first | (have hz2 : w.heap.size < w2.heap.size := by (have := hb2.size; (try simp at this); omega)) | skip
          go_wp2_with fail
          refine (HS.out _ (HR.out.below (Nat.le_refl _) (by repeat (first | (with_reducible exact Below.refl _ _) | (with_reducible refine Bal ?_ _) | (with_reducible refine Below.drew ?_) | (with_reducible refine below_drewN ?_ _) | (with_reducible refine Bset ?_ ?_ _; focus (first | (with_reducible exact Nat.le_refl _) | (simp; done) | (simp; omega) | omega)) | (with_reducible refine Bt ?_ (by assumption)) | (with_reducible refine Bp (g := g) ?_ (by assumption) (by assumption))))) (by first | exact Nat.le_refl _ | (simp; done) | (simp; omega) | omega)).mono ?_
          rintro e w3 ⟨rfl, hb3⟩
          obtain ⟨hc3, hf3⟩ := bcell hb3
          have hy3 := hb3.size
          try simp at hy3
          first | (have hz3 : w.heap.size < w3.heap.size := by (have := hb3.size; (try simp at this); omega)) | skip
          go_wp2_with fail
          go_ret
          go_light
          refine ⟨rfl, ?_⟩
          repeat (first | (with_reducible exact Below.refl _ _) | (with_reducible refine Bal ?_ _) | (with_reducible refine Below.drew ?_) | (with_reducible refine below_drewN ?_ _) | (with_reducible refine Bset ?_ ?_ _; focus (first | (with_reducible exact Nat.le_refl _) | (simp; done) | (simp; omega) | omega)) | (with_reducible refine Bt ?_ (by assumption)) | (with_reducible refine Bp (g := g) ?_ (by assumption) (by assumption)))
        · have hm0' : 0 < m := by omega
          have hmb : ((m : Int) == 0) = false := by simpa using hm0
          obtain ⟨K, hKe, hKm⟩ : ∃ K : Nat, (n2 : Int) % (m : Int) = (K : Int) ∧ K < m := ⟨n2 % m, by omega, Nat.mod_lt _ hm0'⟩
          rcases RowOwn.cases HO.out with ⟨_, e, _⟩ | ⟨g1, rfl, hlo1, hhi1, hgl1, hnc1, hxx, hyy⟩
          · omega
          · clear hxx hyy
            go_wp2_with fail
            refine (HI.out _ (HR.out.below (Nat.le_refl _) (by repeat (first | (with_reducible exact Below.refl _ _) | (with_reducible refine Bal ?_ _) | (with_reducible refine Below.drew ?_) | (with_reducible refine below_drewN ?_ _) | (with_reducible refine Bset ?_ ?_ _; focus (first | (with_reducible exact Nat.le_refl _) | (simp; done) | (simp; omega) | omega)) | (with_reducible refine Bt ?_ (by assumption)) | (with_reducible refine Bp (g := g) ?_ (by assumption) (by assumption))))) (by first | exact Nat.le_refl _ | (simp; done) | (simp; omega) | omega)).mono ?_
            rintro e w2 ⟨rfl, hb2⟩
            obtain ⟨hc2, hf2⟩ := bcell hb2
            have hy2 := hb2.size
            try simp at hy2
            first | (have hz2 : w.heap.size < w2.heap.size := by (have := hb2.size; (try simp at this); omega)) | skip
            go_wp2_with fail
            refine (HS.out _ (HR.out.below (Nat.le_refl _) (by repeat (first | (with_reducible exact Below.refl _ _) | (with_reducible refine Bal ?_ _) | (with_reducible refine Below.drew ?_) | (with_reducible refine below_drewN ?_ _) | (with_reducible refine Bset ?_ ?_ _; focus (first | (with_reducible exact Nat.le_refl _) | (simp; done) | (simp; omega) | omega)) | (with_reducible refine Bt ?_ (by assumption)) | (with_reducible refine Bp (g := g) ?_ (by assumption) (by assumption))))) (by first | exact Nat.le_refl _ | (simp; done) | (simp; omega) | omega)).mono ?_
            rintro e w3 ⟨rfl, hb3⟩
            obtain ⟨hc3, hf3⟩ := bcell hb3
            have hy3 := hb3.size
            try simp at hy3
            first | (have hz3 : w.heap.size < w3.heap.size := by (have := hb3.size; (try simp at this); omega)) | skip
            have HR3 := Lib.hid (HR.out.below (Nat.le_refl _) (show Below w1.heap.size w1 w3 by repeat (first | (with_reducible exact Below.refl _ _) | (with_reducible refine Bal ?_ _) | (with_reducible refine Below.drew ?_) | (with_reducible refine below_drewN ?_ _) | (with_reducible refine Bset ?_ ?_ _; focus (first | (with_reducible exact Nat.le_refl _) | (simp; done) | (simp; omega) | omega)) | (with_reducible refine Bt ?_ (by assumption)) | (with_reducible refine Bp (g := g) ?_ (by assumption) (by assumption)))))
            clear hc2 hf2 hc3 hf3
            have hKc : K ≤ c1 := by omega
            have hKm1 : K + 1 ≤ m := by omega
            have hKc1 : K + 1 ≤ c1 := by omega
            have hKi : (0 : Int) ≤ (K : Int) + 1 := by omega
            have hKj : ((K : Int) + 1).toNat = K + 1 := by omega
            by_cases hkc : c1 = K + 1
            all_goals (
              (try subst hkc)
              have hKi2 : (K : Int) ≤ (K : Int) + 1 := by omega
              have hKm2 : (K : Int) + 1 ≤ (m : Int) := by omega
              have wK : IntKind.i64.wrap ((K : Int) + 1) = (K : Int) + 1 := IntWalk.i64_in _ (by omega)
              go_wp2_with fail
              refine wp_region_mixB (by kernel_rfl) (by kernel_rfl) ?_
              repeat (first
                | (refine mix_skip rfl ?_; have e0 : True := trivial; clear e0; refine mix_putK ?_; intro K hK; go_simp; refine hK _ ?_; clear hK K)
                | (refine mix_readE rfl rfl rfl ?_; apply Exists.intro; refine ⟨fun w' hb' => ?_, ?_⟩; (focus (obtain ⟨hc', hf'⟩ := Old.cells hb'; clear hb'; go_simp; try exact rfl)); have e0 : True := trivial; clear e0; refine mix_putK ?_; intro K hK; go_simp; refine hK _ ?_; clear hK K)
                | (refine mix_pureE rfl rfl ?_; apply Exists.intro; refine ⟨fun w' => ?_, ?_⟩; (focus (go_simp; try exact rfl)); have e0 : True := trivial; clear e0; refine mix_putK ?_; intro K hK; go_simp; refine hK _ ?_; clear hK K)
                | (refine mix_eff rfl rfl ?_; go_wp2_with ((first | (at_builtin; refine wpList_rowAppend _ rfl (.tmp 45) (.tmp 48) _ rfl 53 i0 _ 4 32 Try.underlying49 q1 q2 q3 q4 rfl (by decide) w3.heap.size _ _ 0 0 (DmF fun _ => Dm0) rfl (empty_row _ _ 4 _) _ _ _ K _ _ rfl (((HR3.out.drew).alloc (show w1.heap.size ≤ w3.heap.size by omega) _).part (k := 0) (m := K) (by omega) ?_) ?_ (by unfold maxLen; omega) (by omega) (by simp) ?_; (focus (first | (intro hm' b off e; exfalso; omega) | (intro _ b off e; cases e; simp))); (focus (intro j hj; exact dm_one _ _)); intro A4 c4 w4 hO4 hG4 hL4; rw [Nat.zero_add] at hO4; have hb4 : Below w3.heap.size w3 w4 := Below.grown (((Below.refl _ w3).drew).alloc (Nat.le_refl _) _) hG4 (by simp) (by intro k hk; cases hk; exact Nat.le_refl _); have hz4 := hb4.size) | (at_builtin; go_loud (refine wpList_rowAppend _ rfl (.tmp 49) (.tmp 53) _ rfl 53 i0 _ 4 32 Try.underlying49 q1 q2 q3 q4 rfl (by decide) w3.heap.size _ A4 K c4 _ rfl hO4 _ _ _ _ _ _ rfl ((HR3.out.below (B := w3.heap.size) (by omega) hb4).part (k := K + 1) (by omega) ?_) ?_ (by unfold maxLen; omega) (by omega) (by omega) ?_); (focus (first | (intro hm' b off e; exfalso; omega) | (intro _ b off e; cases e; simp))); (focus (intro j hj; exact dm_one _ _)); intro A5 c5 w5 hO5 hG5 hL5; (first | (generalize hM5 : K + (m - (K + 1)) = M5 at *; have hq : RowOwn _ w5 _ _ A5 M5 _ _ _ := hO5; clear hq) | (generalize hM5 : K + 0 = M5 at *; have hq : RowOwn _ w5 _ _ A5 M5 _ _ _ := hO5; clear hq)); have hb5 : Below w3.heap.size w3 w5 := hb4.grown hG5 hb4.size (fun k hk => (hO4.1.lt k hk).1)))); refine then_mix rfl ?_ ?_; (first | (intro h; have h2 : false = true := h; cases h2) | (intro _; refine Old.mk ?_; repeat (first | (with_reducible exact Below.refl _ _) | (with_reducible refine Bal ?_ _) | (with_reducible refine Below.drew ?_) | (with_reducible refine below_drewN ?_ _) | (with_reducible refine Bset ?_ ?_ _; focus (first | (with_reducible exact Nat.le_refl _) | (simp; done) | (simp; omega) | omega)) | (with_reducible refine Bt ?_ (by assumption)) | (with_reducible refine Bp (g := g) ?_ (by assumption) (by assumption)))))))
              refine mix_nil ?_
              obtain rfl : M5 = m - 1 := by omega
              have hX := Lib.hid (cut_row hKm rfl hO5)
              have HR5 := Lib.hid (HR3.out.below (B := w3.heap.size) (by omega) hb5)
              have hz5 := hb5.size
              clear hO4 hO5 hG4 hG5 hL4 hL5 hb4 wK hKi hKj hKm2 hKi2
              go_wp2_with (at_builtin; refine wpList_rowAppend _ rfl (.tmp 55) (.tmp 56) _ rfl 53 i0 _ 4 32 Try.underlying49 q1 q2 q3 q4 rfl (by decide) w5.heap.size _ _ 0 0 (DmF fun _ => Dm0) rfl (empty_row _ _ 4 _) _ _ _ m _ _ rfl (HR5.out.alloc (by omega) _) ?_ (by unfold maxLen; omega) (by omega) (by simp) ?_; (focus (intro j hj; exact dm_one _ _)); intro A6 c6 w6 hO6 hG6 hL6; have hb6 : Below w5.heap.size w5 w6 := Below.grown ((Below.refl _ w5).alloc (Nat.le_refl _) _) hG6 (by simp) (by intro k hk; cases hk; exact Nat.le_refl _); have hz6 := hb6.size; have hY := Lib.hid (same_row hO6); obtain ⟨g6, rfl, hlo6, hhi6, hgl6, hnc6, hfz6, hcl6⟩ := own_some hY.out hm0'; have y1 := hcl6 (K * 4 + 1) (by omega); have y2 := hcl6 (K * 4 + 2) (by omega); have f1 := hfz6 (K * 4 + 1); have e2 : DmF p (K * 4 + 2) = .int .i64 (p K).m := RowF_at (r := 2) (by decide); rw [e2] at y2; generalize DmF p (K * 4 + 1) = yy at y1; clear hcl6 hfz6 hO6 hG6 hL6 e2)
              have hX6 := Lib.hid ((hX.out.row.below (Nat.le_refl _) hb6).setC (p := ⟨g6, K * 4 + 1, none⟩) (by right; show w5.heap.size ≤ g6; omega) (.int .i64 (p K).m))
              have hY6 := Lib.hid ((hY.out.store (K * 4 + 1) (.int .i64 (p K).m)).congr (fun j _ => low_row p K (p K).m j))
              have hxv := fun W h1 h2 => idms_any W w3.heap.size w5.heap.size A5 (m - 1) c5 (cutE p K) h1 h2 (by omega)
              have hyv := fun W h1 h2 => idms_any W w5.heap.size w6.heap.size (some ⟨g6, 0, none⟩) m c6 (updE p K ⟨(p K).w, (p K).m, (p K).m, (p K).h⟩) h1 h2 hmn
              rw [show dmsB (m - 1) (cutE p K) = true from decide_eq_true (cut_ok HV.out hKm)] at hxv
              rw [show dmsB m (updE p K ⟨(p K).w, (p K).m, (p K).m, (p K).h⟩) = false from decide_eq_false (upd_bad hKm rfl)] at hyv
              have HXV := Lib.hid hxv
              have HYV := Lib.hid hyv
              clear hxv hyv
              have hgg : w5.heap.size ≤ g6 := hlo6
              have hWY : Below w5.heap.size w5 (w6.setCell ⟨g6, K * 4 + 1, none⟩ (.int .i64 (p K).m)) := hb6.setCell hgg _
              clear hM5
              refine (HXV.out _ hX6.out (by first | exact Nat.le_refl _ | (simp; done) | (simp; omega) | omega)).mono ?_
              rintro e w7 ⟨rfl, hb7⟩
              have hz7 := hb7.size
              have hY7 := Lib.hid (hY6.out.row.below (by simp [World.setCell]) hb7)
              (try simp [World.setCell] at hz7)
              go_wp2_with fail
              refine (HYV.out _ hY7.out (by omega)).mono ?_
              rintro e w8 ⟨rfl, hb8⟩
              have hz8 := hb8.size
              go_wp2_with fail
              go_ret
              go_light
              refine ⟨rfl, ?_⟩
              have hF : Below w1.heap.size w1 w3 := by repeat (first | (with_reducible exact Below.refl _ _) | (with_reducible refine Bal ?_ _) | (with_reducible refine Below.drew ?_) | (with_reducible refine below_drewN ?_ _) | (with_reducible refine Bset ?_ ?_ _; focus (first | (with_reducible exact Nat.le_refl _) | (simp; done) | (simp; omega) | omega)) | (with_reducible refine Bt ?_ (by assumption)) | (with_reducible refine Bp (g := g) ?_ (by assumption) (by assumption)))
              have hF5 : Below w1.heap.size w1 w5 := Bt hF hb5
              have hF6 : Below w1.heap.size w1 (w6.setCell ⟨g6, K * 4 + 1, none⟩ (.int .i64 (p K).m)) := hF5.trans (hWY.mono (by have := hF5.size; omega))
              have hF7 := Bt hF6 hb7
              exact Bt hb1 (Bt hF7 hb8))
      · rw [show dmsB m p = false from decide_eq_false hv] at hi hs
        have HI := Lib.hid hi
        have HS := Lib.hid hs
        clear hi hs hv
        go_wp2_with fail
        refine (HI.out _ (HR.out.below (Nat.le_refl _) (by repeat (first | (with_reducible exact Below.refl _ _) | (with_reducible refine Bal ?_ _) | (with_reducible refine Below.drew ?_) | (with_reducible refine below_drewN ?_ _) | (with_reducible refine Bset ?_ ?_ _; focus (first | (with_reducible exact Nat.le_refl _) | (simp; done) | (simp; omega) | omega)) | (with_reducible refine Bt ?_ (by assumption)) | (with_reducible refine Bp (g := g) ?_ (by assumption) (by assumption))))) (by first | exact Nat.le_refl _ | (simp; done) | (simp; omega) | omega)).mono ?_
        rintro e w2 ⟨rfl, hb2⟩
        obtain ⟨hc2, hf2⟩ := bcell hb2
        have hy2 := hb2.size
        try simp at hy2
        first | (have hz2 : w.heap.size < w2.heap.size := by (have := hb2.size; (try simp at this); omega)) | skip
        go_wp2_with fail
        refine (HS.out _ (HR.out.below (Nat.le_refl _) (by repeat (first | (with_reducible exact Below.refl _ _) | (with_reducible refine Bal ?_ _) | (with_reducible refine Below.drew ?_) | (with_reducible refine below_drewN ?_ _) | (with_reducible refine Bset ?_ ?_ _; focus (first | (with_reducible exact Nat.le_refl _) | (simp; done) | (simp; omega) | omega)) | (with_reducible refine Bt ?_ (by assumption)) | (with_reducible refine Bp (g := g) ?_ (by assumption) (by assumption))))) (by first | exact Nat.le_refl _ | (simp; done) | (simp; omega) | omega)).mono ?_
        rintro e w3 ⟨rfl, hb3⟩
        obtain ⟨hc3, hf3⟩ := bcell hb3
        have hy3 := hb3.size
        try simp at hy3
        first | (have hz3 : w.heap.size < w3.heap.size := by (have := hb3.size; (try simp at this); omega)) | skip
        go_wp2_with fail
        go_ret
        go_light
        refine ⟨rfl, ?_⟩
        repeat (first | (with_reducible exact Below.refl _ _) | (with_reducible refine Bal ?_ _) | (with_reducible refine Below.drew ?_) | (with_reducible refine below_drewN ?_ _) | (with_reducible refine Bset ?_ ?_ _; focus (first | (with_reducible exact Nat.le_refl _) | (simp; done) | (simp; omega) | omega)) | (with_reducible refine Bt ?_ (by assumption)) | (with_reducible refine Bp (g := g) ?_ (by assumption) (by assumption)))

end Go.Proofs.Ytmidpodoapggnaa
namespace Go.Proofs.Ytmidpodoapggnaa.fnDemandsPart
open Go.ChangeShapes Go.WideShapes Go.ChangeAt Go.RowKit
set_option linter.unusedVariables false

theorem own : ownKnob Try.prog.godebug = none := by kernel_rfl
theorem laidOut : laidOutB Try.prog = true := by kernel_rfl

set_option maxRecDepth 100000 in
theorem lifted (os : Os) (started : os.Started) (H : Type) (enc : TypeId × Value → H) :
    ReturnsInHanded {} Try.checked os 11 .any (Rows.fnDemandsPartSpec.pre6 enc Try.prog Try.f11 Rows.fnDemandsPartRow.domain false) (Rows.fnDemandsPartSpec.post enc Try.prog Try.f11 false true false false) := by
  refine returnsInHanded_of_change (C := Try.checked) own started (by kernel_rfl) Try.func11
    (ChangeSpec.witness6 (enc := enc) (C := Try.checked) false ⟨#[], #[.slice none 0 0, .slice none 0 0], []⟩ 8 (by kernel_rfl) (by kernel_rfl) (by kernel_rfl) (by kernel_rfl)) ?_
  intro W base args ds gs before hval0 hW hcnd _
  have hval : ∀ (j : Nat) t v, Try.f11.params[j]? = some t → args[j]? = some v → Value.okWide Try.prog W .any base t v := hval0
  have hW' := hW
  obtain ⟨p, q, hA0, hV, rfl, hfz, hnd⟩ := hW
  have hA : DataW.TrodAll enc Try.prog W 0 (fun _ => true) true Try.f11.params.toList args.toList ds p := hA0
  rw [Try.params11] at hA hval
  obtain ⟨v0, vs0, d0, ds0, p0, q0, hargs, rfl, rfl, h0, r0⟩ := trodAll_cons hA
  obtain ⟨v1, vs1, d1, ds1, p1, q1, rfl, rfl, rfl, h1, r1⟩ := trodAll_cons r0
  obtain ⟨rfl, rfl, rfl⟩ := trodAll_nil r1
  obtain rfl : args = #[v0, v1] := by cases args; simp_all
  obtain ⟨rfl, rfl⟩ := trodVars_none hV
  have k0 := h0
  have lt0 : ∀ x ∈ p0, x.block < W.heap.size := by obtain ⟨m, hm⟩ := k0; exact DataW.trod_lt m _ _ _ hm
  obtain ⟨a0, n0, c0, rfl, w0⟩ := open_code (hval 0 22 v0 rfl rfl) h0
  have k1 := h1
  have lt1 : ∀ x ∈ p1, x.block < W.heap.size := by obtain ⟨m, hm⟩ := k1; exact DataW.trod_lt m _ _ _ hm
  obtain ⟨a1, n1, c1, rfl, w1⟩ := open_code (hval 1 22 v1 rfl rfl) h1
  clear hA0 hval0
  refine (walk_FnDemandsPart a0 n0 c0 a1 n1 c1 W w0 w1).mono fun e W' ⟨he, bel⟩ => ?_
  subst he
  exact ⟨_, rfl, _, _, _, [], _, [], hW', trodAll_mk1 (shut_bool Try.underlying4 _), (trodAll_cons_mk (Below.trod laidOut (by kernel_rfl) (of_decide_eq_true (by kernel_rfl)) k0 bel lt0) (trodAll_cons_mk (Below.trod laidOut (by kernel_rfl) (of_decide_eq_true (by kernel_rfl)) k1 bel lt1) trodAll_mk0)), rfl, bel.frame _, fun h => by cases h⟩

theorem over : Rows.fnDemandsPartRow.holds Try.pinned (OpenSpec.ofChange Rows.fnDemandsPartSpec) :=
  OpenClaim.holds_of_wide 11 Try.f11 rfl rfl rfl rfl rfl rfl rfl ⟨rfl, rfl, rfl, rfl, rfl⟩ rfl rfl rfl rfl rfl (by kernel_rfl) Try.func11 (by kernel_rfl)
    (of_decide_eq_true (by kernel_rfl)) (by unfold Func.isWrapper; first | (rw [if_pos (by decide +kernel)]; kernel_rfl) | (rw [if_neg (by decide +kernel)]; exact ⟨rfl, rfl⟩))
    (fun os started H enc _ => lifted os started H enc)

/-- The statement. -/
theorem proved : Rows.FnDemandsPartSaid := over
#print axioms proved
end Go.Proofs.Ytmidpodoapggnaa.fnDemandsPart
