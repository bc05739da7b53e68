/- The law FnRoomPart of the program is true at every input: the call returns true, and each argument reads behind the call as before. Conditions: none. -/
import Derived.Test.YtelcclhaepfmgaaRlx
import Derived.WalkKit
import Derived.ProofKit
import Derived.OpenShut
import Derived.ShutString
import Derived.ChangeOld
import Derived.Below
import Derived.IntWalk
import Derived.Deep.DeepCutAuto
namespace Go.Proofs.Ytelcclhaepfmgaa
open Go.RowKit
set_option linter.unusedVariables false
set_option linter.unusedSimpArgs false

def dupM (M : Nat → Mb) (k : Nat) : Nat → Mb := fun i => if i < k + 1 then M i else M (i - 1)
theorem dup_row {w : World} {e : TypeId} {lo hi n c k : Nat} {A : Option Addr} {M : Nat → Mb} {f0 : Nat → Value} (hk : k < n) (h : RowOwn e w lo hi A (n + 1) c 3 (catF ((k + 1) * 3) (catF (0 * 3) f0 (MbF M)) fun j => MbF M (k * 3 + j))) : RowOwn e w lo hi A (n + 1) c 3 (MbF (dupM M k)) := by
  refine RowOwn.congr h fun j hj => ?_
  have hd := Nat.div_add_mod j 3
  have hm := Nat.mod_lt j (show 0 < 3 by decide)
  show (if j < (k + 1) * 3 then (if j < 0 * 3 then f0 j else MbF M (j - 0 * 3)) else MbC (M ((k * 3 + (j - (k + 1) * 3)) / 3)) ((k * 3 + (j - (k + 1) * 3)) % 3)) = MbC (if j / 3 < k + 1 then M (j / 3) else M (j / 3 - 1)) (j % 3)
  by_cases h1 : j < (k + 1) * 3
  · rw [if_pos h1, if_neg (by omega), if_pos (by omega), Nat.zero_mul, Nat.sub_zero]; rfl
  · rw [if_neg h1, if_neg (by omega), show (k * 3 + (j - (k + 1) * 3)) / 3 = j / 3 - 1 by omega, show (k * 3 + (j - (k + 1) * 3)) % 3 = j % 3 by omega]
theorem dup_bad {n k : Nat} {M : Nat → Mb} (hk : k < n) : rmB (n + 1) (plain (dupM M k)) = false := by
  refine decide_eq_false fun h => ?_
  have h1 := (okM_iff.1 h).asc k (k + 1) (by omega) (by omega)
  unfold plain dupM at h1
  rw [if_pos (by omega), if_neg (by omega)] at h1
  exact Int.lt_irrefl _ h1
def selfM (m : Mb) (A : Option Addr) : Mb := ⟨⟨m.p.id, m.p.s, 1, atL [m.p.id]⟩, A, 1⟩
theorem self_bad {n k : Nat} {M : Nat → Mb} {A : Option Addr} (hk : k < n) : rmB n (plain (updE M k (selfM (M k) A))) = false := by
  refine decide_eq_false fun h => ?_
  have h1 := (h.2 k hk).2.1
  unfold plain updE at h1
  rw [if_pos rfl] at h1
  exact (h1 0 (by show 0 < 1; omega)).1 rfl
theorem self_row (M : Nat → Mb) (K : Nat) (A : Option Addr) : ∀ j, updF (MbF M) (K * 3 + 2) (.slice A 1 1) j = MbF (updE M K (selfM (M K) A)) j := by
  refine RowF_put (sz := 3) (C := MbC) (q := M) (k := K) (x := selfM (M K) A) (f := updF (MbF M) (K * 3 + 2) (.slice A 1 1)) (by decide) ?_ ?_
  · intro r hr
    rcases (by omega : r = 0 ∨ r = 1 ∨ r = 2) with rfl | rfl | rfl
    · exact (if_neg (by omega)).trans (RowF_at (sz := 3) (C := MbC) (q := M) (k := K) (r := 0) (by decide))
    · exact (if_neg (by omega)).trans (RowF_at (sz := 3) (C := MbC) (q := M) (k := K) (r := 1) (by decide))
    · exact if_pos rfl
  · exact fun i hi => if_neg (by omega)
theorem own_someR {e : TypeId} {w : World} {lo hi n c sz : Nat} {A : Option Addr} {f : Nat → Value} (h : RowOwn e w lo hi A n c sz f) (hn : 0 < n) :
    ∃ g, A = some ⟨g, 0, none⟩ ∧ lo ≤ g ∧ g < hi ∧ g < w.heap.size ∧ n ≤ c ∧ (∀ j, w.frozen? ⟨g, j, none⟩ = false) ∧ ∀ j, j < n * sz → w.cell? ⟨g, j, none⟩ = some (f j) := by
  rcases RowOwn.cases h with ⟨_, e, _⟩ | h
  · omega
  · exact h
set_option maxRecDepth 100000 in
set_option maxHeartbeats 16000000 in
theorem walk_FnRoomPart (A : Option Addr) (n c : Nat) (B : Option Addr) (n2 c2 : Nat) (w : World) (h : IsInts .u8 w A n c) (h2 : IsInts .u8 w B n2 c2) :
    Calls Try.prog 3 #[.slice A n c, .slice B n2 c2] w fun e w' => e = .returned (.bool true) ∧ Below w.heap.size w w' := by
  have H := Lib.hid h
  clear h h2
  by_cases hn0 : 1048576 < n
  · go_enter Try.func3, Try.ntmps3
    go_wp2_with fail
    go_ret
    exact ⟨rfl, Below.refl _ _⟩
  have hn : n ≤ 1048576 := by omega
  by_cases hn1 : 1048576 < n2
  · go_enter Try.func3, Try.ntmps3
    go_wp2_with fail
    go_ret
    exact ⟨rfl, Below.refl _ _⟩
  have hn2 : n2 ≤ 1048576 := by omega
  clear hn0 hn1
  obtain ⟨i0, q1, q2, q3, q4⟩ := info_parts info_mb
  go_enter Try.func3, Try.ntmps3
  go_wp2_with fail
  refine (draw_rmv w A n c H.out hn).mono ?_
  intro e w1 hm
  obtain ⟨B1, c1, n1, M1, v, hnf, hO1, hn6, hbd, rfl, rfl, hb1⟩ := hm.norm
  have RL1 := Lib.hid hO1
  have BD := Lib.hid hbd
  have HB1 := Lib.hid hb1
  have hz1 := hb1.size
  have hnn : n1 ≤ 1048576 := by omega
  have hnc : n1 ≤ c1 := own_leR hO1.row
  clear hm hnf hO1 hbd hb1
  have hi := fun W (hW : RmO w.heap.size B1 n1 c1 M1 W) => irv_any W w.heap.size W.heap.size B1 n1 c1 M1 hW.room (Nat.le_refl _) hnn BD.out
  have hs := fun W (hW : RmO w.heap.size B1 n1 c1 M1 W) => srv_any W w.heap.size W.heap.size B1 n1 c1 M1 hW.room (Nat.le_refl _) hnn BD.out
  by_cases hok : RmOk n1 (plain M1)
  rotate_left
  · rw [show rmB n1 (plain M1) = false from decide_eq_false hok] at hi hs
    have HI := Lib.hid hi
    have HS := Lib.hid hs
    clear hi hs hok
    go_wp2_with fail
    refine (HI.out _ RL1.out).mono ?_
    rintro e w2 ⟨rfl, hb2⟩
    have RL2 := Lib.hid (RL1.out.below hb2)
    have HB2 := Lib.hid (HB1.out.trans (hb2.mono hz1))
    clear hb2 RL1
    go_wp2_with fail
    refine (HS.out _ RL2.out).mono ?_
    rintro e w3 ⟨rfl, hb3⟩
    have HB3 := Lib.hid (HB2.out.trans (hb3.mono HB2.out.size))
    clear hb3
    go_wp2_with fail
    go_ret
    go_light
    exact ⟨rfl, HB3.out⟩
  rw [show rmB n1 (plain M1) = true from decide_eq_true hok] at hi hs
  have HI := Lib.hid hi
  have HS := Lib.hid hs
  clear hi hs hok
  by_cases hm0 : n1 = 0
  · subst hm0
    go_wp2_with fail
    refine (HI.out _ RL1.out).mono ?_
    rintro e w2 ⟨rfl, hb2⟩
    have RL2 := Lib.hid (RL1.out.below hb2)
    have HB2 := Lib.hid (HB1.out.trans (hb2.mono hz1))
    clear hb2 RL1
    go_wp2_with fail
    refine (HS.out _ RL2.out).mono ?_
    rintro e w3 ⟨rfl, hb3⟩
    have HB3 := Lib.hid (HB2.out.trans (hb3.mono HB2.out.size))
    clear hb3
    go_wp2_with fail
    go_ret
    go_light
    exact ⟨rfl, HB3.out⟩
  have hm0' : 0 < n1 := by omega
  have hmb : ((n1 : Int) == 0) = false := by simpa using hm0
  obtain ⟨K, hKe, hKm⟩ : ∃ K : Nat, (n2 : Int) % (n1 : Int) = (K : Int) ∧ K < n1 := ⟨n2 % n1, by omega, Nat.mod_lt _ hm0'⟩
  have hKc : K ≤ c1 := by omega
  have hKm1 : K + 1 ≤ n1 := by omega
  go_wp2_with fail
  refine (HI.out _ RL1.out).mono ?_
  rintro e w2 ⟨rfl, hb2⟩
  have RL2 := Lib.hid (RL1.out.below hb2)
  have HB2 := Lib.hid (HB1.out.trans (hb2.mono hz1))
  clear hb2 RL1
  go_wp2_with fail
  refine (HS.out _ RL2.out).mono ?_
  rintro e w3 ⟨rfl, hb3⟩
  have RL3 := Lib.hid (RL2.out.below hb3)
  have HB3 := Lib.hid (HB2.out.trans (hb3.mono HB2.out.size))
  have hz3 := HB3.out.size
  clear hb3 RL2 HB1 HB2
  go_upto_region 10 with (at_builtin; go_loud (refine wpList_rowAppendN _ rfl (.tmp 45) (.tmp 46) _ rfl 28 i0 _ 3 40 Try.underlying23 q1 q2 q3 q4 rfl (by decide) w3.heap.size _ (some ⟨w3.heap.size, 0, none⟩) 0 0 (MbF M1) rfl (empty_at _ 28 w3.heap.size 3 (MbF M1) (by simp)) _ _ B1 n1 c1 (MbF M1) rfl (RowAt.below (Nat.le_refl _) RL3.out.row.row (by repeat (first | (with_reducible exact Below.refl _ _) | (with_reducible refine Bal ?_ _) | (with_reducible refine Below.drew ?_) | (with_reducible refine below_drewN ?_ _) | (with_reducible refine Bset ?_ ?_ _; focus (first | (with_reducible exact Nat.le_refl _) | (simp; done) | (simp; omega) | omega)) | (with_reducible refine Bt ?_ (by assumption)) | (with_reducible refine Bp (g := g) ?_ (by assumption) (by assumption))))) n1 (Nat.zero_add _) ?_ (by unfold maxLen; omega) (by omega) (by simp) ?_); (focus (intro i hi; exact mb_one _ _)); intro B6 cb6 w6 hO6 hG6 hL6)
  have hb6 : Below w3.heap.size w3 w6 := (Ba w3 _).grown hG6 (by simp) (fun g hg => by cases hg; exact Nat.le_refl _)
  have hz6 := hb6.size
  have hx6 := cat0 hO6
  obtain ⟨g6, rfl, hlo6, -, hgl6, hnc6, hfz6, hcl6⟩ := own_someR hx6 hm0'
  have HX6 := Lib.hid hx6
  have y0 := hcl6 (K * 3) (by omega)
  have y2 := hcl6 (K * 3 + 2) (by omega)
  have f2 := hfz6 (K * 3 + 2)
  rw [show MbF M1 (K * 3) = .int .i64 (M1 K).p.id from RowF_at (sz := 3) (C := MbC) (q := M1) (k := K) (r := 0) (by decide)] at y0
  generalize MbF M1 (K * 3 + 2) = yy at y2
  have HB6 := Lib.hid hb6
  clear hfz6 hcl6 hO6 hG6 hL6 hx6 hb6
  go_upto_region 11 with fail
  obtain ⟨w7, hw7⟩ : ∃ v, v = (w6.setCell ⟨g6, K * 3 + 2, none⟩ (.slice (some ⟨w6.heap.size, 0, none⟩) 1 1)).alloc (.cells #[.int .i64 (M1 K).p.id] 3) := ⟨_, rfl⟩
  rw [← hw7]
  have hb7 : Below w3.heap.size w3 w7 := by rw [hw7]; exact (HB6.out.setCell hlo6 _).alloc (by simp [World.setCell]; omega) _
  have hs7 : w7.heap.size = w6.heap.size + 1 := by rw [hw7]; simp [World.setCell]
  have hx7 : RowOwn 28 w7 w3.heap.size w6.heap.size (some ⟨g6, 0, none⟩) n1 cb6 3 (MbF (updE M1 K (selfM (M1 K) (some ⟨w6.heap.size, 0, none⟩)))) := by
    rw [hw7]
    exact (RowOwn.congr (HX6.out.store (K * 3 + 2) _) (fun j _ => self_row M1 K _ j)).alloc _
  have hone : OwnI w7 w6.heap.size (w6.heap.size + 1) (some ⟨w6.heap.size, 0, none⟩) 1 1 (atL [(M1 K).p.id]) := by
    rw [hw7]
    have h9 := one_own (w6.setCell ⟨g6, K * 3 + 2, none⟩ (.slice (some ⟨w6.heap.size, 0, none⟩) 1 1)) (.int .i64 (M1 K).p.id) 3
    rw [show (w6.setCell ⟨g6, K * 3 + 2, none⟩ (.slice (some ⟨w6.heap.size, 0, none⟩) 1 1)).heap.size = w6.heap.size by simp [World.setCell]] at h9
    exact RowOwn.congr h9 fun j hj => by (obtain rfl : j = 0 := by omega); rfl
  have RL7 := Lib.hid (RL3.out.below hb7)
  have HB7 := Lib.hid (HB3.out.trans (hb7.mono hz3))
  have hzr : w3.heap.size ≤ w7.heap.size := hb7.size
  have HRX := Lib.hid (show Room w7 0 w7.heap.size (some ⟨g6, 0, none⟩) n1 (updE M1 K (selfM (M1 K) (some ⟨w6.heap.size, 0, none⟩))) from ⟨hx7.row.wide (Nat.zero_le _) (by omega), fun i hi => by
    unfold updE
    by_cases e : i = K
    · simp only [if_pos e]
      exact hone.ints.wide (Nat.zero_le _) (by omega)
    · simp only [if_neg e]
      exact (RL7.out.hears i hi).ints.wide (Nat.zero_le _) (Nat.le_refl _)⟩)
  clear hw7 hx7 hone hb7 y0 y2 f2 HX6 HB6 RL3 HB3 hs7
  have wK : IntKind.i64.wrap ((K : Int) + 1) = (K : Int) + 1 := IntWalk.i64_in _ (by omega)
  have hKn : K ≤ n1 := by omega
  have hKc1 : K + 1 ≤ c1 := by omega
  go_upto_region 11 with fail
  refine wp_region_mix (Exc (fun _ => False) w7) (by kernel_rfl) (by kernel_rfl) (Exc.drew (Exc.refl _ _)) ?_
  repeat (first
    | (refine mix_skip rfl ?_; have e0 : True := trivial; clear e0; refine mix_putK ?_; intro K hK; go_simp; refine hK _ ?_; clear hK K)
    | (refine mix_readE rfl rfl rfl ?_; apply Exists.intro; refine ⟨fun w' hb' => ?_, ?_⟩; (focus ((first |exact exec_upto (k := K + 1) (.tmp 59) (.tmp 61) rfl (by rfl) (by rfl) Try.underlying23 q1 q3 hKc1 |exact exec_from (.tmp 64) (.tmp 65) rfl (by rfl) (by rfl) Try.underlying23 q1 q3 hKn hnc))); have e0 : True := trivial; clear e0; refine mix_putK ?_; intro K hK; go_simp; refine hK _ ?_; clear hK K)
    | (refine mix_readE rfl rfl rfl ?_; apply Exists.intro; refine ⟨fun w' hb' => ?_, ?_⟩; (focus (obtain ⟨hc', hf'⟩ := exc_cells hb'; clear hb'; go_simp; try exact rfl)); have e0 : True := trivial; clear e0; refine mix_putK ?_; intro K hK; go_simp; refine hK _ ?_; clear hK K)
    | (refine mix_pureE rfl rfl ?_; apply Exists.intro; refine ⟨fun w' => ?_, ?_⟩; (focus (first | ((first |exact exec_upto (k := K + 1) (.tmp 59) (.tmp 61) rfl (by rfl) (by rfl) Try.underlying23 q1 q3 hKc1 |exact exec_from (.tmp 64) (.tmp 65) rfl (by rfl) (by rfl) Try.underlying23 q1 q3 hKn hnc)) | (go_simp; try exact rfl))); have e0 : True := trivial; clear e0; refine mix_putK ?_; intro K hK; go_simp; refine hK _ ?_; clear hK K)
    | (refine mix_eff rfl rfl ?_; go_wp2_with ((first | (at_builtin; go_loud (refine wpList_rowAppendN _ rfl (.tmp 58) (.tmp 62) _ rfl 28 i0 _ 3 40 Try.underlying23 q1 q2 q3 q4 rfl (by decide) w7.heap.size _ (some ⟨w7.heap.size, 0, none⟩) 0 0 (MbF M1) rfl (empty_at _ 28 w7.heap.size 3 (MbF M1) (by simp)) _ _ B1 (K + 1) c1 (MbF M1) rfl ((RowAt.upto RL7.out.row.row hKm1).below (Nat.le_refl _) (by repeat (first | (with_reducible exact Below.refl _ _) | (with_reducible refine Bal ?_ _) | (with_reducible refine Below.drew ?_) | (with_reducible refine below_drewN ?_ _) | (with_reducible refine Bset ?_ ?_ _; focus (first | (with_reducible exact Nat.le_refl _) | (simp; done) | (simp; omega) | omega)) | (with_reducible refine Bt ?_ (by assumption)) | (with_reducible refine Bp (g := g) ?_ (by assumption) (by assumption))))) (K + 1) (Nat.zero_add _) ?_ (by unfold maxLen; omega) (by omega) (by simp) ?_); (focus (intro i hi; exact mb_one _ _)); intro B8 cb8 w8 hO8 hG8 hL8; have hb8 : Below w7.heap.size w7 w8 := (show Below w7.heap.size w7 _ by repeat (first | (with_reducible exact Below.refl _ _) | (with_reducible refine Bal ?_ _) | (with_reducible refine Below.drew ?_) | (with_reducible refine below_drewN ?_ _) | (with_reducible refine Bset ?_ ?_ _; focus (first | (with_reducible exact Nat.le_refl _) | (simp; done) | (simp; omega) | omega)) | (with_reducible refine Bt ?_ (by assumption)) | (with_reducible refine Bp (g := g) ?_ (by assumption) (by assumption)))).grown hG8 (by simp) (fun g hg => by cases hg; exact Nat.le_refl _); have hE8 : Exc (fun _ => False) w7 w8 := Exc.of_belowR hb8) | (at_builtin; go_loud (refine wpList_rowAppendN _ rfl (.tmp 63) (.tmp 66) _ rfl 28 i0 _ 3 40 Try.underlying23 q1 q2 q3 q4 rfl (by decide) w7.heap.size _ B8 (K + 1) cb8 _ rfl hO8 _ _ (fromA _ c1 K 3) (n1 - K) (c1 - K) _ rfl ((RowAt.from RL7.out.row.row hKn hnc).below (Nat.le_refl _) hb8) (n1 + 1) (by omega) ?_ (by unfold maxLen; omega) (by omega) (by have := hb8.size; omega) ?_); (focus (intro i hi; exact mb_one _ _)); intro B9 cb9 w9 hO9 hG9 hL9; have hb9 : Below w7.heap.size w7 w9 := hb8.grown hG9 hb8.size (fun g hg => (hO8.1.lt g hg).1); have hE9 : Exc (fun _ => False) w7 w9 := Exc.of_belowR hb9))); refine then_mix rfl ?_ ?_; (focus (first | (intro h; have h2 : false = true := h; cases h2) | (intro _; assumption) | (intro _; repeat (first | assumption | (with_reducible exact Exc.refl _ _) | (with_reducible refine Exc.drew ?_) | (with_reducible refine Exc.alloc ?_ _) | (with_reducible refine Exc.setC ?_ ?_ _; focus (simp))))))))
  refine mix_nil ?_
  have HY := Lib.hid (dup_row hKm hO9)
  have RL9 := Lib.hid (RL7.out.below hb9)
  have hz9 := hb9.size
  have HRX9 := Lib.hid ((HRX.out.below (Nat.le_refl _) hb9).wide (Nat.zero_le _) hz9)
  have HRY := Lib.hid (show Room w9 0 w9.heap.size B9 (n1 + 1) (dupM M1 K) from ⟨HY.out.row.wide (Nat.zero_le _) (Nat.le_refl _), fun i hi => by
    unfold dupM
    split
    · exact (RL9.out.hears i (by omega)).ints.wide (Nat.zero_le _) (Nat.le_refl _)
    · exact (RL9.out.hears (i - 1) (by omega)).ints.wide (Nat.zero_le _) (Nat.le_refl _)⟩)
  have HB9 := Lib.hid (HB7.out.trans (hb9.mono HB7.out.size))
  have hx := irv_any w9 0 w9.heap.size (some ⟨g6, 0, none⟩) n1 cb6 _ HRX9.out (Nat.le_refl _) hnn (fun i hi => by
    unfold updE
    split
    · exact (by show 1 ≤ 1048576; omega)
    · exact BD.out i hi)
  rw [self_bad hKm] at hx
  have hy := fun W (hW : Below w9.heap.size w9 W) => irv_any W 0 w9.heap.size B9 (n1 + 1) cb9 _ (HRY.out.below (Nat.le_refl _) hW) hW.size (by omega) (fun i hi => by
    unfold dupM
    split
    · exact BD.out i (by omega)
    · exact BD.out (i - 1) (by omega))
  rw [dup_bad hKm] at hy
  have HXX := Lib.hid hx
  have HYY := Lib.hid hy
  clear hx hy hO8 hO9 hG8 hG9 hL8 hL9 hb8 hb9 hE8 hE9 wK
  go_wp2_with fail
  refine HXX.out.mono ?_
  rintro e w10 ⟨rfl, hb10⟩
  have HB10 := Lib.hid (HB9.out.trans (hb10.mono HB9.out.size))
  have HW10 := Lib.hid hb10
  clear hb10
  go_wp2_with fail
  refine (HYY.out _ HW10.out).mono ?_
  rintro e w11 ⟨rfl, hb11⟩
  have HB11 := Lib.hid (HB10.out.trans (hb11.mono HB10.out.size))
  clear hb11
  go_wp2_with fail
  go_ret
  go_light
  exact ⟨rfl, HB11.out⟩

end Go.Proofs.Ytelcclhaepfmgaa
namespace Go.Proofs.Ytelcclhaepfmgaa.fnRoomPart
open Go.ChangeShapes Go.WideShapes Go.ChangeAt Go.RowKit
set_option linter.unusedVariables false

theorem own : ownKnob Try.prog.godebug = none := by kernel_rfl
theorem laidOut : laidOutB Try.prog = true := by kernel_rfl

set_option maxRecDepth 100000 in
theorem lifted (os : Os) (started : os.Started) (H : Type) (enc : TypeId × Value → H) :
    ReturnsInHanded {} Try.checked os 3 .any (Rows.fnRoomPartSpec.pre6 enc Try.prog Try.f3 Rows.fnRoomPartRow.domain false) (Rows.fnRoomPartSpec.post enc Try.prog Try.f3 false true false false) := by
  refine returnsInHanded_of_change (C := Try.checked) own started (by kernel_rfl) Try.func3
    (ChangeSpec.witness6 (enc := enc) (C := Try.checked) false ⟨#[], #[.slice none 0 0, .slice none 0 0], []⟩ 8 (by kernel_rfl) (by kernel_rfl) (by kernel_rfl) (by kernel_rfl)) ?_
  intro W base args ds gs before hval0 hW hcnd _
  have hval : ∀ (j : Nat) t v, Try.f3.params[j]? = some t → args[j]? = some v → Value.okWide Try.prog W .any base t v := hval0
  have hW' := hW
  obtain ⟨p, q, hA0, hV, rfl, hfz, hnd⟩ := hW
  have hA : DataW.TrodAll enc Try.prog W 0 (fun _ => true) true Try.f3.params.toList args.toList ds p := hA0
  rw [Try.params3] at hA hval
  obtain ⟨v0, vs0, d0, ds0, p0, q0, hargs, rfl, rfl, h0, r0⟩ := trodAll_cons hA
  obtain ⟨v1, vs1, d1, ds1, p1, q1, rfl, rfl, rfl, h1, r1⟩ := trodAll_cons r0
  obtain ⟨rfl, rfl, rfl⟩ := trodAll_nil r1
  obtain rfl : args = #[v0, v1] := by cases args; simp_all
  obtain ⟨rfl, rfl⟩ := trodVars_none hV
  have k0 := h0
  have lt0 : ∀ x ∈ p0, x.block < W.heap.size := by obtain ⟨m, hm⟩ := k0; exact DataW.trod_lt m _ _ _ hm
  obtain ⟨a0, n0, c0, rfl, w0⟩ := open_code (hval 0 22 v0 rfl rfl) h0
  have k1 := h1
  have lt1 : ∀ x ∈ p1, x.block < W.heap.size := by obtain ⟨m, hm⟩ := k1; exact DataW.trod_lt m _ _ _ hm
  obtain ⟨a1, n1, c1, rfl, w1⟩ := open_code (hval 1 22 v1 rfl rfl) h1
  clear hA0 hval0
  refine (walk_FnRoomPart a0 n0 c0 a1 n1 c1 W w0 w1).mono fun e W' ⟨he, bel⟩ => ?_
  subst he
  exact ⟨_, rfl, _, _, _, [], _, [], hW', trodAll_mk1 (shut_bool Try.underlying4 _), (trodAll_cons_mk (Below.trod laidOut (by kernel_rfl) (of_decide_eq_true (by kernel_rfl)) k0 bel lt0) (trodAll_cons_mk (Below.trod laidOut (by kernel_rfl) (of_decide_eq_true (by kernel_rfl)) k1 bel lt1) trodAll_mk0)), rfl, bel.frame _, fun h => by cases h⟩

theorem over : Rows.fnRoomPartRow.holds Try.pinned (OpenSpec.ofChange Rows.fnRoomPartSpec) :=
  OpenClaim.holds_of_wide 3 Try.f3 rfl rfl rfl rfl rfl rfl rfl ⟨rfl, rfl, rfl, rfl, rfl⟩ rfl rfl rfl rfl rfl (by kernel_rfl) Try.func3 (by kernel_rfl)
    (of_decide_eq_true (by kernel_rfl)) (by unfold Func.isWrapper; first | (rw [if_pos (by decide +kernel)]; kernel_rfl) | (rw [if_neg (by decide +kernel)]; exact ⟨rfl, rfl⟩))
    (fun os started H enc _ => lifted os started H enc)

/-- The statement. -/
theorem proved : Rows.FnRoomPartSaid := over
#print axioms proved
end Go.Proofs.Ytelcclhaepfmgaa.fnRoomPart
