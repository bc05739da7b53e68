/- Slices of slices in the exact laws: sizes, copies, equality, marks. -/
import Derived.Test.YtcdpalpoanlbmaaSd
namespace Go.Proofs.Ytcdpalpoanlbmaa
open Go Go.RowKit
set_option linter.unusedVariables false
set_option linter.unusedSimpArgs false
/-- A matrix of the call's own, in the blocks from lo on, below hi; no two rows in one block. -/
structure MtH (lo hi : Nat) (B : Option Addr) (n c : Nat) (S : Nat → Sr) (wx : World) : Prop where
  row : RowOwn 25 wx lo hi B n c 1 (srF S)
  hears : ∀ i, i < n → OwnI wx lo hi (S i).A (S i).n (S i).c (S i).z
  dis : ∀ i, i < n → ∀ g, ownS (S i) = some g → (Value.slice B n c).ownBlock ≠ some g
  two : ∀ i j, i < j → j < n → ∀ g, ownS (S i) = some g → ownS (S j) ≠ some g
theorem MtH.mtx {lo hi n c : Nat} {B : Option Addr} {S : Nat → Sr} {w : World} (h : MtH lo hi B n c S w) : Mtx w lo hi B n S := ⟨h.row.row, fun i hi => (h.hears i hi).ints⟩
theorem MtH.below {lo hi n c B0 : Nat} {B : Option Addr} {S : Nat → Sr} {w w' : World} (hB : hi ≤ B0) (h : MtH lo hi B n c S w) (hb : Below B0 w w') : MtH lo hi B n c S w' :=
  ⟨h.row.below hB hb, fun i hi => (h.hears i hi).below hB hb, h.dis, h.two⟩
theorem MtH.exc {lo hi n c : Nat} {X : Nat → Prop} {B : Option Addr} {S : Nat → Sr} {w w' : World} (h : MtH lo hi B n c S w) (hE : Exc X w w') (hX : ∀ k, lo ≤ k → k < hi → ¬ X k) : MtH lo hi B n c S w' :=
  ⟨h.row.excS hE hX, fun i hi => (h.hears i hi).excS hE hX, h.dis, h.two⟩
theorem MtH.wide {lo hi hi' n c : Nat} {B : Option Addr} {S : Nat → Sr} {w : World} (h : MtH lo hi B n c S w) (h2 : hi ≤ hi') : MtH lo hi' B n c S w :=
  ⟨h.row.wide (Nat.le_refl _) h2, fun i hi => (h.hears i hi).wide (Nat.le_refl _) h2, h.dis, h.two⟩
theorem MtH.congr {lo hi n c : Nat} {B : Option Addr} {S S' : Nat → Sr} {w : World} (h : MtH lo hi B n c S w) (e : ∀ i, i < n → S i = S' i) : MtH lo hi B n c S' w :=
  ⟨h.row.congr (fun j hj => by unfold srF; rw [e j (by omega)]), fun i hi => by rw [← e i hi]; exact h.hears i hi, fun i hi => by rw [← e i hi]; exact h.dis i hi, fun i j hij hj => by rw [← e i (by omega), ← e j hj]; exact h.two i j hij hj⟩
theorem Mtx.exc {lo hi n : Nat} {X : Nat → Prop} {A : Option Addr} {S : Nat → Sr} {w w' : World} (hi' : hi ≤ w.heap.size) (h : Mtx w lo hi A n S) (hE : Exc X w w') (hX : ∀ k, lo ≤ k → k < hi → ¬ X k) : Mtx w' lo hi A n S :=
  ⟨h.1.keep fun b o h1 h2 => hE.cell (by omega) (hX b h1 h2), fun i hi2 => (h.2 i hi2).keep fun b o h1 h2 => hE.cell (by omega) (hX b h1 h2)⟩
/-- The same lists in other places. -/
def cpS (S : Nat → Sr) (a : Nat → Option Addr) (d : Nat → Nat) : Nat → Sr := fun i => ⟨a i, (S i).n, d i, (S i).z⟩
theorem runT_cp (S : Nat → Sr) (a : Nat → Option Addr) (d : Nat → Nat) : ∀ k, runT (cpS S a d) k = runT S k
  | 0 => rfl
  | k + 1 => by
    unfold runT
    rw [runT_cp S a d k]
    rfl
theorem runL_cp (S : Nat → Sr) (a : Nat → Option Addr) (d : Nat → Nat) : ∀ k, runL (cpS S a d) k = runL S k
  | 0 => rfl
  | k + 1 => by unfold runL; rw [runL_cp S a d k, runT_cp S a d (k + 1)]
theorem runR_cp (n : Nat) (S : Nat → Sr) (a : Nat → Option Addr) (d : Nat → Nat) : runR n (cpS S a d) = runR n S := by
  unfold runR
  by_cases h : RunOk n S
  · rw [if_pos h, if_pos (show RunOk n (cpS S a d) from h), runL_cp]
  · rw [if_neg h, if_neg (show ¬ RunOk n (cpS S a d) from h)]
/-- How many numbers the first k rows hold. -/
def sumS (S : Nat → Sr) : Nat → Nat
  | 0 => 0
  | k + 1 => sumS S k + (S k).n
theorem sumS_le (S : Nat → Sr) : ∀ {k n : Nat}, k ≤ n → sumS S k ≤ sumS S n
  | k, 0, h => by obtain rfl : k = 0 := by omega
                  exact Nat.le_refl _
  | k, n + 1, h => by
    by_cases e : k = n + 1
    · subst e; exact Nat.le_refl _
    · have := sumS_le S (k := k) (n := n) (by omega)
      unfold sumS
      cases k with
      | zero => exact Nat.zero_le _
      | succ k => exact Nat.le_trans this (Nat.le_add_right _ _)
theorem sumS_at (S : Nat → Sr) {k n : Nat} (h : k < n) : sumS S k + (S k).n ≤ sumS S n := sumS_le S (k := k + 1) h
theorem sumS_cp (S : Nat → Sr) (a : Nat → Option Addr) (d : Nat → Nat) : ∀ k, sumS (cpS S a d) k = sumS S k
  | 0 => rfl
  | k + 1 => by unfold sumS; rw [sumS_cp S a d k]; rfl
/-- A row is stored. -/
theorem MtH.put {lo hi n c a g : Nat} {S S' : Nat → Sr} {w : World} {x : Sr} (h : MtH lo hi (some ⟨g, 0, none⟩) n c S w) (ha : a < n) (hA : OwnI w lo hi x.A x.n x.c x.z)
    (hne : ∀ q, ownS x = some q → q ≠ g) (hno : ∀ i, i < n → ∀ q, ownS (S i) = some q → ownS x ≠ some q) (hS : ∀ i, i < n → S' i = if i = a then x else S i) :
    MtH lo hi (some ⟨g, 0, none⟩) n c S' (w.setCell ⟨g, a, none⟩ (srV x)) := by
  have hG : w.grownBy (w.setCell ⟨g, a, none⟩ (srV x)) (some g) := grown_setCell w ⟨g, a, none⟩ _
  have h0 : MtH lo hi (some ⟨g, 0, none⟩) n c (fun i => if i = a then x else S i) (w.setCell ⟨g, a, none⟩ (srV x)) := by
    refine ⟨?_, fun i hi => ?_, fun i hi q hq e => ?_, fun i j hij hj q hq e => ?_⟩
    · refine (h.row.store a (srV x)).congr fun j hj => ?_
      unfold updF srF
      by_cases e : j = a
      · simp [e]
      · simp [e]
    · by_cases e : i = a
      · simp only [if_pos e]
        exact RowOwn.apartS (r := some g) (fun q hq e2 => by cases hq; exact hne _ e2 rfl) hA hG
      · simp only [if_neg e]
        exact RowOwn.apartS (r := some g) (fun q hq e2 => by cases hq; exact h.dis i hi _ e2 rfl) (h.hears i hi) hG
    · cases e
      by_cases e2 : i = a
      · simp only [if_pos e2] at hq; exact hne _ hq rfl
      · simp only [if_neg e2] at hq; exact h.dis i hi _ hq rfl
    · by_cases e1 : i = a
      · simp only [if_pos e1] at hq
        rw [if_neg (by omega)] at e
        exact hno j hj q e hq
      · simp only [if_neg e1] at hq
        by_cases e2 : j = a
        · simp only [if_pos e2] at e
          exact hno i (by omega) q hq e
        · simp only [if_neg e2] at e
          exact h.two i j hij hj q hq e
  exact h0.congr fun i hi => (hS i hi).symm
theorem szI_in (w : World) (A : Option Addr) (n c v : Nat) (h : n ≤ v) (hv : v ≤ 1048576) :
    Calls Try.prog 25 #[.slice A n c, .int .i64 (v : Nat)] w fun e w' => e = .returned (.int .i64 ((v - n : Nat) : Int)) ∧ w = w' := by
  have h1 : ¬ (v : Int) - n < 0 := by omega
  go_enter Try.func25, Try.ntmps25
  go_wp2_with fail
  go_ret
  exact ⟨ret_int (by omega), rfl⟩
theorem szI_out (w : World) (A : Option Addr) (n c v : Nat) (h : v < n) (hv : v ≤ 1048576) (hm : n ≤ 9223372036854775807) :
    Calls Try.prog 25 #[.slice A n c, .int .i64 (v : Nat)] w fun e w' => e = .returned (.int .i64 (-1)) ∧ w = w' := by
  have h1 : (v : Int) - n < 0 := by omega
  go_enter Try.func25, Try.ntmps25
  go_wp2_with fail
  go_ret
  exact ⟨rfl, rfl⟩
set_option maxRecDepth 100000 in
set_option maxHeartbeats 8000000 in
theorem szSS_in (w : World) (lo hi : Nat) (A : Option Addr) (n c : Nat) (S : Nat → Sr) (h : RowAt w lo hi A n 1 (srF S)) (hi' : hi ≤ w.heap.size) (hs : n + sumS S n ≤ 1048576) :
    Calls Try.prog 10 #[.slice A n c, .int .i64 1048576] w fun e w' => (∃ v : Int, 0 ≤ v ∧ e = .returned (.int .i64 v)) ∧ Below w.heap.size w w' := by
  have H := Lib.hid h
  clear h
  have hn : n ≤ 1048576 := by omega
  have hn0 : ¬ (1048576 : Int) - n < 0 := by omega
  go_enter Try.func10, Try.ntmps10
  go_wp2_with fail
  go_loopw [1, 5] (fun l i wr => ∃ (k : Nat) (v : Nat), k ≤ n ∧ i = .int .i64 (k : Nat) ∧ l = .int .i64 (v : Nat) ∧ Hid (v + n + sumS S k = 1048576) ∧ Hid (w = wr)) (fun _ i _ => n - (intOf i).toNat)
  case atStart => exact ⟨0, 1048576 - n, Nat.zero_le _, rfl, (by rw [Int.ofNat_sub hn]; rfl), Lib.hid (by unfold sumS; omega), Lib.hid rfl⟩
  case round =>
    obtain ⟨k, v, hk, rfl, rfl, HV, HB⟩ := hrel
    have hww := HB.out
    subst hww
    by_cases hkn : k < n
    rotate_left
    · obtain rfl : k = n := by omega
      go_wp2_with fail
      go_ret
      exact ⟨⟨_, Int.natCast_nonneg _, rfl⟩, Below.refl _ _⟩
    obtain ⟨b, off, rfl, -, hb2, c0⟩ := Sr_at H.out hkn
    have hbw : b < w.heap.size := by omega
    have hv1 : v ≤ 1048576 := by have := HV.out; omega
    have hat := sumS_at S hkn
    have hmv : (S k).n ≤ v := by have := HV.out; omega
    go_wp2_with fail
    refine (szI_in _ _ _ _ v hmv hv1).mono ?_
    rintro e w2 ⟨rfl, rfl⟩
    have hz : ¬ ((v - (S k).n : Nat) : Int) < 0 := by omega
    go_wp2_with fail
    go_roundw
    case rel => exact ⟨k + 1, v - (S k).n, by omega, by go_num, rfl, Lib.hid (by have := HV.out; unfold sumS; omega), Lib.hid (by first | trivial | rfl)⟩
    case measure => simp [intOf]; omega
set_option maxRecDepth 100000 in
set_option maxHeartbeats 8000000 in
theorem szSS_big (w : World) (A : Option Addr) (n c : Nat) (hn : 1048576 < n) (hm : n ≤ 9223372036854775807) :
    Calls Try.prog 10 #[.slice A n c, .int .i64 1048576] w fun e w' => e = .returned (.int .i64 (-1)) ∧ Below w.heap.size w w' := by
  have hn0 : (1048576 : Int) - n < 0 := by omega
  go_enter Try.func10, Try.ntmps10
  go_wp2_with fail
  go_ret
  exact ⟨rfl, Below.refl _ _⟩
set_option maxRecDepth 100000 in
set_option maxHeartbeats 8000000 in
theorem szSS_out (w : World) (lo hi : Nat) (A : Option Addr) (n c : Nat) (S : Nat → Sr) (h : RowAt w lo hi A n 1 (srF S)) (hi' : hi ≤ w.heap.size) (hn : n ≤ 1048576) (hs : 1048576 < n + sumS S n) (hm : ∀ i, i < n → (S i).n ≤ 9223372036854775807) :
    Calls Try.prog 10 #[.slice A n c, .int .i64 1048576] w fun e w' => e = .returned (.int .i64 (-1)) ∧ Below w.heap.size w w' := by
  have H := Lib.hid h
  clear h
  have hn0 : ¬ (1048576 : Int) - n < 0 := by omega
  go_enter Try.func10, Try.ntmps10
  go_wp2_with fail
  go_loopw [1, 5] (fun l i wr => ∃ (k : Nat) (v : Nat), k ≤ n ∧ i = .int .i64 (k : Nat) ∧ l = .int .i64 (v : Nat) ∧ Hid (v + n + sumS S k = 1048576) ∧ Hid (w = wr)) (fun _ i _ => n - (intOf i).toNat)
  case atStart => exact ⟨0, 1048576 - n, Nat.zero_le _, rfl, (by rw [Int.ofNat_sub hn]; rfl), Lib.hid (by unfold sumS; omega), Lib.hid rfl⟩
  case round =>
    obtain ⟨k, v, hk, rfl, rfl, HV, HB⟩ := hrel
    have hww := HB.out
    subst hww
    by_cases hkn : k < n
    rotate_left
    · obtain rfl : k = n := by omega
      exact absurd HV.out (by omega)
    obtain ⟨b, off, rfl, -, hb2, c0⟩ := Sr_at H.out hkn
    have hbw : b < w.heap.size := by omega
    have hv1 : v ≤ 1048576 := by have := HV.out; omega
    by_cases hmv : (S k).n ≤ v
    · skip
      go_wp2_with fail
      refine (szI_in _ _ _ _ v hmv hv1).mono ?_
      rintro e w2 ⟨rfl, rfl⟩
      have hz : ¬ ((v - (S k).n : Nat) : Int) < 0 := by omega
      go_wp2_with fail
      go_roundw
      case rel => exact ⟨k + 1, v - (S k).n, by omega, by go_num, rfl, Lib.hid (by have := HV.out; unfold sumS; omega), Lib.hid (by first | trivial | rfl)⟩
      case measure => simp [intOf]; omega
    · have hmk := hm k hkn
      go_wp2_with fail
      refine (szI_out _ _ _ _ v (by omega) hv1 hmk).mono ?_
      rintro e w2 ⟨rfl, rfl⟩
      go_wp2_with fail
      go_ret
      exact ⟨rfl, Below.refl _ _⟩
def SrHas (n : Nat) (S : Nat → Sr) (w : World) (e : Ending) (w' : World) : Prop := ∃ B cb a d, MtH w.heap.size w'.heap.size B n cb (cpS S a d) w' ∧ e = .returned (.slice B n cb) ∧ Below w.heap.size w w'
def midS (S : Nat → Sr) (a : Nat → Option Addr) (d : Nat → Nat) (k : Nat) : Nat → Sr := fun i => if i < k then cpS S a d i else Sr0
def updA (a : Nat → Option Addr) (k : Nat) (x : Option Addr) : Nat → Option Addr := fun i => if i = k then x else a i
def updC (a : Nat → Nat) (k : Nat) (x : Nat) : Nat → Nat := fun i => if i = k then x else a i
theorem midS_next (S : Nat → Sr) (a : Nat → Option Addr) (d : Nat → Nat) (k : Nat) (x : Option Addr) (y i : Nat) : midS S (updA a k x) (updC d k y) (k + 1) i = if i = k then ⟨x, (S k).n, y, (S k).z⟩ else midS S a d k i := by
  unfold midS cpS updA updC
  by_cases e : i = k
  · subst e; simp
  · simp only [if_neg e]
    by_cases e2 : i < k
    · rw [if_pos e2, if_pos (by omega)]
    · rw [if_neg e2, if_neg (by omega)]
set_option maxRecDepth 100000 in
set_option maxHeartbeats 8000000 in
theorem toSS_any (w : World) (lo hi : Nat) (A : Option Addr) (n c : Nat) (S : Nat → Sr) (h : Mtx w lo hi A n S) (hi' : hi ≤ w.heap.size) (hn : n ≤ 1048576) (hb : ∀ i, i < n → (S i).n ≤ 1048576) :
    Calls Try.prog 11 #[.slice A n c] w (SrHas n S w) := by
  obtain ⟨i0, q1, q2, q3, q4⟩ := info_parts info_sr
  have H := Lib.hid h
  have HN := Lib.hid hb
  clear h hb
  go_enter Try.func11, Try.ntmps11
  go_wp2_with (at_make; refine wpList_make_full _ rfl _ _ _ rfl w.heap.size 25 i0 _ 1 Try.underlying23 q1 q2 q3 .i64 .i64 _ _ n rfl rfl rfl rfl (by rw [q4]; omega) (by unfold maxLen; omega) (by first | exact Nat.le_refl _ | simp) ?_; intro w1 hown1 hg1)
  have hst := made_row (sz := 1) (C := fun (x : Sr) (_ : Nat) => srV x) (x := Sr0) rfl (by decide) (fun r hr => by (obtain rfl : r = 0 := by omega); rfl) hown1
  have HS := Lib.hid (show MtH w.heap.size w1.heap.size (some ⟨w.heap.size, 0, none⟩) n n (midS S (fun _ => none) (fun _ => 0) 0) w1 from ⟨hst.congr (fun j hj => rfl), fun i hi => ⟨⟨by simp [midS, Sr0], .inl ⟨rfl, rfl⟩⟩, fun g hg => (by cases hg)⟩, fun i hi g hg => (by cases hg), fun i j _ hj g hg => (by cases hg)⟩)
  have HB1 := Lib.hid ((Below.refl w.heap.size w).grown hg1 (Nat.le_refl _) (by simp))
  have hs1 := hst.2 _ rfl
  clear hst hown1 hg1
  go_loopw [4] (fun i wr => ∃ (k : Nat) (a : Nat → Option Addr) (d : Nat → Nat), k ≤ n ∧ i = .int .i64 (k : Nat) ∧ Hid (MtH w.heap.size wr.heap.size (some ⟨w.heap.size, 0, none⟩) n n (midS S a d k) wr) ∧ w.heap.size < wr.heap.size ∧ Hid (Below w.heap.size w wr)) (fun i _ => n - (intOf i).toNat)
  case atStart => exact ⟨0, _, _, Nat.zero_le _, rfl, HS, hs1, HB1⟩
  case round =>
    obtain ⟨k, a, d, hk, rfl, HO, hs, HB⟩ := hrel
    clear HS HB1 hs1
    by_cases hkn : k < n
    rotate_left
    · obtain rfl : k = n := by omega
      go_wp2_with fail
      go_ret
      exact ⟨_, _, a, d, HO.out.congr (fun i hi => if_pos hi), rfl, HB.out⟩
    have HR := Lib.hid (H.out.1.below hi' HB.out)
    have HZ := Lib.hid ((H.out.2 k hkn).below hi' HB.out)
    obtain ⟨b, off, rfl, -, hb2, c0⟩ := Sr_at HR.out hkn
    have hbw : b < wr.heap.size := by omega
    have hzn := HN.out k hkn
    have hwi : hi ≤ wr.heap.size := by omega
    go_wp2_with fail
    refine (toIntS_any wr lo hi (S k).A (S k).n (S k).c (S k).z HZ.out hwi hzn).mono ?_
    rintro e w2 ⟨B2, cb2, hO2, rfl, hb2'⟩
    have HX := Lib.hid hO2
    have hs2 := hb2'.size
    have HO2 := Lib.hid ((HO.out.below (Nat.le_refl _) hb2').wide hs2)
    have HB2 := Lib.hid (HB.out.trans (hb2'.mono HB.out.size))
    have HMl := Lib.hid (fun i (hi : i < n) q (hq : ownS (midS S a d k i) = some q) => show q < wr.heap.size from ((HO.out.hears i hi).1.lt q hq).2)
    clear hO2 hb2' HO HB HR HZ c0
    rcases RowOwn.cases HO2.out.row with ⟨e, -⟩ | ⟨g, hg, -, -, hgl, -, hfz, hcl⟩
    · cases e
    · obtain rfl : w.heap.size = g := by injection hg with hg; injection hg
      have d0 := hcl k (by omega)
      generalize srF (midS S a d k) k = y0 at d0
      have f0 := hfz k
      clear hcl hfz hg
      go_wp2_with fail
      go_roundw
      case rel => exact ⟨k + 1, updA a k B2, updC d k cb2, by omega, by go_num, Lib.hid (MtH.wide (MtH.put (x := ⟨B2, (S k).n, cb2, (S k).z⟩) HO2.out hkn (OwnI.wide HX.out (by omega) (Nat.le_refl _)) (fun q hq e => by have := (HX.out.1.lt q hq).1; omega) (fun i hi q hq e => by have h1 := HMl.out i hi q hq; have h2 := (HX.out.1.lt q e).1; omega) (fun i hi => midS_next S a d k B2 cb2 i)) (by simp [World.setCell])), by simp [World.setCell]; omega, Lib.hid (HB2.out.setCell (Nat.le_refl _) _)⟩
      case measure => simp [intOf]; omega
set_option maxRecDepth 100000 in
set_option maxHeartbeats 8000000 in
theorem eqSS_same (w : World) {lo hi lo2 hi2 : Nat} {A B : Option Addr} {n c d : Nat} {S S2 : Nat → Sr} (h : Mtx w lo hi A n S) (h2 : Mtx w lo2 hi2 B n S2) (hh : hi ≤ w.heap.size) (hh2 : hi2 ≤ w.heap.size) (hn : n ≤ 1048576) (hb : ∀ i, i < n → (S i).n ≤ 1048576) (he : ∀ i, i < n → (S i).n = (S2 i).n ∧ (S i).z = (S2 i).z) :
    Calls Try.prog 13 #[.slice A n c, .slice B n d] w fun e w' => e = .returned (.bool true) ∧ Below w.heap.size w w' := by
  have H := Lib.hid h
  have H2 := Lib.hid h2
  have HE := Lib.hid he
  have HN := Lib.hid hb
  clear h h2 he hb
  go_enter Try.func13, Try.ntmps13
  go_wp2_with fail
  go_loopw [5] (fun i wr => ∃ k, k ≤ n ∧ i = .int .i64 (k : Nat) ∧ Hid (Below w.heap.size w wr)) (fun i _ => n - (intOf i).toNat)
  case atStart => exact ⟨0, Nat.zero_le _, rfl, Lib.hid (Below.refl _ _)⟩
  case round =>
    obtain ⟨k, hk, rfl, HB⟩ := hrel
    by_cases hkn : k < n
    rotate_left
    · obtain rfl : k = n := by omega
      go_wp2_with fail
      go_ret
      exact ⟨rfl, HB.out⟩
    have hs := HB.out.size
    have HR := Lib.hid (H.out.below hh HB.out)
    have HR2 := Lib.hid (H2.out.below hh2 HB.out)
    obtain ⟨b, off, rfl, -, hb1, c0⟩ := Sr_at HR.out.1 hkn
    obtain ⟨b2, off2, rfl, -, hb2, e0⟩ := Sr_at HR2.out.1 hkn
    obtain ⟨he1, he2⟩ := HE.out k hkn
    rw [← he1] at e0
    have hz := HR2.out.2 k hkn
    rw [← he1, ← he2] at hz
    have HZ := Lib.hid (HR.out.2 k hkn)
    have HZ2 := Lib.hid hz
    clear hz he1 he2 HR HR2
    have hbw : b < wr.heap.size := by omega
    have hbw2 : b2 < wr.heap.size := by omega
    have hzn := HN.out k hkn
    have hq := fun W (hW : Below wr.heap.size wr W) => eqIntS_same W (c := (S k).c) (d := (S2 k).c) (HZ.out.below (by omega) hW) (HZ2.out.below (by omega) hW) (by have := hW.size; omega) (by have := hW.size; omega) hzn
    have HQ := Lib.hid hq
    clear hq
    go_upto_region 6 with fail
    refine wp_region_mix (Exc (fun _ => False) wr) (by kernel_rfl) (by kernel_rfl) (Exc.drew (Exc.refl _ _)) ?_
    repeat (first
      | (refine mix_skip rfl ?_; have e0 : True := trivial; clear e0; refine mix_putK ?_; intro K hK; go_simp; refine hK _ ?_; clear hK K)
      | (refine mix_readE rfl rfl rfl ?_; apply Exists.intro; refine ⟨fun w' hb' => ?_, ?_⟩; (focus (obtain ⟨hc', hf'⟩ := exc_cells hb'; clear hb'; go_simp; try exact rfl)); have e0 : True := trivial; clear e0; refine mix_putK ?_; intro K hK; go_simp; refine hK _ ?_; clear hK K)
      | (refine mix_pureE rfl rfl ?_; apply Exists.intro; refine ⟨fun w' => ?_, ?_⟩; (focus (first | (fail) | (go_simp; try exact rfl))); have e0 : True := trivial; clear e0; refine mix_putK ?_; intro K hK; go_simp; refine hK _ ?_; clear hK K)
      | (refine mix_eff rfl rfl ?_; go_wp2_with ((go_at_call 12; refine (HQ.out _ (Below.refl _ wr).drew).mono ?_; rintro e w6 ⟨rfl, hb6⟩; have hb6 : Below wr.heap.size wr w6 := Below.trans (Below.refl _ wr).drew hb6; have hE6 : Exc (fun _ => False) wr w6 := Exc.of_belowS hb6)); refine then_mix rfl ?_ ?_; (focus (first | (intro h; have h2 : false = true := h; cases h2) | (intro _; assumption) | (intro _; repeat (first | assumption | (with_reducible exact Exc.refl _ _) | (with_reducible refine Exc.drew ?_) | (with_reducible refine Exc.alloc ?_ _) | (with_reducible refine Exc.setC ?_ ?_ _; focus (simp))))))))
    refine mix_nil ?_
    have HB6 := Lib.hid (HB.out.trans (hb6.mono hs))
    clear hb6 hE6
    go_wp2_with fail
    go_roundw
    case rel => exact ⟨k + 1, by omega, by go_num, HB6⟩
    case measure => simp [intOf]; omega
theorem Exc.grownS {X : Nat → Prop} {w w' w2 : World} {r : Option Nat} (h : Exc X w w') (hX : ∀ g, r = some g → X g ∨ w.heap.size ≤ g) (hG : w'.grownBy w2 r) : Exc X w w2 :=
  ⟨hG.os.trans h.os, hG.tape.trans h.tape, hG.output.trans h.output, Nat.le_trans h.size hG.size, fun k hk hx => (hG.block k (Nat.lt_of_lt_of_le hk h.size) (fun e => by rcases hX k e.symm with h1 | h1; exact hx h1; omega)).trans (h.block k hk hx)⟩
set_option maxRecDepth 100000 in
set_option maxHeartbeats 8000000 in
theorem markSS_any (w : World) {lo hi n c : Nat} {B : Option Addr} {S : Nat → Sr} (q : Nat) (h : MtH lo hi B n c S w) (hhi : hi ≤ w.heap.size) (hn : n ≤ 1048576) (hb : ∀ i, i < n → (S i).n ≤ 1048576) (hq : q + sumS S n ≤ 100000000) :
    Calls Try.prog 14 #[.slice B n c, .int .i64 q] w fun e w' => e = .returned (.int .i64 (q + sumS S n : Nat)) ∧ Exc (fun g => lo ≤ g ∧ g < hi) w w' ∧ w'.heap.size = w.heap.size := by
  have HD := Lib.hid h.dis
  have HT := Lib.hid h.two
  have HR0 := Lib.hid h.row
  have HI0 := Lib.hid (show ∀ i, 0 ≤ i → i < n → OwnI w lo hi (S i).A (S i).n (S i).c (S i).z from fun i _ hi => h.hears i hi)
  have HN := Lib.hid hb
  have HM := Lib.hid (show ∀ k, k ≤ n → q + sumS S k ≤ 100000000 from fun k hk => by have := sumS_le S hk; omega)
  clear h hb
  go_enter Try.func14, Try.ntmps14
  go_wp2_with fail
  go_loopw [1, 5] (fun q' i wr => ∃ k E : Nat, k ≤ n ∧ i = .int .i64 (k : Nat) ∧ q' = .int .i64 (E : Nat) ∧ Hid (E = q + sumS S k) ∧ Hid (RowOwn 25 wr lo hi B n c 1 (srF S)) ∧ Hid (∀ i, k ≤ i → i < n → OwnI wr lo hi (S i).A (S i).n (S i).c (S i).z) ∧ Hid (Exc (fun g => lo ≤ g ∧ g < hi) w wr) ∧ Hid (wr.heap.size = w.heap.size)) (fun _ i _ => n - (intOf i).toNat)
  case atStart => exact ⟨0, q, Nat.zero_le _, rfl, rfl, Lib.hid rfl, HR0, HI0, Lib.hid (Exc.refl _ _), Lib.hid rfl⟩
  clear HR0 HI0
  case round =>
    obtain ⟨k, E, hk, rfl, rfl, HE, HR, HI, HX, HS⟩ := hrel
    by_cases hkn : k < n
    rotate_left
    · obtain rfl : k = n := by omega
      have hE := HE.out
      subst hE
      go_wp2_with fail
      go_ret
      exact ⟨rfl, HX.out, HS.out⟩
    have hke := HM.out k hk
    rw [← HE.out] at hke
    have hke1 := HM.out (k + 1) hkn
    have hzn := HN.out k hkn
    obtain ⟨b, off, rfl, hlo, hb2, c0⟩ := Sr_at HR.out.row hkn
    have hbw : b < wr.heap.size := by have := HS.out; omega
    have hqn : E ≤ 1000000000 := by omega
    go_wp2_with fail
    refine (markIntS_any wr E (HI.out k (Nat.le_refl _) hkn) hzn hqn).mono ?_
    rintro e w5 ⟨-, rfl, hG5, hs5⟩
    have HR5 := Lib.hid (RowOwn.apartS (fun g hg e2 => HD.out k hkn g hg e2) HR.out hG5)
    have HI5 := Lib.hid (show ∀ i, k + 1 ≤ i → i < n → OwnI w5 lo hi (S i).A (S i).n (S i).c (S i).z from fun i h1 h2 => RowOwn.apartS (fun g hg e2 => HT.out k i (by omega) h2 g hg e2) (HI.out i (by omega) h2) hG5)
    have HX5 := Lib.hid (HX.out.grownS (fun g hg => Or.inl ⟨((HI.out k (Nat.le_refl _) hkn).1.lt g hg).1, (HI.out k (Nat.le_refl _) hkn).2 g hg⟩) hG5)
    have HS5 := Lib.hid (hs5.trans HS.out)
    have HE5 := Lib.hid (show E + (S k).n = q + (sumS S k + (S k).n) by have := HE.out; omega)
    clear hG5 hs5 HR HI HX HS HE c0 hke1
    obtain ⟨J, hJ⟩ : ∃ J : Nat, J = E + (S k).n := ⟨_, rfl⟩
    rw [show (E : Int) + (S k).n = (J : Nat) by omega]
    rw [← hJ] at HE5
    clear hJ
    go_wp2_with fail
    go_roundw
    case rel => exact ⟨k + 1, J, by omega, by go_num, rfl, HE5, HR5, HI5, HX5, HS5⟩
    case measure => simp [intOf]; omega
end Go.Proofs.Ytcdpalpoanlbmaa
