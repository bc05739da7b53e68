/- Slices of integers: the laws' own helpers over them. -/
import Derived.Test.YtcdpalpoanlbmaaSer
import Derived.Test.YtcdpalpoanlbmaaMix
import Derived.Test.YtcdpalpoanlbmaaRow
import Derived.Deep.Light
namespace Go.Proofs.Ytcdpalpoanlbmaa
open Go Go.RowKit
set_option linter.unusedVariables false
set_option linter.unusedSimpArgs false

def intV (z : Nat → Int) : Nat → Value := fun j => .int .i64 (z j)
/-- The slice at A of n places holds the numbers z. -/
def Ints (w : World) (lo hi : Nat) (A : Option Addr) (n : Nat) (z : Nat → Int) : Prop := RowAt w lo hi A n 1 (intV z)
def OwnI (w : World) (lo hi : Nat) (A : Option Addr) (n c : Nat) (z : Nat → Int) : Prop := RowOwn 3 w lo hi A n c 1 (intV z)
theorem info_int : (Try.prog.info? 3).map (fun i => (i.zero, i.size, i.bytes)) = some (some (.int .i64 0), 1, 8) := by kernel_rfl
section
variable {w w' : World} {lo hi : Nat} {A : Option Addr} {n c : Nat} {z : Nat → Int}
theorem Ints.wide (h : Ints w lo hi A n z) {lo' hi' : Nat} (h1 : lo' ≤ lo) (h2 : hi ≤ hi') : Ints w lo' hi' A n z := RowAt.wide h h1 h2
theorem Ints.below {B : Nat} (hB : hi ≤ B) (h : Ints w lo hi A n z) (hb : Below B w w') : Ints w' lo hi A n z := RowAt.below hB h hb
theorem Ints.only {r : Option Nat} (hw : hi ≤ w.heap.size) (hne : ∀ g, r = some g → g < lo ∨ hi ≤ g) (h : Ints w lo hi A n z) (hg : w.grownBy w' r) : Ints w' lo hi A n z := RowAt.only hw hne h hg
theorem Ints.alloc (hw : hi ≤ w.heap.size) (h : Ints w lo hi A n z) (o : Obj) : Ints (w.alloc o) lo hi A n z := RowAt.alloc hw h o
theorem Ints.drew (h : Ints w lo hi A n z) : Ints w.drew lo hi A n z := h
theorem Ints.drewN (h : Ints w lo hi A n z) (k : Nat) : Ints (w.drewN k) lo hi A n z := h
theorem Ints.setC {p : Addr} (hp : p.block < lo ∨ hi ≤ p.block) (h : Ints w lo hi A n z) (u : Value) : Ints (w.setCell p u) lo hi A n z := RowAt.setC hp h u
theorem Ints.congr {y : Nat → Int} (h : Ints w lo hi A n z) (e : ∀ j, j < n → z j = y j) : Ints w lo hi A n y := RowAt.congr h fun j hj => by unfold intV; rw [e j (by omega)]
theorem Ints.nil (w : World) (lo hi : Nat) (A : Option Addr) (z : Nat → Int) : Ints w lo hi A 0 z := RowAt.nil _ _ _ _ _ _
/-- What place k holds. -/
theorem Ints.at_ (h : Ints w lo hi A n z) {k : Nat} (hk : k < n) : ∃ b off, A = some ⟨b, off, none⟩ ∧ lo ≤ b ∧ b < hi ∧ w.cell? ⟨b, off + k, none⟩ = some (.int .i64 (z k)) := by
  obtain ⟨b, off, h1, h2⟩ := h
  obtain ⟨e, h3, h4⟩ := h1 (by omega)
  exact ⟨b, off, e, h3, h4, h2 k (by omega)⟩
theorem Ints.cell {b off : Nat} (h : Ints w lo hi (some ⟨b, off, none⟩) n z) {k : Nat} (hk : k < n) : w.cell? ⟨b, off + k, none⟩ = some (.int .i64 (z k)) := RowAt.cells h rfl k (by omega)
theorem OwnI.ints (h : OwnI w lo hi A n c z) : Ints w lo hi A n z := RowOwn.row h
theorem OwnI.below {B : Nat} (hB : hi ≤ B) (h : OwnI w lo hi A n c z) (hb : Below B w w') : OwnI w' lo hi A n c z := RowOwn.below hB h hb
theorem OwnI.only {r : Option Nat} (hne : ∀ g, r = some g → g < lo ∨ hi ≤ g) (h : OwnI w lo hi A n c z) (hg : w.grownBy w' r) : OwnI w' lo hi A n c z := RowOwn.only hne h hg
theorem OwnI.alloc (h : OwnI w lo hi A n c z) (o : Obj) : OwnI (w.alloc o) lo hi A n c z := RowOwn.alloc h o
theorem OwnI.drew (h : OwnI w lo hi A n c z) : OwnI w.drew lo hi A n c z := h
theorem OwnI.drewN (h : OwnI w lo hi A n c z) (k : Nat) : OwnI (w.drewN k) lo hi A n c z := h
theorem OwnI.setC {p : Addr} (hp : p.block < lo ∨ hi ≤ p.block) (h : OwnI w lo hi A n c z) (u : Value) : OwnI (w.setCell p u) lo hi A n c z := RowOwn.setC hp h u
theorem OwnI.wide (h : OwnI w lo hi A n c z) {lo' hi' : Nat} (h1 : lo' ≤ lo) (h2 : hi ≤ hi') : OwnI w lo' hi' A n c z := RowOwn.wide h h1 h2
theorem OwnI.congr {y : Nat → Int} (h : OwnI w lo hi A n c z) (e : ∀ j, j < n → z j = y j) : OwnI w lo hi A n c y := RowOwn.congr h fun j hj => by unfold intV; rw [e j (by omega)]
end

def updI (z : Nat → Int) (k : Nat) (x : Int) : Nat → Int := fun j => if j = k then x else z j
theorem OwnI.storeI {w : World} {lo hi n c g : Nat} {z : Nat → Int} (h : OwnI w lo hi (some ⟨g, 0, none⟩) n c z) (k : Nat) (x : Int) : OwnI (w.setCell ⟨g, k, none⟩ (.int .i64 x)) lo hi (some ⟨g, 0, none⟩) n c (updI z k x) :=
  (RowOwn.store h k (.int .i64 x)).congr fun j _ => by
    show (if j = k then Value.int .i64 x else .int .i64 (z j)) = .int .i64 (if j = k then x else z j)
    split <;> rfl
theorem OwnI.cases {w : World} {lo hi n c : Nat} {A : Option Addr} {z : Nat → Int} (h : OwnI w lo hi A n c z) : (A = none ∧ n = 0 ∧ c = 0) ∨ ∃ g, A = some ⟨g, 0, none⟩ ∧ lo ≤ g ∧ g < hi ∧ g < w.heap.size ∧ n ≤ c ∧ (∀ j, w.frozen? ⟨g, j, none⟩ = false) ∧ ∀ j, j < n → w.cell? ⟨g, j, none⟩ = some (.int .i64 (z j)) := by
  rcases RowOwn.cases h with h | ⟨g, h1, h2, h3, h4, h5, h6, h7⟩
  · exact .inl h
  · exact .inr ⟨g, h1, h2, h3, h4, h5, h6, fun j hj => h7 j (by omega)⟩
theorem zero_row {e : TypeId} {w : World} {lo : Nat} {A : Option Addr} {n c : Nat} {z : Nat → Int} (h : w.ownsRow lo e 1 (.slice A n c) n (madeCells (Value.int .i64 0).cells (n * 1)).toList) :
    w.ownsRow lo e 1 (.slice A n c) n ((List.range (n * 1)).map (intV fun j => if j < 0 then z j else 0)) := by
  have : (madeCells (Value.int .i64 0).cells (n * 1)).toList = (List.range (n * 1)).map (intV fun j => if j < 0 then z j else 0) := by
    apply List.ext_getElem?
    intro i
    by_cases h2 : i < n
    · simp [madeCells, Value.cells, intV, h2, Nat.mod_one]
    · simp [madeCells, Value.cells, intV, h2]
  rw [← this]; exact h
/-- A call that hands back new numbers. -/
def GivesI (w : World) (n : Nat) (z : Nat → Int) (e : Ending) (w' : World) : Prop :=
  ∃ A c, OwnI w' w.heap.size w'.heap.size A n c z ∧ e = .returned (.slice A n c) ∧ Below w.heap.size w w'

set_option maxHeartbeats 1000000 in
theorem toIntS_any (w : World) (lo hi : Nat) (A : Option Addr) (n c : Nat) (z : Nat → Int) (h : Ints w lo hi A n z) (hi' : hi ≤ w.heap.size) (hn : n ≤ 1048576) :
    Calls Try.prog 26 #[.slice A n c] w (GivesI w n z) := by
  obtain ⟨i0, q1, q2, q3, q4⟩ := info_parts info_int
  have H := Lib.hid h
  clear h
  go_enter Try.func26, Try.ntmps26
  go_wp2_with (at_make; refine wpList_make_full _ rfl _ _ _ rfl w.heap.size 3 i0 _ 1 Try.underlying25 q1 q2 q3 .i64 .i64 _ _ n rfl rfl rfl rfl (by rw [q4]; omega) (by unfold maxLen; omega) (by first | exact Nat.le_refl _ | simp) ?_; intro w1 hown1 hg1)
  have hst : OwnI w1 w.heap.size w1.heap.size (some ⟨w.heap.size, 0, none⟩) n n (fun j => if j < 0 then z j else 0) := RowOwn.made (zero_row hown1)
  go_loopw [4] (fun i wr => ∃ k, k ≤ n ∧ i = .int .i64 k ∧ OwnI wr w.heap.size (w.heap.size + 1) (some ⟨w.heap.size, 0, none⟩) n n (fun j => if j < k then z j else 0) ∧ w.heap.size + 1 ≤ wr.heap.size ∧ Below w.heap.size w wr) (fun i _ => n - (intOf i).toNat)
  case atStart => exact ⟨0, Nat.zero_le _, rfl, ⟨hst.1, fun g hg => by cases hg; exact Nat.lt_succ_self _⟩, hst.2 _ rfl, (Below.refl _ _).grown hg1 (Nat.le_refl _) (by simp)⟩
  case round =>
    obtain ⟨k, hk, rfl, hO, hs, hB⟩ := hrel
    by_cases hkn : k < n
    · obtain ⟨b, off, rfl, _, hb2, hc⟩ := (H.out.below hi' hB).at_ hkn
      rcases hO.cases with ⟨e, _⟩ | ⟨g, hg, hlo, _, hgl, _, hfz, hcl⟩
      · cases e
      · cases hg
        have hc2 := hcl k (by omega)
        have hf2 := hfz k
        clear hcl hfz
        go_wp2
        go_roundw
        case rel => exact ⟨k + 1, by omega, by go_num, (hO.storeI k (z k)).congr fun j hj => by
          unfold updI
          by_cases h1 : j = k
          · subst h1; simp
          · simp [h1]
            by_cases h2 : j < k
            · simp [h2, show j < k + 1 by omega]
            · simp [h2, show ¬ j < k + 1 by omega], by simpa [World.setCell] using hs, hB.setCell (Nat.le_refl _) _⟩
        case measure => simp [intOf]; omega
    · go_wp2
      go_ret
      exact ⟨_, _, (hO.wide (Nat.le_refl _) hs).congr fun j hj => by simp [show j < k by omega], rfl, hB⟩
set_option maxHeartbeats 1000000 in
theorem eqIntS_same (w : World) {lo hi lo2 hi2 : Nat} {A B : Option Addr} {n c d : Nat} {z : Nat → Int} (h : Ints w lo hi A n z) (h2 : Ints w lo2 hi2 B n z) (hh : hi ≤ w.heap.size) (hh2 : hi2 ≤ w.heap.size) (hn : n ≤ 1048576) :
    Calls Try.prog 12 #[.slice A n c, .slice B n d] w fun e w' => e = .returned (.bool true) ∧ Below w.heap.size w w' := by
  have H := Lib.hid h
  have H2 := Lib.hid h2
  clear h h2
  go_enter Try.func12, Try.ntmps12
  go_wp2
  go_loopw [5] (fun i wr => ∃ k, k ≤ n ∧ i = .int .i64 k ∧ Below w.heap.size w wr) (fun i _ => n - (intOf i).toNat)
  case atStart => exact ⟨0, Nat.zero_le _, rfl, Below.refl _ _⟩
  case round =>
    obtain ⟨k, hk, rfl, hB⟩ := hrel
    by_cases hkn : k < n
    · obtain ⟨b, off, rfl, _, hb1, hc⟩ := (H.out.below hh hB).at_ hkn
      obtain ⟨b2, off2, rfl, _, hb2, hc2⟩ := (H2.out.below hh2 hB).at_ hkn
      have hs := hB.size
      have hb1' : b < wr.heap.size := by omega
      have hb2' : b2 < wr.heap.size := by omega
      go_wp2
      refine wp_region_mixB (by kernel_rfl) (by kernel_rfl) ?_
      repeat (first
        | (refine mix_skip rfl ?_; have e0 : True := trivial; clear e0; refine mix_putK ?_; intro K hK; go_simp; refine hK _ ?_; clear hK K)
        | (refine mix_readE rfl rfl rfl ?_; apply Exists.intro; refine ⟨fun w' hb' => ?_, ?_⟩; (focus (obtain ⟨hc', hf'⟩ := Old.cells hb'; clear hb'; go_simp; try exact rfl)); have e0 : True := trivial; clear e0; refine mix_putK ?_; intro K hK; go_simp; refine hK _ ?_; clear hK K)
        | (refine mix_pureE rfl rfl ?_; apply Exists.intro; refine ⟨fun w' => ?_, ?_⟩; (focus (go_simp; try exact rfl)); have e0 : True := trivial; clear e0; refine mix_putK ?_; intro K hK; go_simp; refine hK _ ?_; clear hK K)
        | (refine mix_eff rfl rfl ?_; go_wp2_with (fail); refine then_mix rfl ?_ ?_; (first | (intro h; have h2 : false = true := h; cases h2) | (intro _; assumption) | (intro _; refine Old.mk ?_; repeat (first | (with_reducible exact Below.refl _ _) | (with_reducible refine Bal ?_ _) | (with_reducible refine Below.drew ?_) | (with_reducible refine below_drewN ?_ _) | (with_reducible refine Bset ?_ ?_ _; focus (first | (with_reducible exact Nat.le_refl _) | (simp; done) | (simp; omega) | omega)) | (with_reducible refine Bt ?_ (by assumption)) | (with_reducible refine Bp (g := g) ?_ (by assumption) (by assumption)))))))
      refine mix_nil ?_
      go_wp2
      go_roundw
      case rel => exact ⟨k + 1, by omega, by go_num, hB.drew⟩
      case measure => simp [intOf]; omega
    · go_wp2
      go_ret
      exact ⟨rfl, hB⟩
set_option maxHeartbeats 1000000 in
theorem sameInts_same (w : World) {lo hi lo2 hi2 : Nat} {A B : Option Addr} {n c d : Nat} {z : Nat → Int} (h : Ints w lo hi A n z) (h2 : Ints w lo2 hi2 B n z) (hh : hi ≤ w.heap.size) (hh2 : hi2 ≤ w.heap.size) (hn : n ≤ 1048576) :
    Calls Try.prog 8 #[.slice A n c, .slice B n d] w fun e w' => e = .returned (.bool true) ∧ Below w.heap.size w w' := by
  have H := Lib.hid h
  have H2 := Lib.hid h2
  clear h h2
  go_enter Try.func8, Try.ntmps8
  go_wp2
  go_loopw [5] (fun i wr => ∃ k, k ≤ n ∧ i = .int .i64 k ∧ Below w.heap.size w wr) (fun i _ => n - (intOf i).toNat)
  case atStart => exact ⟨0, Nat.zero_le _, rfl, Below.refl _ _⟩
  case round =>
    obtain ⟨k, hk, rfl, hB⟩ := hrel
    by_cases hkn : k < n
    · obtain ⟨b, off, rfl, _, hb1, hc⟩ := (H.out.below hh hB).at_ hkn
      obtain ⟨b2, off2, rfl, _, hb2, hc2⟩ := (H2.out.below hh2 hB).at_ hkn
      have hs := hB.size
      have hb1' : b < wr.heap.size := by omega
      have hb2' : b2 < wr.heap.size := by omega
      go_wp2
      refine wp_region_mixB (by kernel_rfl) (by kernel_rfl) ?_
      repeat (first
        | (refine mix_skip rfl ?_; have e0 : True := trivial; clear e0; refine mix_putK ?_; intro K hK; go_simp; refine hK _ ?_; clear hK K)
        | (refine mix_readE rfl rfl rfl ?_; apply Exists.intro; refine ⟨fun w' hb' => ?_, ?_⟩; (focus (obtain ⟨hc', hf'⟩ := Old.cells hb'; clear hb'; go_simp; try exact rfl)); have e0 : True := trivial; clear e0; refine mix_putK ?_; intro K hK; go_simp; refine hK _ ?_; clear hK K)
        | (refine mix_pureE rfl rfl ?_; apply Exists.intro; refine ⟨fun w' => ?_, ?_⟩; (focus (go_simp; try exact rfl)); have e0 : True := trivial; clear e0; refine mix_putK ?_; intro K hK; go_simp; refine hK _ ?_; clear hK K)
        | (refine mix_eff rfl rfl ?_; go_wp2_with (fail); refine then_mix rfl ?_ ?_; (first | (intro h; have h2 : false = true := h; cases h2) | (intro _; assumption) | (intro _; refine Old.mk ?_; repeat (first | (with_reducible exact Below.refl _ _) | (with_reducible refine Bal ?_ _) | (with_reducible refine Below.drew ?_) | (with_reducible refine below_drewN ?_ _) | (with_reducible refine Bset ?_ ?_ _; focus (first | (with_reducible exact Nat.le_refl _) | (simp; done) | (simp; omega) | omega)) | (with_reducible refine Bt ?_ (by assumption)) | (with_reducible refine Bp (g := g) ?_ (by assumption) (by assumption)))))))
      refine mix_nil ?_
      go_wp2
      go_roundw
      case rel => exact ⟨k + 1, by omega, by go_num, hB.drew⟩
      case measure => simp [intOf]; omega
    · go_wp2
      go_ret
      exact ⟨rfl, hB⟩
set_option maxHeartbeats 1000000 in
theorem markIntS_any (w : World) {lo hi : Nat} {A : Option Addr} {n c : Nat} {z : Nat → Int} (q : Nat) (h : OwnI w lo hi A n c z) (hn : n ≤ 1048576) (hq : q ≤ 1000000000) :
    Calls Try.prog 15 #[.slice A n c, .int .i64 q] w fun e w' => OwnI w' lo hi A n c (fun j => (q : Int) + j) ∧ e = .returned (.int .i64 ((q : Int) + n)) ∧ w.grownBy w' (Value.slice A n c).ownBlock ∧ w'.heap.size = w.heap.size := by
  have H := Lib.hid h
  have hst : OwnI w lo hi A n c (fun j => if j < 0 then (q : Int) + j else z j) := h.congr fun j _ => by simp
  clear h
  go_enter Try.func15, Try.ntmps15
  go_wp2
  go_loopw [1, 5] (fun q' i wr => ∃ k, k ≤ n ∧ i = .int .i64 k ∧ q' = .int .i64 ((q : Int) + k) ∧ OwnI wr lo hi A n c (fun j => if j < k then (q : Int) + j else z j) ∧ w.grownBy wr (Value.slice A n c).ownBlock ∧ wr.heap.size = w.heap.size) (fun _ i _ => n - (intOf i).toNat)
  case atStart => exact ⟨0, Nat.zero_le _, rfl, by go_num, hst, World.grownBy.refl _ _, rfl⟩
  case round =>
    obtain ⟨k, hk, rfl, rfl, hO, hG, hs⟩ := hrel
    by_cases hkn : k < n
    · rcases hO.cases with ⟨_, e, _⟩ | ⟨g, rfl, hlo, _, hgl, _, hfz, hcl⟩
      · omega
      · have hc2 := hcl k (by omega)
        have hf2 := hfz k
        clear hcl hfz
        have HS := Lib.hid hs
        clear hs
        go_wp2
        go_roundw
        case rel => exact ⟨k + 1, by omega, by go_num, by go_num, (hO.storeI k ((q : Int) + k)).congr fun j hj => by
          unfold updI
          by_cases h1 : j = k
          · subst h1; simp
          · simp [h1]
            by_cases h2 : j < k
            · simp [h2, show j < k + 1 by omega]
            · simp [h2, show ¬ j < k + 1 by omega], hG.trans (grown_setCell _ _ _), by simpa [World.setCell] using HS.out⟩
        case measure => simp [intOf]; omega
    · have HS := Lib.hid hs
      clear hs
      go_wp2
      go_ret
      exact ⟨hO.congr fun j hj => by simp [show j < k by omega], ret_int (by omega), hG, HS.out⟩
set_option maxHeartbeats 1000000 in
theorem heldIntS_any (w : World) {lo hi : Nat} {A : Option Addr} {n c : Nat} (q : Nat) (h : Ints w lo hi A n (fun j => (q : Int) + j)) (hn : n ≤ 1048576) (hq : q ≤ 1000000000) :
    Calls Try.prog 16 #[.slice A n c, .int .i64 q] w fun e w' => e = .returned (.int .i64 ((q : Int) + n)) ∧ w = w' := by
  have H := Lib.hid h
  clear h
  go_enter Try.func16, Try.ntmps16
  go_wp2
  go_loop [1, 5] (fun q' i => ∃ k, k ≤ n ∧ i = .int .i64 k ∧ q' = .int .i64 ((q : Int) + k)) (fun _ i => n - (intOf i).toNat)
  case atStart => exact ⟨0, Nat.zero_le _, rfl, by go_num⟩
  case round =>
    obtain ⟨k, hk, rfl, rfl⟩ := hrel
    by_cases hkn : k < n
    · obtain ⟨b, off, rfl, _, _, hc⟩ := H.out.at_ hkn
      go_wp2
      go_round
      case rel => exact ⟨k + 1, by omega, by go_num, by go_num⟩
      case measure => simp [intOf]; omega
    · go_wp2
      go_ret
      exact ⟨ret_int (by omega), rfl⟩
end Go.Proofs.Ytcdpalpoanlbmaa
