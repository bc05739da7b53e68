/- The reader of a code: what each draw leaves. -/
import Derived.Test.YtcdpalpoanlbmaaSer
import Derived.Test.YtcdpalpoanlbmaaMix
import Derived.Deep.Light
import Derived.Laws.BitsAllLaws
import Derived.Laws.BitsLemmas
namespace Go.Proofs.Ytcdpalpoanlbmaa
open Go Go.RowKit
set_option linter.unusedVariables false
set_option linter.unusedSimpArgs false

theorem ofInt_i64 (a : Nat) (ha : a < 9223372036854775808) : (BitVec.ofInt 64 (a : Int)).toNat = a := by
  rw [BitVec.ofInt_natCast, BitVec.toNat_ofNat]; exact Nat.mod_eq_of_lt (by omega)
theorem i64_xor_nat (a b : Nat) (ha : a < 9223372036854775808) (hb : b < 9223372036854775808) : bits .xor .i64 (a : Int) (b : Int) = ((a ^^^ b : Nat) : Int) := by
  have hx : a ^^^ b < 2 ^ 63 := Nat.xor_lt_two_pow (by omega) (by omega)
  show IntKind.i64.wrap ((BitVec.ofInt 64 (a : Int) ^^^ BitVec.ofInt 64 (b : Int)).toNat : Int) = _
  rw [BitVec.toNat_xor, ofInt_i64 a ha, ofInt_i64 b hb, IntKind.wrap_i64]
  omega
theorem xor_some (x : Int) (h0 : 0 ≤ x) (h1 : x ≤ 1000000000000) : ∃ y : Int, bits .xor .i64 x (x / 64) = y ∧ 0 ≤ y ∧ y ≤ 9223372036854775807 := by
  obtain ⟨a, rfl⟩ := Int.eq_ofNat_of_zero_le h0
  have e : ((a : Int) / 64) = ((a / 64 : Nat) : Int) := by omega
  refine ⟨((a ^^^ (a / 64) : Nat) : Int), ?_, by omega, ?_⟩
  · rw [e]; exact i64_xor_nat a (a / 64) (by omega) (by omega)
  · have hx : a ^^^ (a / 64) < 2 ^ 63 := Nat.xor_lt_two_pow (by omega) (by omega)
    omega

/-- Block g is a reader of a code, of which q places have been asked. -/
def RdAt (w : World) (g q : Nat) (A : Option Addr) (n c b off : Nat) (z : Nat → Int) : Prop :=
  w.cell? ⟨g, 0, none⟩ = some (.slice A n c) ∧ w.cell? ⟨g, 1, none⟩ = some (.int .i64 q) ∧ w.frozen? ⟨g, 1, none⟩ = false ∧ n ≤ 2000 ∧ n ≤ c ∧
    (0 < n → A = some ⟨b, off, none⟩ ∧ b < g) ∧ ∀ i, i < n → w.cell? ⟨b, off + i, none⟩ = some (.int .u8 (z i)) ∧ 0 ≤ z i ∧ z i ≤ 255
def Rd (w : World) (g q : Nat) : Prop := ∃ A n c b off z, RdAt w g q A n c b off z
theorem Rd.lt {w : World} {g q : Nat} (h : Rd w g q) : g < w.heap.size := by
  obtain ⟨A, n, c, b, off, z, h0, _⟩ := h
  rcases Nat.lt_or_ge g w.heap.size with h' | h'
  · exact h'
  · simp [World.cell?, Array.getElem?_eq_none h'] at h0
theorem Rd.keep {w w' : World} {g q : Nat} (h : Rd w g q) (hc : ∀ b o, b ≤ g → w'.cell? ⟨b, o, none⟩ = w.cell? ⟨b, o, none⟩) (hf : w'.frozen? ⟨g, 1, none⟩ = w.frozen? ⟨g, 1, none⟩) : Rd w' g q := by
  obtain ⟨A, n, c, b, off, z, h0, h1, h2, h3, h4, h5, h6⟩ := h
  refine ⟨A, n, c, b, off, z, (hc g 0 (Nat.le_refl _)).trans h0, (hc g 1 (Nat.le_refl _)).trans h1, hf.trans h2, h3, h4, h5, fun i hi => ?_⟩
  have hb := (h5 (by omega)).2
  exact ⟨(hc b _ (by omega)).trans (h6 i hi).1, (h6 i hi).2⟩
theorem Rd.below {w w' : World} {g q : Nat} (h : Rd w g q) (hb : Below w.heap.size w w') : Rd w' g q :=
  h.keep (fun b o hbg => hb.cell (p := ⟨b, o, none⟩) (by have := h.lt; show b < _; omega)) (hb.frozen (p := ⟨g, 1, none⟩) h.lt)
theorem Rd.drew {w : World} {g q : Nat} (h : Rd w g q) : Rd w.drew g q := h
theorem Rd.drewN {w : World} {g q : Nat} (h : Rd w g q) (k : Nat) : Rd (w.drewN k) g q := h
theorem Rd.alloc {w : World} {g q : Nat} (h : Rd w g q) (o : Obj) : Rd (w.alloc o) g q := h.below (Ba w o)
theorem Rd.setCell {w : World} {g q : Nat} (h : Rd w g q) {p : Addr} (hp : g < p.block) (u : Value) : Rd (w.setCell p u) g q :=
  h.keep (fun b o hb => World.cell?_setCell_other w p ⟨b, o, none⟩ u (fun e => by subst e; simp at hp; omega)) (World.frozen?_setCell _ _ _ _)

/-- What one question leaves: a number in range; the reader's own block alone has turned. -/
def Picked (g q : Nat) (m : Int) (w : World) (e : Ending) (w' : World) : Prop :=
  ∃ v : Int, 0 ≤ v ∧ v < m ∧ e = .returned (.int .i64 v) ∧ Rd w' g (q + 1) ∧ w.grownBy w' (some g) ∧ w'.heap.size = w.heap.size

theorem picked_of {w : World} {g q : Nat} {A : Option Addr} {n c b off : Nat} {z : Nat → Int} (h : RdAt w g q A n c b off z) {m v : Int} (h0 : 0 ≤ v) (h1 : v < m) (k : Nat) :
    Picked g q m w (.returned (.int .i64 v)) ((w.setCell ⟨g, 1, none⟩ (.int .i64 (q + 1))).drewN k) := by
  have hR : Rd w g q := ⟨A, n, c, b, off, z, h⟩
  obtain ⟨c0, c1, f1, hn, hnc, hA, hz⟩ := h
  refine ⟨v, h0, h1, rfl, ⟨A, n, c, b, off, z, ?_, ?_, ?_, hn, hnc, hA, fun i hi => ⟨?_, (hz i hi).2⟩⟩, ⟨rfl, rfl, rfl, by simp [World.setCell, World.drewN], fun k hk hne => ?_⟩, by simp [World.setCell, World.drewN]⟩
  · exact (World.cell?_setCell_other w _ _ _ (by simp)).trans c0
  · exact World.cell?_setCell_same w _ _ c1
  · exact (World.frozen?_setCell _ _ _ _).trans f1
  · have hb := (hA (by omega)).2
    exact (World.cell?_setCell_other w _ _ _ (fun e => by have := congrArg Addr.block e; simp at this; omega)).trans (hz i hi).1
  · exact Below.heap_setCell w _ _ k (fun e => hne (by rw [e]))

set_option maxHeartbeats 1000000 in
theorem pick_none (w : World) (g q : Nat) (m : Int) (A : Option Addr) (n c b off : Nat) (z : Nat → Int) (h : RdAt w g q A n c b off z) (hq : q ≤ 1000000) (hm : 1 ≤ m) (hm2 : m ≤ 1000000) (hn : n = 0) :
    Calls Try.prog 18 #[.pointer (some ⟨g, 0, none⟩), .int .i64 m] w (Picked g q m w) := by
  have H := Lib.hid h
  obtain ⟨c0, c1, f1, _, _, _, _⟩ := h
  subst hn
  have hml : ¬ m < 1 := by omega
  go_enter Try.func18, Try.ntmps18
  go_wp2
  go_ret
  exact picked_of H.out (Int.le_refl 0) (by omega) 0
set_option maxHeartbeats 1000000 in
theorem pick_in (w : World) (g q : Nat) (m : Int) (A : Option Addr) (n c b off : Nat) (z : Nat → Int) (h : RdAt w g q A n c b off z) (hq : q ≤ 1000000) (hm : 1 ≤ m) (hm2 : m ≤ 1000000) (hqn : q < n) :
    Calls Try.prog 18 #[.pointer (some ⟨g, 0, none⟩), .int .i64 m] w (Picked g q m w) := by
  have H := Lib.hid h
  obtain ⟨c0, c1, f1, _, _, hA, hz⟩ := h
  obtain ⟨rfl, hbg⟩ := hA (by omega)
  obtain ⟨hzc, hz0, hz1⟩ := hz q hqn
  clear hz hA
  have hbg' : b ≠ g := by omega
  have hml : ¬ m < 1 := by omega
  have hne : ((n : Int) == 0) = false := by simp; omega
  have hm0 : (m == 0) = false := by simp; omega
  have M0 := Int.emod_nonneg (z q) (show m ≠ 0 by omega)
  have M1 := Int.emod_lt_of_pos (z q) (show 0 < m by omega)
  go_enter Try.func18, Try.ntmps18
  go_wp2
  go_ret
  exact picked_of H.out M0 M1 0
set_option maxHeartbeats 1000000 in
theorem pick_past (w : World) (g q : Nat) (m : Int) (A : Option Addr) (n c b off : Nat) (z : Nat → Int) (h : RdAt w g q A n c b off z) (hq : q ≤ 1000000) (hm : 1 ≤ m) (hm2 : m ≤ 1000000) (hn : 0 < n) (hqn : n ≤ q) :
    Calls Try.prog 18 #[.pointer (some ⟨g, 0, none⟩), .int .i64 m] w (Picked g q m w) := by
  have H := Lib.hid h
  obtain ⟨c0, c1, f1, hn2, _, hA, hz⟩ := h
  obtain ⟨rfl, hbg⟩ := hA hn
  have l1 : q % n < n := Nat.mod_lt _ hn
  have l2 : (q * 7 + 3) % n < n := Nat.mod_lt _ hn
  obtain ⟨y1c, y10, y11⟩ := hz _ l1
  obtain ⟨y2c, y20, y21⟩ := hz _ l2
  generalize z (q % n) = y1 at y1c y10 y11
  generalize z ((q * 7 + 3) % n) = y2 at y2c y20 y21
  clear hz hA
  have hbg' : b ≠ g := by omega
  have hgl : g < w.heap.size := Rd.lt ⟨_, _, _, _, _, _, H.out⟩
  have hbl : b < w.heap.size := by omega
  have hml : ¬ m < 1 := by omega
  have hne : ((n : Int) == 0) = false := by simp; omega
  have hm0 : (m == 0) = false := by simp; omega
  have d1 : 0 ≤ (q : Int) / (n : Int) := Int.ediv_nonneg (by omega) (by omega)
  have d2 : (q : Int) / (n : Int) ≤ 1000000 := by
    have := Int.ediv_le_self (n : Int) (show 0 ≤ (q : Int) by omega); omega
  obtain ⟨y, hy, hy0, hy1⟩ := xor_some (y1 * 131 + y2 * 1117 + q * 29 + q / n * 53) (by omega) (by omega)
  have M0 := Int.emod_nonneg y (show m ≠ 0 by omega)
  have M1 := Int.emod_lt_of_pos y (show 0 < m by omega)
  go_enter Try.func18, Try.ntmps18
  go_wp2
  have hn0 : n ≠ 0 := by omega
  have e1 : (q : Int).tmod (n : Int) = (q : Int) % (n : Int) := Int.tmod_eq_emod_of_nonneg (by omega)
  have i1 : 0 ≤ (q : Int) % (n : Int) := Int.emod_nonneg _ (by omega)
  have i2 : (q : Int) % (n : Int) < (n : Int) := Int.emod_lt_of_pos _ (by omega)
  have i3 : ((q : Int) % (n : Int)).toNat = q % n := by rw [← Int.natCast_emod]; rfl
  have w1 : IntKind.i64.wrap ((q : Int) * 7) = q * 7 := IntWalk.i64_in _ ⟨by omega, by omega⟩
  have w2 : IntKind.i64.wrap ((q : Int) * 7 + 3) = q * 7 + 3 := IntWalk.i64_in _ ⟨by omega, by omega⟩
  have e2 : ((q : Int) * 7 + 3).tmod (n : Int) = ((q : Int) * 7 + 3) % (n : Int) := Int.tmod_eq_emod_of_nonneg (by omega)
  have i4 : 0 ≤ ((q : Int) * 7 + 3) % (n : Int) := Int.emod_nonneg _ (by omega)
  have i5 : ((q : Int) * 7 + 3) % (n : Int) < (n : Int) := Int.emod_lt_of_pos _ (by omega)
  have i6 : (((q : Int) * 7 + 3) % (n : Int)).toNat = (q * 7 + 3) % n := by
    have : ((q : Int) * 7 + 3) % (n : Int) = (((q * 7 + 3) % n : Nat) : Int) := by rw [Int.natCast_emod]; simp
    rw [this]; rfl
  have v0 : IntKind.i64.wrap y1 = y1 := IntWalk.i64_in _ ⟨by omega, by omega⟩
  have v1 : IntKind.i64.wrap (y1 * 131) = y1 * 131 := IntWalk.i64_in _ ⟨by omega, by omega⟩
  have v2 : IntKind.i64.wrap y2 = y2 := IntWalk.i64_in _ ⟨by omega, by omega⟩
  have v3 : IntKind.i64.wrap (y2 * 1117) = y2 * 1117 := IntWalk.i64_in _ ⟨by omega, by omega⟩
  have v4 : IntKind.i64.wrap (y1 * 131 + y2 * 1117) = y1 * 131 + y2 * 1117 := IntWalk.i64_in _ ⟨by omega, by omega⟩
  have v5 : IntKind.i64.wrap ((q : Int) * 29) = q * 29 := IntWalk.i64_in _ ⟨by omega, by omega⟩
  have v6 : IntKind.i64.wrap (y1 * 131 + y2 * 1117 + q * 29) = y1 * 131 + y2 * 1117 + q * 29 := IntWalk.i64_in _ ⟨by omega, by omega⟩
  have e3 : (q : Int).tdiv (n : Int) = (q : Int) / (n : Int) := Int.tdiv_eq_ediv_of_nonneg (by omega)
  have v7 : IntKind.i64.wrap ((q : Int) / (n : Int)) = (q : Int) / (n : Int) := IntWalk.i64_in _ ⟨by omega, by omega⟩
  have v8 : IntKind.i64.wrap ((q : Int) / (n : Int) * 53) = (q : Int) / (n : Int) * 53 := IntWalk.i64_in _ ⟨by omega, by omega⟩
  have v9 : IntKind.i64.wrap (y1 * 131 + y2 * 1117 + q * 29 + q / n * 53) = y1 * 131 + y2 * 1117 + q * 29 + q / n * 53 := IntWalk.i64_in _ ⟨by omega, by omega⟩
  refine wp_region_mixB (by kernel_rfl) (by kernel_rfl) ?_
  repeat (first
    | (refine mix_skip rfl ?_; have e0 : True := trivial; clear e0; refine mix_putK ?_; intro K hK; go_simp; refine hK _ ?_; clear hK K)
    | (refine mix_readE rfl rfl rfl ?_; apply Exists.intro; refine ⟨fun w' hb' => ?_, ?_⟩; (focus (obtain ⟨hc', hf'⟩ := Old.cells hb'; clear hb'; go_simp; try exact rfl)); have e0 : True := trivial; clear e0; refine mix_putK ?_; intro K hK; go_simp; refine hK _ ?_; clear hK K)
    | (refine mix_pureE rfl rfl ?_; apply Exists.intro; refine ⟨fun w' => ?_, ?_⟩; (focus (go_simp; try exact rfl)); have e0 : True := trivial; clear e0; refine mix_putK ?_; intro K hK; go_simp; refine hK _ ?_; clear hK K)
    | (refine mix_eff rfl rfl ?_; go_wp2_with (fail); refine then_mix rfl ?_ ?_; (first | (intro h; have h2 : false = true := h; cases h2) | (intro _; assumption) | (intro _; refine Old.mk ?_; repeat (first | (with_reducible exact Below.refl _ _) | (with_reducible refine Bal ?_ _) | (with_reducible refine Below.drew ?_) | (with_reducible refine below_drewN ?_ _) | (with_reducible refine Bset ?_ ?_ _; focus (first | (with_reducible exact Nat.le_refl _) | (simp; done) | (simp; omega) | omega)) | (with_reducible refine Bt ?_ (by assumption)) | (with_reducible refine Bp (g := g) ?_ (by assumption) (by assumption)))))))
  refine mix_nil ?_
  clear e1 i1 i2 i3 w1 w2 e2 i4 i5 i6 v0 v1 v2 v3 v4 v5 v6 e3 v7 v8 v9
  go_wp2_with fail
  go_ret
  exact picked_of H.out M0 M1 1
theorem pick_any (w : World) (g q : Nat) (m : Int) (h : Rd w g q) (hq : q ≤ 1000000) (hm : 1 ≤ m) (hm2 : m ≤ 1000000) :
    Calls Try.prog 18 #[.pointer (some ⟨g, 0, none⟩), .int .i64 m] w (Picked g q m w) := by
  obtain ⟨A, n, c, b, off, z, h⟩ := h
  rcases Nat.eq_zero_or_pos n with h0 | h0
  · exact pick_none w g q m A n c b off z h hq hm hm2 h0
  · rcases Nat.lt_or_ge q n with h1 | h1
    · exact pick_in w g q m A n c b off z h hq hm hm2 h1
    · exact pick_past w g q m A n c b off z h hq hm hm2 h0 h1
end Go.Proofs.Ytcdpalpoanlbmaa
