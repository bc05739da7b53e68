/- Rows of packets: what the laws' helpers do with them, and when they are valid. -/
import Derived.Test.YtegdogamenoaiaaPkt
import Derived.Test.YtegdogamenoaiaaAny
import Derived.IntWalk
namespace Go.Proofs.Ytegdogamenoaiaa
open Go Go.RowKit
set_option linter.unusedVariables false
set_option linter.unusedSimpArgs false

def Pk0 : Pk := ⟨0, 0, 0, 0, false, false⟩
def PkC (d : Pk) : Nat → Value
  | 0 => .int .i64 d.w
  | 1 => .int .i64 d.t
  | 2 => .int .i64 d.l
  | 3 => .int .i64 d.s
  | 4 => .bool d.k
  | _ => .bool d.z
def PkF : (Nat → Pk) → Nat → Value := RowF 6 PkC
theorem pk_one (d : Pk) (r : Nat) : (PkC d r).oneCell' = true := by
  match r with
  | 0 => rfl
  | 1 => rfl
  | 2 => rfl
  | 3 => rfl
  | 4 => rfl
  | _ + 5 => rfl
def PkNx (a b : Pk) : Prop := a.w < b.w ∧ a.t ≤ b.t
instance (a b : Pk) : Decidable (PkNx a b) := inferInstanceAs (Decidable (_ ∧ _))
def PksUp (k : Nat) (p : Nat → Pk) : Prop := ∀ i, i < k → PkOk (p i) ∧ (0 < i → PkNx (p (i - 1)) (p i))
instance (k : Nat) (p : Nat → Pk) : Decidable (PksUp k p) := inferInstanceAs (Decidable (∀ i, i < k → _))
def PksOk (n : Nat) (p : Nat → Pk) : Prop := n ≤ 20 ∧ PksUp n p
instance (n : Nat) (p : Nat → Pk) : Decidable (PksOk n p) := inferInstanceAs (Decidable (_ ∧ _))
def pksB (n : Nat) (p : Nat → Pk) : Bool := decide (PksOk n p)
theorem PksUp.zero (p : Nat → Pk) : PksUp 0 p := fun i h => absurd h (by omega)
theorem PksUp.succ {k : Nat} {p : Nat → Pk} (h : PksUp k p) (h1 : PkOk (p k)) (h2 : 0 < k → PkNx (p (k - 1)) (p k)) : PksUp (k + 1) p := fun i hi => by
  by_cases e : i = k
  · subst e; exact ⟨h1, h2⟩
  · exact h i (by omega)
theorem info_pk : (Try.prog.info? 30).map (fun i => (i.zero, i.size, i.bytes)) = some (some (.agg #[.int .i64 0, .int .i64 0, .int .i64 0, .int .i64 0, .bool false, .bool false]), 6, 40) := by kernel_rfl
theorem Pk_at {w : World} {lo hi : Nat} {A : Option Addr} {n : Nat} {p : Nat → Pk} (h : RowAt w lo hi A n 6 (PkF p)) {k : Nat} (hk : k < n) :
    ∃ b off, A = some ⟨b, off, none⟩ ∧ lo ≤ b ∧ b < hi ∧ w.cell? ⟨b, off + k * 6, none⟩ = some (.int .i64 (p k).w) ∧ w.cell? ⟨b, off + k * 6 + 1, none⟩ = some (.int .i64 (p k).t) ∧
      w.cell? ⟨b, off + k * 6 + 2, none⟩ = some (.int .i64 (p k).l) ∧ w.cell? ⟨b, off + k * 6 + 3, none⟩ = some (.int .i64 (p k).s) ∧ w.cell? ⟨b, off + k * 6 + 4, none⟩ = some (.bool (p k).k) ∧ w.cell? ⟨b, off + k * 6 + 5, none⟩ = some (.bool (p k).z) := by
  obtain ⟨b, off, h1, h2, h3, h4⟩ := RowAt.elem h hk
  exact ⟨b, off, h1, h2, h3, h4 0 (by decide), h4 1 (by decide), h4 2 (by decide), h4 3 (by decide), h4 4 (by decide), h4 5 (by decide)⟩
theorem six_row (w : World) (a b c d x y : Value) (t : TypeId) : RowAt (w.alloc (.cells #[a, b, c, d, x, y] t)) w.heap.size (w.heap.size + 1) (some ⟨w.heap.size, 0, none⟩) 1 6 (fun j => [a, b, c, d, x, y].getD j a) := by
  refine ⟨w.heap.size, 0, fun _ => ⟨rfl, Nat.le_refl _, Nat.lt_succ_self _⟩, fun j hj => ?_⟩
  have h1 : (w.alloc (.cells #[a, b, c, d, x, y] t)).heap[w.heap.size]? = some (.cells #[a, b, c, d, x, y] t (0, 0)) := heap_alloc_new w _
  rw [cell_of_row _ _ _ _ _ _ h1]
  rcases (by omega : j = 0 ∨ j = 1 ∨ j = 2 ∨ j = 3 ∨ j = 4 ∨ j = 5) with rfl | rfl | rfl | rfl | rfl | rfl <;> rfl
def snocP (q : Nat → Pk) (n : Nat) (x : Pk) : Nat → Pk := fun i => if i < n then q i else x
theorem snoc_pk {w : World} {e : TypeId} {lo hi n c : Nat} {A : Option Addr} {p : Nat → Pk} {a b x y : Int} {k z : Bool} (h : RowOwn e w lo hi A (n + 1) c 6 (catF (n * 6) (PkF p) fun j => [Value.int .i64 a, .int .i64 b, .int .i64 x, .int .i64 y, .bool k, .bool z].getD j (.int .i64 a))) :
    RowOwn e w lo hi A (n + 1) c 6 (PkF (snocP p n ⟨a, b, x, y, k, z⟩)) := by
  refine RowOwn.congr h fun j hj => ?_
  have hd := Nat.div_add_mod j 6
  show (if j < n * 6 then PkC (p (j / 6)) (j % 6) else _) = PkC (if j / 6 < n then p (j / 6) else ⟨a, b, x, y, k, z⟩) (j % 6)
  by_cases h1 : j < n * 6
  · rw [if_pos h1, if_pos (by omega)]
  · rw [if_neg h1, if_neg (by omega)]
    rcases (by omega : j - n * 6 = 0 ∧ j % 6 = 0 ∨ j - n * 6 = 1 ∧ j % 6 = 1 ∨ j - n * 6 = 2 ∧ j % 6 = 2 ∨ j - n * 6 = 3 ∧ j % 6 = 3 ∨ j - n * 6 = 4 ∧ j % 6 = 4 ∨ j - n * 6 = 5 ∧ j % 6 = 5) with ⟨e1, e2⟩ | ⟨e1, e2⟩ | ⟨e1, e2⟩ | ⟨e1, e2⟩ | ⟨e1, e2⟩ | ⟨e1, e2⟩ <;> rw [e1, e2] <;> rfl

set_option maxHeartbeats 2000000 in
theorem eqPk_same (a b c d : Int) (k z : Bool) (w : World) :
    Calls Try.prog 21 #[.agg #[.int .i64 a, .int .i64 b, .int .i64 c, .int .i64 d, .bool k, .bool z], .agg #[.int .i64 a, .int .i64 b, .int .i64 c, .int .i64 d, .bool k, .bool z]] w fun e w' => e = .returned (.bool true) ∧ Below w.heap.size w w' := by
  go_enter Try.func21, Try.ntmps21
  go_wp2
  repeat
    refine wp_region_mixB (by kernel_rfl) (by kernel_rfl) ?_
    repeat (first
      | (refine mix_skip rfl ?_; have e0 : True := trivial; clear e0; refine mix_putK ?_; intro K hK; go_simp; refine hK _ ?_; clear hK K)
      | (refine mix_readE rfl rfl rfl ?_; apply Exists.intro; refine ⟨fun w' hb' => ?_, ?_⟩; (focus (obtain ⟨hc', hf'⟩ := Old.cells hb'; clear hb'; go_simp; try exact rfl)); have e0 : True := trivial; clear e0; refine mix_putK ?_; intro K hK; go_simp; refine hK _ ?_; clear hK K)
      | (refine mix_pureE rfl rfl ?_; apply Exists.intro; refine ⟨fun w' => ?_, ?_⟩; (focus (go_simp; try exact rfl)); have e0 : True := trivial; clear e0; refine mix_putK ?_; intro K hK; go_simp; refine hK _ ?_; clear hK K)
      | (refine mix_eff rfl rfl ?_; go_wp2_with (fail); refine then_mix rfl ?_ ?_; (first | (intro h; have h2 : false = true := h; cases h2) | (intro _; assumption) | (intro _; refine Old.mk ?_; repeat (first | (with_reducible exact Below.refl _ _) | (with_reducible refine Bal ?_ _) | (with_reducible refine Below.drew ?_) | (with_reducible refine below_drewN ?_ _) | (with_reducible refine Bset ?_ ?_ _; focus (first | (with_reducible exact Nat.le_refl _) | (simp; done) | (simp; omega) | omega)) | (with_reducible refine Bt ?_ (by assumption)) | (with_reducible refine Bp (g := g) ?_ (by assumption) (by assumption)))))))
    refine mix_nil ?_
    go_wp2
  go_ret
  go_light
  refine ⟨rfl, ?_⟩
  repeat (first | (with_reducible exact Below.refl _ _) | (with_reducible refine Bal ?_ _) | (with_reducible refine Below.drew ?_) | (with_reducible refine below_drewN ?_ _) | (with_reducible refine Bset ?_ ?_ _; focus (first | (with_reducible exact Nat.le_refl _) | (simp; done) | (simp; omega) | omega)) | (with_reducible refine Bt ?_ (by assumption)) | (with_reducible refine Bp (g := g) ?_ (by assumption) (by assumption)))
set_option maxHeartbeats 2000000 in
theorem eqPkS_same (w : World) {lo hi lo2 hi2 : Nat} {A B : Option Addr} {n c d : Nat} {p : Nat → Pk} (h : RowAt w lo hi A n 6 (PkF p)) (h2 : RowAt w lo2 hi2 B n 6 (PkF p)) (hh : hi ≤ w.heap.size) (hh2 : hi2 ≤ w.heap.size) (hn : n ≤ 1048576) :
    Calls Try.prog 29 #[.slice A n c, .slice B n d] w fun e w' => e = .returned (.bool true) ∧ Below w.heap.size w w' := by
  have H := Lib.hid h
  have H2 := Lib.hid h2
  clear h h2
  go_enter Try.func29, Try.ntmps29
  go_wp2
  go_loopw [5] (fun i wr => ∃ k, k ≤ n ∧ i = .int .i64 k ∧ Below w.heap.size w wr) (fun i _ => n - (intOf i).toNat)
  case atStart => exact ⟨0, Nat.zero_le _, rfl, Below.refl _ _⟩
  case round =>
    obtain ⟨k, hk, rfl, hB⟩ := hrel
    have hs := hB.size
    by_cases hkn : k < n
    · obtain ⟨b, off, rfl, _, hb1, c0, c1, c2, c3, c4, c5⟩ := Pk_at (H.out.below hh hB) hkn
      obtain ⟨b2, off2, rfl, _, hb2, e0, e1, e2, e3, e4, e5⟩ := Pk_at (H2.out.below hh2 hB) hkn
      have hb1' : b < wr.heap.size := by omega
      have hb2' : b2 < wr.heap.size := by omega
      go_wp2
      refine wp_region_mixB (by kernel_rfl) (by kernel_rfl) ?_
      repeat (first
        | (refine mix_skip rfl ?_; have e0 : True := trivial; clear e0; refine mix_putK ?_; intro K hK; go_simp; refine hK _ ?_; clear hK K)
        | (refine mix_readE rfl rfl rfl ?_; apply Exists.intro; refine ⟨fun w' hb' => ?_, ?_⟩; (focus (obtain ⟨hc', hf'⟩ := Old.cells hb'; clear hb'; go_simp; try exact rfl)); have e0 : True := trivial; clear e0; refine mix_putK ?_; intro K hK; go_simp; refine hK _ ?_; clear hK K)
        | (refine mix_pureE rfl rfl ?_; apply Exists.intro; refine ⟨fun w' => ?_, ?_⟩; (focus (go_simp; try exact rfl)); have e0 : True := trivial; clear e0; refine mix_putK ?_; intro K hK; go_simp; refine hK _ ?_; clear hK K)
        | (refine mix_eff rfl rfl ?_; go_wp2_with ((go_at_call 21; refine (eqPk_same _ _ _ _ _ _ _).mono ?_; rintro e w2 ⟨rfl, hbv⟩)); refine then_mix rfl ?_ ?_; (first | (intro h; have h2 : false = true := h; cases h2) | (intro _; assumption) | (intro _; refine Old.mk ?_; repeat (first | (with_reducible exact Below.refl _ _) | (with_reducible refine Bal ?_ _) | (with_reducible refine Below.drew ?_) | (with_reducible refine below_drewN ?_ _) | (with_reducible refine Bset ?_ ?_ _; focus (first | (with_reducible exact Nat.le_refl _) | (simp; done) | (simp; omega) | omega)) | (with_reducible refine Bt ?_ (by assumption)) | (with_reducible refine Bp (g := g) ?_ (by assumption) (by assumption)))))))
      refine mix_nil ?_
      go_wp2
      go_roundw
      case rel =>
        refine ⟨k + 1, by omega, by go_num, hB.trans (Below.mono (B := wr.heap.size) ?_ hB.size)⟩
        repeat (first | (with_reducible exact Below.refl _ _) | (with_reducible refine Bal ?_ _) | (with_reducible refine Below.drew ?_) | (with_reducible refine below_drewN ?_ _) | (with_reducible refine Bset ?_ ?_ _; focus (first | (with_reducible exact Nat.le_refl _) | (simp; done) | (simp; omega) | omega)) | (with_reducible refine Bt ?_ (by assumption)) | (with_reducible refine Bp (g := g) ?_ (by assumption) (by assumption)))
      case measure => simp [intOf]; omega
    · go_wp2
      go_ret
      exact ⟨rfl, hB⟩
end Go.Proofs.Ytegdogamenoaiaa
