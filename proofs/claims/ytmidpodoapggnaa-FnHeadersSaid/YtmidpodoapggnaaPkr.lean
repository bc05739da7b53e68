/- Rows of packets: what the laws' helpers do with them, and when they are valid. -/
import Derived.Test.YtmidpodoapggnaaPkt
import Derived.Test.YtmidpodoapggnaaAny
import Derived.IntWalk
namespace Go.Proofs.Ytmidpodoapggnaa
open Go Go.RowKit
set_option linter.unusedVariables false
set_option linter.unusedSimpArgs false

def Pk0 : Pk := ⟨0, 0, 0, 0, false, false⟩
def PkC (d : Pk) : Nat → Value
  | 0 => .int .i64 d.w
  | 1 => .int .i64 d.t
  | 2 => .int .i64 d.l
  | 3 => .int .i64 d.s
  | 4 => .bool d.k
  | _ => .bool d.z
def PkF : (Nat → Pk) → Nat → Value := RowF 6 PkC
theorem pk_one (d : Pk) (r : Nat) : (PkC d r).oneCell' = true := by
  match r with
  | 0 => rfl
  | 1 => rfl
  | 2 => rfl
  | 3 => rfl
  | 4 => rfl
  | _ + 5 => rfl
def PkNx (a b : Pk) : Prop := a.w < b.w ∧ a.t ≤ b.t
instance (a b : Pk) : Decidable (PkNx a b) := inferInstanceAs (Decidable (_ ∧ _))
def PksUp (k : Nat) (p : Nat → Pk) : Prop := ∀ i, i < k → PkOk (p i) ∧ (0 < i → PkNx (p (i - 1)) (p i))
instance (k : Nat) (p : Nat → Pk) : Decidable (PksUp k p) := inferInstanceAs (Decidable (∀ i, i < k → _))
def PksOk (n : Nat) (p : Nat → Pk) : Prop := n ≤ 20 ∧ PksUp n p
instance (n : Nat) (p : Nat → Pk) : Decidable (PksOk n p) := inferInstanceAs (Decidable (_ ∧ _))
def pksB (n : Nat) (p : Nat → Pk) : Bool := decide (PksOk n p)
theorem PksUp.zero (p : Nat → Pk) : PksUp 0 p := fun i h => absurd h (by omega)
theorem PksUp.succ {k : Nat} {p : Nat → Pk} (h : PksUp k p) (h1 : PkOk (p k)) (h2 : 0 < k → PkNx (p (k - 1)) (p k)) : PksUp (k + 1) p := fun i hi => by
  by_cases e : i = k
  · subst e; exact ⟨h1, h2⟩
  · exact h i (by omega)
theorem info_pk : (Try.prog.info? 61).map (fun i => (i.zero, i.size, i.bytes)) = some (some (.agg #[.int .i64 0, .int .i64 0, .int .i64 0, .int .i64 0, .bool false, .bool false]), 6, 40) := by kernel_rfl
theorem Pk_at {w : World} {lo hi : Nat} {A : Option Addr} {n : Nat} {p : Nat → Pk} (h : RowAt w lo hi A n 6 (PkF p)) {k : Nat} (hk : k < n) :
    ∃ b off, A = some ⟨b, off, none⟩ ∧ lo ≤ b ∧ b < hi ∧ w.cell? ⟨b, off + k * 6, none⟩ = some (.int .i64 (p k).w) ∧ w.cell? ⟨b, off + k * 6 + 1, none⟩ = some (.int .i64 (p k).t) ∧
      w.cell? ⟨b, off + k * 6 + 2, none⟩ = some (.int .i64 (p k).l) ∧ w.cell? ⟨b, off + k * 6 + 3, none⟩ = some (.int .i64 (p k).s) ∧ w.cell? ⟨b, off + k * 6 + 4, none⟩ = some (.bool (p k).k) ∧ w.cell? ⟨b, off + k * 6 + 5, none⟩ = some (.bool (p k).z) := by
  obtain ⟨b, off, h1, h2, h3, h4⟩ := RowAt.elem h hk
  exact ⟨b, off, h1, h2, h3, h4 0 (by decide), h4 1 (by decide), h4 2 (by decide), h4 3 (by decide), h4 4 (by decide), h4 5 (by decide)⟩
theorem six_row (w : World) (a b c d x y : Value) (t : TypeId) : RowAt (w.alloc (.cells #[a, b, c, d, x, y] t)) w.heap.size (w.heap.size + 1) (some ⟨w.heap.size, 0, none⟩) 1 6 (fun j => [a, b, c, d, x, y].getD j a) := by
  refine ⟨w.heap.size, 0, fun _ => ⟨rfl, Nat.le_refl _, Nat.lt_succ_self _⟩, fun j hj => ?_⟩
  have h1 : (w.alloc (.cells #[a, b, c, d, x, y] t)).heap[w.heap.size]? = some (.cells #[a, b, c, d, x, y] t (0, 0)) := heap_alloc_new w _
  rw [cell_of_row _ _ _ _ _ _ h1]
  rcases (by omega : j = 0 ∨ j = 1 ∨ j = 2 ∨ j = 3 ∨ j = 4 ∨ j = 5) with rfl | rfl | rfl | rfl | rfl | rfl <;> rfl
def snocP (q : Nat → Pk) (n : Nat) (x : Pk) : Nat → Pk := fun i => if i < n then q i else x
theorem snoc_pk {w : World} {e : TypeId} {lo hi n c : Nat} {A : Option Addr} {p : Nat → Pk} {a b x y : Int} {k z : Bool} (h : RowOwn e w lo hi A (n + 1) c 6 (catF (n * 6) (PkF p) fun j => [Value.int .i64 a, .int .i64 b, .int .i64 x, .int .i64 y, .bool k, .bool z].getD j (.int .i64 a))) :
    RowOwn e w lo hi A (n + 1) c 6 (PkF (snocP p n ⟨a, b, x, y, k, z⟩)) := by
  refine RowOwn.congr h fun j hj => ?_
  have hd := Nat.div_add_mod j 6
  show (if j < n * 6 then PkC (p (j / 6)) (j % 6) else _) = PkC (if j / 6 < n then p (j / 6) else ⟨a, b, x, y, k, z⟩) (j % 6)
  by_cases h1 : j < n * 6
  · rw [if_pos h1, if_pos (by omega)]
  · rw [if_neg h1, if_neg (by omega)]
    rcases (by omega : j - n * 6 = 0 ∧ j % 6 = 0 ∨ j - n * 6 = 1 ∧ j % 6 = 1 ∨ j - n * 6 = 2 ∧ j % 6 = 2 ∨ j - n * 6 = 3 ∧ j % 6 = 3 ∨ j - n * 6 = 4 ∧ j % 6 = 4 ∨ j - n * 6 = 5 ∧ j % 6 = 5) with ⟨e1, e2⟩ | ⟨e1, e2⟩ | ⟨e1, e2⟩ | ⟨e1, e2⟩ | ⟨e1, e2⟩ | ⟨e1, e2⟩ <;> rw [e1, e2] <;> rfl

set_option maxHeartbeats 2000000 in
theorem eqPk_same (a b c d : Int) (k z : Bool) (w : World) :
    Calls Try.prog 71 #[.agg #[.int .i64 a, .int .i64 b, .int .i64 c, .int .i64 d, .bool k, .bool z], .agg #[.int .i64 a, .int .i64 b, .int .i64 c, .int .i64 d, .bool k, .bool z]] w fun e w' => e = .returned (.bool true) ∧ Below w.heap.size w w' := by
  go_enter Try.func71, Try.ntmps71
  go_wp2
  repeat
    refine wp_region_mixB (by kernel_rfl) (by kernel_rfl) ?_
    repeat (first
      | (refine mix_skip rfl ?_; have e0 : True := trivial; clear e0; refine mix_putK ?_; intro K hK; go_simp; refine hK _ ?_; clear hK K)
      | (refine mix_readE rfl rfl rfl ?_; apply Exists.intro; refine ⟨fun w' hb' => ?_, ?_⟩; (focus (obtain ⟨hc', hf'⟩ := Old.cells hb'; clear hb'; go_simp; try exact rfl)); have e0 : True := trivial; clear e0; refine mix_putK ?_; intro K hK; go_simp; refine hK _ ?_; clear hK K)
      | (refine mix_pureE rfl rfl ?_; apply Exists.intro; refine ⟨fun w' => ?_, ?_⟩; (focus (go_simp; try exact rfl)); have e0 : True := trivial; clear e0; refine mix_putK ?_; intro K hK; go_simp; refine hK _ ?_; clear hK K)
      | (refine mix_eff rfl rfl ?_; go_wp2_with (fail); refine then_mix rfl ?_ ?_; (first | (intro h; have h2 : false = true := h; cases h2) | (intro _; refine Old.mk ?_; repeat (first | (with_reducible exact Below.refl _ _) | (with_reducible refine Bal ?_ _) | (with_reducible refine Below.drew ?_) | (with_reducible refine below_drewN ?_ _) | (with_reducible refine Bset ?_ ?_ _; focus (first | (with_reducible exact Nat.le_refl _) | (simp; done) | (simp; omega) | omega)) | (with_reducible refine Bt ?_ (by assumption)) | (with_reducible refine Bp (g := g) ?_ (by assumption) (by assumption)))))))
    refine mix_nil ?_
    go_wp2
  go_ret
  go_light
  refine ⟨rfl, ?_⟩
  repeat (first | (with_reducible exact Below.refl _ _) | (with_reducible refine Bal ?_ _) | (with_reducible refine Below.drew ?_) | (with_reducible refine below_drewN ?_ _) | (with_reducible refine Bset ?_ ?_ _; focus (first | (with_reducible exact Nat.le_refl _) | (simp; done) | (simp; omega) | omega)) | (with_reducible refine Bt ?_ (by assumption)) | (with_reducible refine Bp (g := g) ?_ (by assumption) (by assumption)))
set_option maxHeartbeats 2000000 in
theorem eqPkS_same (w : World) {lo hi lo2 hi2 : Nat} {A B : Option Addr} {n c d : Nat} {p : Nat → Pk} (h : RowAt w lo hi A n 6 (PkF p)) (h2 : RowAt w lo2 hi2 B n 6 (PkF p)) (hh : hi ≤ w.heap.size) (hh2 : hi2 ≤ w.heap.size) (hn : n ≤ 1048576) :
    Calls Try.prog 43 #[.slice A n c, .slice B n d] w fun e w' => e = .returned (.bool true) ∧ Below w.heap.size w w' := by
  have H := Lib.hid h
  have H2 := Lib.hid h2
  clear h h2
  go_enter Try.func43, Try.ntmps43
  go_wp2
  go_loopw [5] (fun i wr => ∃ k, k ≤ n ∧ i = .int .i64 k ∧ Below w.heap.size w wr) (fun i _ => n - (intOf i).toNat)
  case atStart => exact ⟨0, Nat.zero_le _, rfl, Below.refl _ _⟩
  case round =>
    obtain ⟨k, hk, rfl, hB⟩ := hrel
    have hs := hB.size
    by_cases hkn : k < n
    · obtain ⟨b, off, rfl, _, hb1, c0, c1, c2, c3, c4, c5⟩ := Pk_at (H.out.below hh hB) hkn
      obtain ⟨b2, off2, rfl, _, hb2, e0, e1, e2, e3, e4, e5⟩ := Pk_at (H2.out.below hh2 hB) hkn
      have hb1' : b < wr.heap.size := by omega
      have hb2' : b2 < wr.heap.size := by omega
      go_wp2
      refine wp_region_mixB (by kernel_rfl) (by kernel_rfl) ?_
      repeat (first
        | (refine mix_skip rfl ?_; have e0 : True := trivial; clear e0; refine mix_putK ?_; intro K hK; go_simp; refine hK _ ?_; clear hK K)
        | (refine mix_readE rfl rfl rfl ?_; apply Exists.intro; refine ⟨fun w' hb' => ?_, ?_⟩; (focus (obtain ⟨hc', hf'⟩ := Old.cells hb'; clear hb'; go_simp; try exact rfl)); have e0 : True := trivial; clear e0; refine mix_putK ?_; intro K hK; go_simp; refine hK _ ?_; clear hK K)
        | (refine mix_pureE rfl rfl ?_; apply Exists.intro; refine ⟨fun w' => ?_, ?_⟩; (focus (go_simp; try exact rfl)); have e0 : True := trivial; clear e0; refine mix_putK ?_; intro K hK; go_simp; refine hK _ ?_; clear hK K)
        | (refine mix_eff rfl rfl ?_; go_wp2_with ((go_at_call 71; refine (eqPk_same _ _ _ _ _ _ _).mono ?_; rintro e w2 ⟨rfl, hbv⟩)); refine then_mix rfl ?_ ?_; (first | (intro h; have h2 : false = true := h; cases h2) | (intro _; refine Old.mk ?_; repeat (first | (with_reducible exact Below.refl _ _) | (with_reducible refine Bal ?_ _) | (with_reducible refine Below.drew ?_) | (with_reducible refine below_drewN ?_ _) | (with_reducible refine Bset ?_ ?_ _; focus (first | (with_reducible exact Nat.le_refl _) | (simp; done) | (simp; omega) | omega)) | (with_reducible refine Bt ?_ (by assumption)) | (with_reducible refine Bp (g := g) ?_ (by assumption) (by assumption)))))))
      refine mix_nil ?_
      go_wp2
      go_roundw
      case rel =>
        refine ⟨k + 1, by omega, by go_num, hB.trans (Below.mono (B := wr.heap.size) ?_ hB.size)⟩
        repeat (first | (with_reducible exact Below.refl _ _) | (with_reducible refine Bal ?_ _) | (with_reducible refine Below.drew ?_) | (with_reducible refine below_drewN ?_ _) | (with_reducible refine Bset ?_ ?_ _; focus (first | (with_reducible exact Nat.le_refl _) | (simp; done) | (simp; omega) | omega)) | (with_reducible refine Bt ?_ (by assumption)) | (with_reducible refine Bp (g := g) ?_ (by assumption) (by assumption)))
      case measure => simp [intOf]; omega
    · go_wp2
      go_ret
      exact ⟨rfl, hB⟩
theorem szPkS_in (w : World) (A : Option Addr) (n c : Nat) (hn : n ≤ 1048576) :
    Calls Try.prog 41 #[.slice A n c, .int .i64 1048576] w fun e w' => e = .returned (.int .i64 (1048576 - n)) ∧ w = w' := by
  go_enter Try.func41, Try.ntmps41
  go_wp2
  go_ret
  exact ⟨ret_int (by omega), rfl⟩
theorem szPkS_out (w : World) (A : Option Addr) (n c : Nat) (hn : 1048576 < n) (hm : n ≤ 9223372036854775807) :
    Calls Try.prog 41 #[.slice A n c, .int .i64 1048576] w fun e w' => e = .returned (.int .i64 (-1)) ∧ w = w' := by
  go_enter Try.func41, Try.ntmps41
  go_wp2
  go_ret
  exact ⟨rfl, rfl⟩
set_option maxHeartbeats 4000000 in
theorem toPkS_any (w : World) (lo hi : Nat) (A : Option Addr) (n c : Nat) (p : Nat → Pk) (h : RowAt w lo hi A n 6 (PkF p)) (hi' : hi ≤ w.heap.size) (hn : n ≤ 1048576) :
    Calls Try.prog 42 #[.slice A n c] w fun e w' => ∃ A c, RowOwn 61 w' w.heap.size w'.heap.size A n c 6 (PkF p) ∧ e = .returned (.slice A n c) ∧ Below w.heap.size w w' := by
  obtain ⟨i0, q1, q2, q3, q4⟩ := info_parts info_pk
  have H := Lib.hid h
  clear h
  go_enter Try.func42, Try.ntmps42
  go_wp2_with (at_make; refine wpList_make_full _ rfl _ _ _ rfl w.heap.size 61 i0 _ 6 Try.underlying55 q1 q2 q3 .i64 .i64 _ _ n rfl rfl rfl rfl (by rw [q4]; omega) (by unfold maxLen; omega) (by first | exact Nat.le_refl _ | simp) ?_; intro w1 hown1 hg1)
  have hst := made_row (sz := 6) (C := PkC) (x := Pk0) rfl (by decide) (fun r hr => by rcases (by omega : r = 0 ∨ r = 1 ∨ r = 2 ∨ r = 3 ∨ r = 4 ∨ r = 5) with rfl | rfl | rfl | rfl | rfl | rfl <;> rfl) hown1
  go_loopw [4] (fun i wr => ∃ k, k ≤ n ∧ i = .int .i64 k ∧ RowOwn 61 wr w.heap.size (w.heap.size + 1) (some ⟨w.heap.size, 0, none⟩) n n 6 (PkF fun j => if j < k then p j else Pk0) ∧ w.heap.size + 1 ≤ wr.heap.size ∧ Below w.heap.size w wr) (fun i _ => n - (intOf i).toNat)
  case atStart => exact ⟨0, Nat.zero_le _, rfl, ⟨hst.1, fun g hg => by cases hg; exact Nat.lt_succ_self _⟩, hst.2 _ rfl, (Below.refl _ _).grown hg1 (Nat.le_refl _) (by simp)⟩
  case round =>
    obtain ⟨k, hk, rfl, hO, hs, hB⟩ := hrel
    by_cases hkn : k < n
    · obtain ⟨b, off, rfl, _, hb2, c0, c1, c2, c3, c4, c5⟩ := Pk_at (H.out.below hi' hB) hkn
      go_wp2_with fail
      refine (toPk_any _ _ _ _ _ _ _).mono ?_
      rintro e w2 ⟨rfl, hbw⟩
      have hO2 := hO.below hs hbw
      have hs2 := hbw.size
      have hB2 : Below w.heap.size w w2 := hB.trans (hbw.mono hB.size)
      rcases hO2.cases with ⟨e, _⟩ | ⟨g, hg, hlo, _, hgl, _, hfz, hcl⟩
      · cases e
      · cases hg
        have d0 := hcl (k * 6) (by omega)
        have d1 := hcl (k * 6 + 1) (by omega)
        have d2 := hcl (k * 6 + 2) (by omega)
        have d3 := hcl (k * 6 + 3) (by omega)
        have d4 := hcl (k * 6 + 4) (by omega)
        have d5 := hcl (k * 6 + 5) (by omega)
        generalize PkF (fun j => if j < k then p j else Pk0) (k * 6) = y0 at d0
        generalize PkF (fun j => if j < k then p j else Pk0) (k * 6 + 1) = y1 at d1
        generalize PkF (fun j => if j < k then p j else Pk0) (k * 6 + 2) = y2 at d2
        generalize PkF (fun j => if j < k then p j else Pk0) (k * 6 + 3) = y3 at d3
        generalize PkF (fun j => if j < k then p j else Pk0) (k * 6 + 4) = y4 at d4
        generalize PkF (fun j => if j < k then p j else Pk0) (k * 6 + 5) = y5 at d5
        have f0 := hfz (k * 6)
        have f1 := hfz (k * 6 + 1)
        have f2 := hfz (k * 6 + 2)
        have f3 := hfz (k * 6 + 3)
        have f4 := hfz (k * 6 + 4)
        have f5 := hfz (k * 6 + 5)
        clear hcl hfz
        go_wp2
        go_roundw
        case rel =>
          refine ⟨k + 1, by omega, by go_num, ((((((hO2.store (k * 6) (.int .i64 (p k).w)).store (k * 6 + 1) (.int .i64 (p k).t)).store (k * 6 + 2) (.int .i64 (p k).l)).store (k * 6 + 3) (.int .i64 (p k).s)).store (k * 6 + 4) (.bool (p k).k)).store (k * 6 + 5) (.bool (p k).z)).congr ?_, by simp [World.setCell]; omega, ?_⟩
          · intro j hj
            refine (RowF_put (sz := 6) (C := PkC) (q := fun j => if j < k then p j else Pk0) (k := k) (x := p k) (by decide) ?_ ?_ j).trans (RowF_congr (n := n) (by decide) (fun i hi => ?_) j hj)
            · intro r hr
              rcases (by omega : r = 0 ∨ r = 1 ∨ r = 2 ∨ r = 3 ∨ r = 4 ∨ r = 5) with rfl | rfl | rfl | rfl | rfl | rfl <;> simp [updF, PkC]
            · intro j hj
              unfold updF
              rw [if_neg (by omega), if_neg (by omega), if_neg (by omega), if_neg (by omega), if_neg (by omega), if_neg (by omega)]
              rfl
            · unfold updE
              by_cases e : i = k
              · subst e; simp
              · by_cases e2 : i < k
                · simp [e, e2, show i < k + 1 by omega]
                · simp [e, e2, show ¬ i < k + 1 by omega]
          · exact ((((((hB2.setCell (Nat.le_refl _) _).setCell (Nat.le_refl _) _).setCell (Nat.le_refl _) _).setCell (Nat.le_refl _) _).setCell (Nat.le_refl _) _).setCell (Nat.le_refl _) _)
        case measure => simp [intOf]; omega
    · obtain rfl : k = n := by omega
      go_wp2
      go_ret
      exact ⟨_, _, (hO.wide (Nat.le_refl _) hs).congr (RowF_congr (n := k) (by decide) fun i hi => by simp [hi]), rfl, hB⟩
set_option maxRecDepth 100000 in
set_option maxHeartbeats 8000000 in
theorem ipks_any (w : World) (lo hi : Nat) (A : Option Addr) (n c : Nat) (p : Nat → Pk) (h : RowAt w lo hi A n 6 (PkF p)) (hi' : hi ≤ w.heap.size) (hn : n ≤ 1048576) :
    Calls Try.prog 65 #[.slice A n c] w fun e w' => e = .returned (.bool (pksB n p)) ∧ Below w.heap.size w w' := by
  have H := Lib.hid h
  clear h
  by_cases h20 : n ≤ 20
  · skip
    go_enter Try.func65, Try.ntmps65
    go_wp2
    go_loopw [10] (fun i wr => ∃ k, k ≤ n ∧ i = .int .i64 k ∧ Hid (PksUp k p) ∧ Below w.heap.size w wr) (fun i _ => n - (intOf i).toNat)
    case atStart => exact ⟨0, Nat.zero_le _, rfl, Lib.hid (PksUp.zero p), Below.refl _ _⟩
    case round =>
      obtain ⟨k, hk, rfl, hA, hB⟩ := hrel
      have hBs := hB.size
      by_cases hkn : k < n
      · have hv := fun W : World => ipv_any (p k).w (p k).t (p k).l (p k).s (p k).k (p k).z W
        by_cases hd : PkOk (p k)
        · rw [show pkB ⟨(p k).w, (p k).t, (p k).l, (p k).s, (p k).k, (p k).z⟩ = true from decide_eq_true hd] at hv
          by_cases hk0 : k = 0
          · subst hk0
            obtain ⟨b, off, rfl, _, hb2, c0, c1, c2, c3, c4, c5⟩ := Pk_at (H.out.below hi' hB) hkn
            simp only [Nat.zero_mul, Nat.add_zero] at c0 c1 c2 c3 c4 c5
            have hbw : b < wr.heap.size := by omega
            have HV := Lib.hid hv
            clear hv
            go_wp2_with fail
            refine (HV.out _).mono ?_
            rintro e w2 ⟨rfl, hbv⟩
            obtain ⟨hcv, hfv⟩ := bcell hbv
            have hyv := hbv.size
            (try simp at hyv)
            have gv := fun o => hcv wr.heap.size o (by simp)
            (try simp [go_sem] at gv)
            have hwv : wr.heap.size < w2.heap.size := by omega
            have hbw2 : b < w2.heap.size := by omega
            go_wp2_with fail
            refine wp_region_mixB (by kernel_rfl) (by kernel_rfl) ?_
            repeat (first
              | (refine mix_skip rfl ?_; have e0 : True := trivial; clear e0; refine mix_putK ?_; intro K hK; go_simp; refine hK _ ?_; clear hK K)
              | (refine mix_readE rfl rfl rfl ?_; apply Exists.intro; refine ⟨fun w' hb' => ?_, ?_⟩; (focus (obtain ⟨hc', hf'⟩ := Old.cells hb'; clear hb'; go_simp; try exact rfl)); have e0 : True := trivial; clear e0; refine mix_putK ?_; intro K hK; go_simp; refine hK _ ?_; clear hK K)
              | (refine mix_pureE rfl rfl ?_; apply Exists.intro; refine ⟨fun w' => ?_, ?_⟩; (focus (go_simp; try exact rfl)); have e0 : True := trivial; clear e0; refine mix_putK ?_; intro K hK; go_simp; refine hK _ ?_; clear hK K)
              | (refine mix_eff rfl rfl ?_; go_wp2_with (fail); refine then_mix rfl ?_ ?_; (first | (intro h; have h2 : false = true := h; cases h2) | (intro _; refine Old.mk ?_; repeat (first | (with_reducible exact Below.refl _ _) | (with_reducible refine Bal ?_ _) | (with_reducible refine Below.drew ?_) | (with_reducible refine below_drewN ?_ _) | (with_reducible refine Bset ?_ ?_ _; focus (first | (with_reducible exact Nat.le_refl _) | (simp; done) | (simp; omega) | omega)) | (with_reducible refine Bt ?_ (by assumption)) | (with_reducible refine Bp (g := g) ?_ (by assumption) (by assumption)))))))
            refine mix_nil ?_
            (try clear wj)
            go_wp2_with fail
            go_roundw
            case rel =>
              refine ⟨0 + 1, by omega, by go_num, Lib.hid (hA.out.succ hd (fun h => absurd h (by omega))), ?_⟩
              refine hB.trans (Below.mono (B := wr.heap.size) ?_ hB.size)
              repeat (first | (with_reducible exact Below.refl _ _) | (with_reducible refine Bal ?_ _) | (with_reducible refine Below.drew ?_) | (with_reducible refine below_drewN ?_ _) | (with_reducible refine Bset ?_ ?_ _; focus (first | (with_reducible exact Nat.le_refl _) | (simp; done) | (simp; omega) | omega)) | (with_reducible refine Bt ?_ (by assumption)) | (with_reducible refine Bp (g := g) ?_ (by assumption) (by assumption)))
            case measure => simp [intOf]; omega
          · obtain ⟨j, rfl⟩ : ∃ j, k = j + 1 := ⟨k - 1, by omega⟩
            obtain ⟨b, off, rfl, _, hb2, c0, c1, c2, c3, c4, c5⟩ := Pk_at (H.out.below hi' hB) hkn
            obtain ⟨b', off', hAe, _, _, d0, d1, _, _, _, _⟩ := Pk_at (H.out.below hi' hB) (show j < n by omega)
            cases hAe
            have hbw : b < wr.heap.size := by omega
            have HV := Lib.hid hv
            have wj : IntKind.i64.wrap (j : Int) = (j : Int) := IntWalk.i64_in _ (by omega)
            have hjn : j < n := by omega
            clear hv hk0
            by_cases h1 : (p j).w < (p (j + 1)).w
            · have hx1 : decide ((p (j + 1)).w ≤ (p j).w) = false := decide_eq_false (by omega)
              by_cases h2 : (p j).t ≤ (p (j + 1)).t
              · have hnx : PkNx (p j) (p (j + 1)) := ⟨h1, h2⟩
                have hx2 : decide ((p (j + 1)).t < (p j).t) = false := decide_eq_false (by omega)
                go_wp2_with fail
                refine (HV.out _).mono ?_
                rintro e w2 ⟨rfl, hbv⟩
                obtain ⟨hcv, hfv⟩ := bcell hbv
                have hyv := hbv.size
                (try simp at hyv)
                have gv := fun o => hcv wr.heap.size o (by simp)
                (try simp [go_sem] at gv)
                have hwv : wr.heap.size < w2.heap.size := by omega
                have hbw2 : b < w2.heap.size := by omega
                go_wp2_with fail
                refine wp_region_mixB (by kernel_rfl) (by kernel_rfl) ?_
                repeat (first
                  | (refine mix_skip rfl ?_; have e0 : True := trivial; clear e0; refine mix_putK ?_; intro K hK; go_simp; refine hK _ ?_; clear hK K)
                  | (refine mix_readE rfl rfl rfl ?_; apply Exists.intro; refine ⟨fun w' hb' => ?_, ?_⟩; (focus (obtain ⟨hc', hf'⟩ := Old.cells hb'; clear hb'; go_simp; try exact rfl)); have e0 : True := trivial; clear e0; refine mix_putK ?_; intro K hK; go_simp; refine hK _ ?_; clear hK K)
                  | (refine mix_pureE rfl rfl ?_; apply Exists.intro; refine ⟨fun w' => ?_, ?_⟩; (focus (go_simp; try exact rfl)); have e0 : True := trivial; clear e0; refine mix_putK ?_; intro K hK; go_simp; refine hK _ ?_; clear hK K)
                  | (refine mix_eff rfl rfl ?_; go_wp2_with (fail); refine then_mix rfl ?_ ?_; (first | (intro h; have h2 : false = true := h; cases h2) | (intro _; refine Old.mk ?_; repeat (first | (with_reducible exact Below.refl _ _) | (with_reducible refine Bal ?_ _) | (with_reducible refine Below.drew ?_) | (with_reducible refine below_drewN ?_ _) | (with_reducible refine Bset ?_ ?_ _; focus (first | (with_reducible exact Nat.le_refl _) | (simp; done) | (simp; omega) | omega)) | (with_reducible refine Bt ?_ (by assumption)) | (with_reducible refine Bp (g := g) ?_ (by assumption) (by assumption)))))))
                refine mix_nil ?_
                (try clear wj)
                go_wp2_with fail
                go_roundw
                case rel =>
                  refine ⟨j + 1 + 1, by omega, by go_num, Lib.hid (hA.out.succ hd (fun _ => hnx)), ?_⟩
                  refine hB.trans (Below.mono (B := wr.heap.size) ?_ hB.size)
                  repeat (first | (with_reducible exact Below.refl _ _) | (with_reducible refine Bal ?_ _) | (with_reducible refine Below.drew ?_) | (with_reducible refine below_drewN ?_ _) | (with_reducible refine Bset ?_ ?_ _; focus (first | (with_reducible exact Nat.le_refl _) | (simp; done) | (simp; omega) | omega)) | (with_reducible refine Bt ?_ (by assumption)) | (with_reducible refine Bp (g := g) ?_ (by assumption) (by assumption)))
                case measure => simp [intOf]; omega
              · have h2' : (p (j + 1)).t < (p j).t := by omega
                have hx2 : decide ((p (j + 1)).t < (p j).t) = true := decide_eq_true (by omega)
                have hno : ¬ PksOk n p := fun h => by have := ((h.2 (j + 1) hkn).2 (by omega)).2; simp at this; omega
                have HN := Lib.hid hno
                clear hno
                go_wp2_with fail
                refine (HV.out _).mono ?_
                rintro e w2 ⟨rfl, hbv⟩
                obtain ⟨hcv, hfv⟩ := bcell hbv
                have hyv := hbv.size
                (try simp at hyv)
                have gv := fun o => hcv wr.heap.size o (by simp)
                (try simp [go_sem] at gv)
                have hwv : wr.heap.size < w2.heap.size := by omega
                have hbw2 : b < w2.heap.size := by omega
                go_wp2_with fail
                refine wp_region_mixB (by kernel_rfl) (by kernel_rfl) ?_
                repeat (first
                  | (refine mix_skip rfl ?_; have e0 : True := trivial; clear e0; refine mix_putK ?_; intro K hK; go_simp; refine hK _ ?_; clear hK K)
                  | (refine mix_readE rfl rfl rfl ?_; apply Exists.intro; refine ⟨fun w' hb' => ?_, ?_⟩; (focus (obtain ⟨hc', hf'⟩ := Old.cells hb'; clear hb'; go_simp; try exact rfl)); have e0 : True := trivial; clear e0; refine mix_putK ?_; intro K hK; go_simp; refine hK _ ?_; clear hK K)
                  | (refine mix_pureE rfl rfl ?_; apply Exists.intro; refine ⟨fun w' => ?_, ?_⟩; (focus (go_simp; try exact rfl)); have e0 : True := trivial; clear e0; refine mix_putK ?_; intro K hK; go_simp; refine hK _ ?_; clear hK K)
                  | (refine mix_eff rfl rfl ?_; go_wp2_with (fail); refine then_mix rfl ?_ ?_; (first | (intro h; have h2 : false = true := h; cases h2) | (intro _; refine Old.mk ?_; repeat (first | (with_reducible exact Below.refl _ _) | (with_reducible refine Bal ?_ _) | (with_reducible refine Below.drew ?_) | (with_reducible refine below_drewN ?_ _) | (with_reducible refine Bset ?_ ?_ _; focus (first | (with_reducible exact Nat.le_refl _) | (simp; done) | (simp; omega) | omega)) | (with_reducible refine Bt ?_ (by assumption)) | (with_reducible refine Bp (g := g) ?_ (by assumption) (by assumption)))))))
                refine mix_nil ?_
                (try clear wj)
                go_wp2_with fail
                go_ret
                go_light
                refine ⟨ret_bool (decide_eq_false fun h => HN.out h).symm, ?_⟩
                refine hB.trans (Below.mono (B := wr.heap.size) ?_ hB.size)
                repeat (first | (with_reducible exact Below.refl _ _) | (with_reducible refine Bal ?_ _) | (with_reducible refine Below.drew ?_) | (with_reducible refine below_drewN ?_ _) | (with_reducible refine Bset ?_ ?_ _; focus (first | (with_reducible exact Nat.le_refl _) | (simp; done) | (simp; omega) | omega)) | (with_reducible refine Bt ?_ (by assumption)) | (with_reducible refine Bp (g := g) ?_ (by assumption) (by assumption)))
            · have h1' : (p (j + 1)).w ≤ (p j).w := by omega
              have hx1 : decide ((p (j + 1)).w ≤ (p j).w) = true := decide_eq_true (by omega)
              have hno : ¬ PksOk n p := fun h => by have := ((h.2 (j + 1) hkn).2 (by omega)).1; simp at this; omega
              have HN := Lib.hid hno
              clear hno
              go_wp2_with fail
              refine (HV.out _).mono ?_
              rintro e w2 ⟨rfl, hbv⟩
              obtain ⟨hcv, hfv⟩ := bcell hbv
              have hyv := hbv.size
              (try simp at hyv)
              have gv := fun o => hcv wr.heap.size o (by simp)
              (try simp [go_sem] at gv)
              have hwv : wr.heap.size < w2.heap.size := by omega
              have hbw2 : b < w2.heap.size := by omega
              go_wp2_with fail
              refine wp_region_mixB (by kernel_rfl) (by kernel_rfl) ?_
              repeat (first
                | (refine mix_skip rfl ?_; have e0 : True := trivial; clear e0; refine mix_putK ?_; intro K hK; go_simp; refine hK _ ?_; clear hK K)
                | (refine mix_readE rfl rfl rfl ?_; apply Exists.intro; refine ⟨fun w' hb' => ?_, ?_⟩; (focus (obtain ⟨hc', hf'⟩ := Old.cells hb'; clear hb'; go_simp; try exact rfl)); have e0 : True := trivial; clear e0; refine mix_putK ?_; intro K hK; go_simp; refine hK _ ?_; clear hK K)
                | (refine mix_pureE rfl rfl ?_; apply Exists.intro; refine ⟨fun w' => ?_, ?_⟩; (focus (go_simp; try exact rfl)); have e0 : True := trivial; clear e0; refine mix_putK ?_; intro K hK; go_simp; refine hK _ ?_; clear hK K)
                | (refine mix_eff rfl rfl ?_; go_wp2_with (fail); refine then_mix rfl ?_ ?_; (first | (intro h; have h2 : false = true := h; cases h2) | (intro _; refine Old.mk ?_; repeat (first | (with_reducible exact Below.refl _ _) | (with_reducible refine Bal ?_ _) | (with_reducible refine Below.drew ?_) | (with_reducible refine below_drewN ?_ _) | (with_reducible refine Bset ?_ ?_ _; focus (first | (with_reducible exact Nat.le_refl _) | (simp; done) | (simp; omega) | omega)) | (with_reducible refine Bt ?_ (by assumption)) | (with_reducible refine Bp (g := g) ?_ (by assumption) (by assumption)))))))
              refine mix_nil ?_
              (try clear wj)
              go_wp2_with fail
              go_ret
              go_light
              refine ⟨ret_bool (decide_eq_false fun h => HN.out h).symm, ?_⟩
              refine hB.trans (Below.mono (B := wr.heap.size) ?_ hB.size)
              repeat (first | (with_reducible exact Below.refl _ _) | (with_reducible refine Bal ?_ _) | (with_reducible refine Below.drew ?_) | (with_reducible refine below_drewN ?_ _) | (with_reducible refine Bset ?_ ?_ _; focus (first | (with_reducible exact Nat.le_refl _) | (simp; done) | (simp; omega) | omega)) | (with_reducible refine Bt ?_ (by assumption)) | (with_reducible refine Bp (g := g) ?_ (by assumption) (by assumption)))
        · rw [show pkB ⟨(p k).w, (p k).t, (p k).l, (p k).s, (p k).k, (p k).z⟩ = false from decide_eq_false hd] at hv
          obtain ⟨b, off, rfl, _, hb2, c0, c1, c2, c3, c4, c5⟩ := Pk_at (H.out.below hi' hB) hkn
          have hbw : b < wr.heap.size := by omega
          have HV := Lib.hid hv
          clear hv
          go_wp2_with fail
          refine (HV.out _).mono ?_
          rintro e w2 ⟨rfl, hbv⟩
          obtain ⟨hcv, hfv⟩ := bcell hbv
          have hyv := hbv.size
          (try simp at hyv)
          have gv := fun o => hcv wr.heap.size o (by simp)
          (try simp [go_sem] at gv)
          have hwv : wr.heap.size < w2.heap.size := by omega
          have hbw2 : b < w2.heap.size := by omega
          (try clear wj)
          go_wp2_with fail
          go_ret
          go_light
          refine ⟨ret_bool (decide_eq_false fun h => hd (h.2 k hkn).1).symm, ?_⟩
          refine hB.trans (Below.mono (B := wr.heap.size) ?_ hB.size)
          repeat (first | (with_reducible exact Below.refl _ _) | (with_reducible refine Bal ?_ _) | (with_reducible refine Below.drew ?_) | (with_reducible refine below_drewN ?_ _) | (with_reducible refine Bset ?_ ?_ _; focus (first | (with_reducible exact Nat.le_refl _) | (simp; done) | (simp; omega) | omega)) | (with_reducible refine Bt ?_ (by assumption)) | (with_reducible refine Bp (g := g) ?_ (by assumption) (by assumption)))
      · obtain rfl : k = n := by omega
        go_wp2
        go_ret
        exact ⟨ret_bool (decide_eq_true (show PksOk k p from ⟨h20, hA.out⟩)).symm, hB⟩
  · go_enter Try.func65, Try.ntmps65
    go_wp2
    go_ret
    exact ⟨ret_bool (decide_eq_false (show ¬ PksOk n p from fun h => h20 h.1)).symm, Below.refl _ _⟩
set_option maxRecDepth 100000 in
set_option maxHeartbeats 8000000 in
theorem spks_any (w : World) (lo hi : Nat) (A : Option Addr) (n c : Nat) (p : Nat → Pk) (h : RowAt w lo hi A n 6 (PkF p)) (hi' : hi ≤ w.heap.size) (hn : n ≤ 1048576) :
    Calls Try.prog 67 #[.slice A n c] w fun e w' => e = .returned (.bool (pksB n p)) ∧ Below w.heap.size w w' := by
  have H := Lib.hid h
  clear h
  go_enter Try.func67, Try.ntmps67
  go_wp2
  go_loopw [3] (fun i wr => ∃ k, k ≤ n ∧ i = .int .i64 k ∧ Hid (PksUp k p) ∧ Below w.heap.size w wr) (fun i _ => n - (intOf i).toNat)
  case atStart => exact ⟨0, Nat.zero_le _, rfl, Lib.hid (PksUp.zero p), Below.refl _ _⟩
  case round =>
    obtain ⟨k, hk, rfl, hA, hB⟩ := hrel
    have hBs := hB.size
    by_cases hkn : k < n
    · have hv := fun W : World => spv_any (p k).w (p k).t (p k).l (p k).s (p k).k (p k).z W
      by_cases hd : PkOk (p k)
      · rw [show pkB ⟨(p k).w, (p k).t, (p k).l, (p k).s, (p k).k, (p k).z⟩ = true from decide_eq_true hd] at hv
        by_cases hk0 : k = 0
        · subst hk0
          obtain ⟨b, off, rfl, _, hb2, c0, c1, c2, c3, c4, c5⟩ := Pk_at (H.out.below hi' hB) hkn
          simp only [Nat.zero_mul, Nat.add_zero] at c0 c1 c2 c3 c4 c5
          have hbw : b < wr.heap.size := by omega
          have HV := Lib.hid hv
          clear hv
          go_wp2_with fail
          refine wp_region_mixB (by kernel_rfl) (by kernel_rfl) ?_
          repeat (first
            | (refine mix_skip rfl ?_; have e0 : True := trivial; clear e0; refine mix_putK ?_; intro K hK; go_simp; refine hK _ ?_; clear hK K)
            | (refine mix_readE rfl rfl rfl ?_; apply Exists.intro; refine ⟨fun w' hb' => ?_, ?_⟩; (focus (obtain ⟨hc', hf'⟩ := Old.cells hb'; clear hb'; go_simp; try exact rfl)); have e0 : True := trivial; clear e0; refine mix_putK ?_; intro K hK; go_simp; refine hK _ ?_; clear hK K)
            | (refine mix_pureE rfl rfl ?_; apply Exists.intro; refine ⟨fun w' => ?_, ?_⟩; (focus (go_simp; try exact rfl)); have e0 : True := trivial; clear e0; refine mix_putK ?_; intro K hK; go_simp; refine hK _ ?_; clear hK K)
            | (refine mix_eff rfl rfl ?_; go_wp2_with ((go_at_call 77; refine (HV.out _).mono ?_; rintro e w2 ⟨rfl, hbv⟩)); refine then_mix rfl ?_ ?_; (first | (intro h; have h2 : false = true := h; cases h2) | (intro _; refine Old.mk ?_; repeat (first | (with_reducible exact Below.refl _ _) | (with_reducible refine Bal ?_ _) | (with_reducible refine Below.drew ?_) | (with_reducible refine below_drewN ?_ _) | (with_reducible refine Bset ?_ ?_ _; focus (first | (with_reducible exact Nat.le_refl _) | (simp; done) | (simp; omega) | omega)) | (with_reducible refine Bt ?_ (by assumption)) | (with_reducible refine Bp (g := g) ?_ (by assumption) (by assumption)))))))
          refine mix_nil ?_
          (try clear wj)
          go_wp2_with fail
          go_roundw
          case rel =>
            refine ⟨0 + 1, by omega, by go_num, Lib.hid (hA.out.succ hd (fun h => absurd h (by omega))), ?_⟩
            refine hB.trans (Below.mono (B := wr.heap.size) ?_ hB.size)
            repeat (first | (with_reducible exact Below.refl _ _) | (with_reducible refine Bal ?_ _) | (with_reducible refine Below.drew ?_) | (with_reducible refine below_drewN ?_ _) | (with_reducible refine Bset ?_ ?_ _; focus (first | (with_reducible exact Nat.le_refl _) | (simp; done) | (simp; omega) | omega)) | (with_reducible refine Bt ?_ (by assumption)) | (with_reducible refine Bp (g := g) ?_ (by assumption) (by assumption)))
          case measure => simp [intOf]; omega
        · obtain ⟨j, rfl⟩ : ∃ j, k = j + 1 := ⟨k - 1, by omega⟩
          obtain ⟨b, off, rfl, _, hb2, c0, c1, c2, c3, c4, c5⟩ := Pk_at (H.out.below hi' hB) hkn
          obtain ⟨b', off', hAe, _, _, d0, d1, _, _, _, _⟩ := Pk_at (H.out.below hi' hB) (show j < n by omega)
          cases hAe
          have hbw : b < wr.heap.size := by omega
          have HV := Lib.hid hv
          have wj : IntKind.i64.wrap (j : Int) = (j : Int) := IntWalk.i64_in _ (by omega)
          have hjn : j < n := by omega
          clear hv hk0
          by_cases h1 : (p j).w < (p (j + 1)).w
          · have hx1 : decide ((p (j + 1)).w ≤ (p j).w) = false := decide_eq_false (by omega)
            by_cases h2 : (p j).t ≤ (p (j + 1)).t
            · have hnx : PkNx (p j) (p (j + 1)) := ⟨h1, h2⟩
              have hx2 : decide ((p (j + 1)).t < (p j).t) = false := decide_eq_false (by omega)
              go_wp2_with fail
              refine wp_region_mixB (by kernel_rfl) (by kernel_rfl) ?_
              repeat (first
                | (refine mix_skip rfl ?_; have e0 : True := trivial; clear e0; refine mix_putK ?_; intro K hK; go_simp; refine hK _ ?_; clear hK K)
                | (refine mix_readE rfl rfl rfl ?_; apply Exists.intro; refine ⟨fun w' hb' => ?_, ?_⟩; (focus (obtain ⟨hc', hf'⟩ := Old.cells hb'; clear hb'; go_simp; try exact rfl)); have e0 : True := trivial; clear e0; refine mix_putK ?_; intro K hK; go_simp; refine hK _ ?_; clear hK K)
                | (refine mix_pureE rfl rfl ?_; apply Exists.intro; refine ⟨fun w' => ?_, ?_⟩; (focus (go_simp; try exact rfl)); have e0 : True := trivial; clear e0; refine mix_putK ?_; intro K hK; go_simp; refine hK _ ?_; clear hK K)
                | (refine mix_eff rfl rfl ?_; go_wp2_with ((go_at_call 77; refine (HV.out _).mono ?_; rintro e w2 ⟨rfl, hbv⟩)); refine then_mix rfl ?_ ?_; (first | (intro h; have h2 : false = true := h; cases h2) | (intro _; refine Old.mk ?_; repeat (first | (with_reducible exact Below.refl _ _) | (with_reducible refine Bal ?_ _) | (with_reducible refine Below.drew ?_) | (with_reducible refine below_drewN ?_ _) | (with_reducible refine Bset ?_ ?_ _; focus (first | (with_reducible exact Nat.le_refl _) | (simp; done) | (simp; omega) | omega)) | (with_reducible refine Bt ?_ (by assumption)) | (with_reducible refine Bp (g := g) ?_ (by assumption) (by assumption)))))))
              refine mix_nil ?_
              (try clear wj)
              go_wp2_with fail
              go_roundw
              case rel =>
                refine ⟨j + 1 + 1, by omega, by go_num, Lib.hid (hA.out.succ hd (fun _ => hnx)), ?_⟩
                refine hB.trans (Below.mono (B := wr.heap.size) ?_ hB.size)
                repeat (first | (with_reducible exact Below.refl _ _) | (with_reducible refine Bal ?_ _) | (with_reducible refine Below.drew ?_) | (with_reducible refine below_drewN ?_ _) | (with_reducible refine Bset ?_ ?_ _; focus (first | (with_reducible exact Nat.le_refl _) | (simp; done) | (simp; omega) | omega)) | (with_reducible refine Bt ?_ (by assumption)) | (with_reducible refine Bp (g := g) ?_ (by assumption) (by assumption)))
              case measure => simp [intOf]; omega
            · have h2' : (p (j + 1)).t < (p j).t := by omega
              have hx2 : decide ((p (j + 1)).t < (p j).t) = true := decide_eq_true (by omega)
              have hno : ¬ PksOk n p := fun h => by have := ((h.2 (j + 1) hkn).2 (by omega)).2; simp at this; omega
              have HN := Lib.hid hno
              clear hno
              go_wp2_with fail
              refine wp_region_mixB (by kernel_rfl) (by kernel_rfl) ?_
              repeat (first
                | (refine mix_skip rfl ?_; have e0 : True := trivial; clear e0; refine mix_putK ?_; intro K hK; go_simp; refine hK _ ?_; clear hK K)
                | (refine mix_readE rfl rfl rfl ?_; apply Exists.intro; refine ⟨fun w' hb' => ?_, ?_⟩; (focus (obtain ⟨hc', hf'⟩ := Old.cells hb'; clear hb'; go_simp; try exact rfl)); have e0 : True := trivial; clear e0; refine mix_putK ?_; intro K hK; go_simp; refine hK _ ?_; clear hK K)
                | (refine mix_pureE rfl rfl ?_; apply Exists.intro; refine ⟨fun w' => ?_, ?_⟩; (focus (go_simp; try exact rfl)); have e0 : True := trivial; clear e0; refine mix_putK ?_; intro K hK; go_simp; refine hK _ ?_; clear hK K)
                | (refine mix_eff rfl rfl ?_; go_wp2_with ((go_at_call 77; refine (HV.out _).mono ?_; rintro e w2 ⟨rfl, hbv⟩)); refine then_mix rfl ?_ ?_; (first | (intro h; have h2 : false = true := h; cases h2) | (intro _; refine Old.mk ?_; repeat (first | (with_reducible exact Below.refl _ _) | (with_reducible refine Bal ?_ _) | (with_reducible refine Below.drew ?_) | (with_reducible refine below_drewN ?_ _) | (with_reducible refine Bset ?_ ?_ _; focus (first | (with_reducible exact Nat.le_refl _) | (simp; done) | (simp; omega) | omega)) | (with_reducible refine Bt ?_ (by assumption)) | (with_reducible refine Bp (g := g) ?_ (by assumption) (by assumption)))))))
              refine mix_nil ?_
              (try clear wj)
              go_wp2_with fail
              go_ret
              go_light
              refine ⟨ret_bool (decide_eq_false fun h => HN.out h).symm, ?_⟩
              refine hB.trans (Below.mono (B := wr.heap.size) ?_ hB.size)
              repeat (first | (with_reducible exact Below.refl _ _) | (with_reducible refine Bal ?_ _) | (with_reducible refine Below.drew ?_) | (with_reducible refine below_drewN ?_ _) | (with_reducible refine Bset ?_ ?_ _; focus (first | (with_reducible exact Nat.le_refl _) | (simp; done) | (simp; omega) | omega)) | (with_reducible refine Bt ?_ (by assumption)) | (with_reducible refine Bp (g := g) ?_ (by assumption) (by assumption)))
          · have h1' : (p (j + 1)).w ≤ (p j).w := by omega
            have hx1 : decide ((p (j + 1)).w ≤ (p j).w) = true := decide_eq_true (by omega)
            have hno : ¬ PksOk n p := fun h => by have := ((h.2 (j + 1) hkn).2 (by omega)).1; simp at this; omega
            have HN := Lib.hid hno
            clear hno
            go_wp2_with fail
            refine wp_region_mixB (by kernel_rfl) (by kernel_rfl) ?_
            repeat (first
              | (refine mix_skip rfl ?_; have e0 : True := trivial; clear e0; refine mix_putK ?_; intro K hK; go_simp; refine hK _ ?_; clear hK K)
              | (refine mix_readE rfl rfl rfl ?_; apply Exists.intro; refine ⟨fun w' hb' => ?_, ?_⟩; (focus (obtain ⟨hc', hf'⟩ := Old.cells hb'; clear hb'; go_simp; try exact rfl)); have e0 : True := trivial; clear e0; refine mix_putK ?_; intro K hK; go_simp; refine hK _ ?_; clear hK K)
              | (refine mix_pureE rfl rfl ?_; apply Exists.intro; refine ⟨fun w' => ?_, ?_⟩; (focus (go_simp; try exact rfl)); have e0 : True := trivial; clear e0; refine mix_putK ?_; intro K hK; go_simp; refine hK _ ?_; clear hK K)
              | (refine mix_eff rfl rfl ?_; go_wp2_with ((go_at_call 77; refine (HV.out _).mono ?_; rintro e w2 ⟨rfl, hbv⟩)); refine then_mix rfl ?_ ?_; (first | (intro h; have h2 : false = true := h; cases h2) | (intro _; refine Old.mk ?_; repeat (first | (with_reducible exact Below.refl _ _) | (with_reducible refine Bal ?_ _) | (with_reducible refine Below.drew ?_) | (with_reducible refine below_drewN ?_ _) | (with_reducible refine Bset ?_ ?_ _; focus (first | (with_reducible exact Nat.le_refl _) | (simp; done) | (simp; omega) | omega)) | (with_reducible refine Bt ?_ (by assumption)) | (with_reducible refine Bp (g := g) ?_ (by assumption) (by assumption)))))))
            refine mix_nil ?_
            (try clear wj)
            go_wp2_with fail
            go_ret
            go_light
            refine ⟨ret_bool (decide_eq_false fun h => HN.out h).symm, ?_⟩
            refine hB.trans (Below.mono (B := wr.heap.size) ?_ hB.size)
            repeat (first | (with_reducible exact Below.refl _ _) | (with_reducible refine Bal ?_ _) | (with_reducible refine Below.drew ?_) | (with_reducible refine below_drewN ?_ _) | (with_reducible refine Bset ?_ ?_ _; focus (first | (with_reducible exact Nat.le_refl _) | (simp; done) | (simp; omega) | omega)) | (with_reducible refine Bt ?_ (by assumption)) | (with_reducible refine Bp (g := g) ?_ (by assumption) (by assumption)))
      · rw [show pkB ⟨(p k).w, (p k).t, (p k).l, (p k).s, (p k).k, (p k).z⟩ = false from decide_eq_false hd] at hv
        obtain ⟨b, off, rfl, _, hb2, c0, c1, c2, c3, c4, c5⟩ := Pk_at (H.out.below hi' hB) hkn
        have hbw : b < wr.heap.size := by omega
        have HV := Lib.hid hv
        clear hv
        go_wp2_with fail
        refine wp_region_mixB (by kernel_rfl) (by kernel_rfl) ?_
        repeat (first
          | (refine mix_skip rfl ?_; have e0 : True := trivial; clear e0; refine mix_putK ?_; intro K hK; go_simp; refine hK _ ?_; clear hK K)
          | (refine mix_readE rfl rfl rfl ?_; apply Exists.intro; refine ⟨fun w' hb' => ?_, ?_⟩; (focus (obtain ⟨hc', hf'⟩ := Old.cells hb'; clear hb'; go_simp; try exact rfl)); have e0 : True := trivial; clear e0; refine mix_putK ?_; intro K hK; go_simp; refine hK _ ?_; clear hK K)
          | (refine mix_pureE rfl rfl ?_; apply Exists.intro; refine ⟨fun w' => ?_, ?_⟩; (focus (go_simp; try exact rfl)); have e0 : True := trivial; clear e0; refine mix_putK ?_; intro K hK; go_simp; refine hK _ ?_; clear hK K)
          | (refine mix_eff rfl rfl ?_; go_wp2_with ((go_at_call 77; refine (HV.out _).mono ?_; rintro e w2 ⟨rfl, hbv⟩)); refine then_mix rfl ?_ ?_; (first | (intro h; have h2 : false = true := h; cases h2) | (intro _; refine Old.mk ?_; repeat (first | (with_reducible exact Below.refl _ _) | (with_reducible refine Bal ?_ _) | (with_reducible refine Below.drew ?_) | (with_reducible refine below_drewN ?_ _) | (with_reducible refine Bset ?_ ?_ _; focus (first | (with_reducible exact Nat.le_refl _) | (simp; done) | (simp; omega) | omega)) | (with_reducible refine Bt ?_ (by assumption)) | (with_reducible refine Bp (g := g) ?_ (by assumption) (by assumption)))))))
        refine mix_nil ?_
        (try clear wj)
        go_wp2_with fail
        go_ret
        go_light
        refine ⟨ret_bool (decide_eq_false fun h => hd (h.2 k hkn).1).symm, ?_⟩
        refine hB.trans (Below.mono (B := wr.heap.size) ?_ hB.size)
        repeat (first | (with_reducible exact Below.refl _ _) | (with_reducible refine Bal ?_ _) | (with_reducible refine Below.drew ?_) | (with_reducible refine below_drewN ?_ _) | (with_reducible refine Bset ?_ ?_ _; focus (first | (with_reducible exact Nat.le_refl _) | (simp; done) | (simp; omega) | omega)) | (with_reducible refine Bt ?_ (by assumption)) | (with_reducible refine Bp (g := g) ?_ (by assumption) (by assumption)))
    · obtain rfl : k = n := by omega
      go_wp2
      go_ret
      refine ⟨ret_bool ?_, hB⟩
      by_cases h6 : k ≤ 20
      · rw [show pksB k p = true from decide_eq_true ⟨h6, hA.out⟩]; simp; omega
      · rw [show pksB k p = false from decide_eq_false fun h => h6 h.1]; simp; omega
end Go.Proofs.Ytmidpodoapggnaa
