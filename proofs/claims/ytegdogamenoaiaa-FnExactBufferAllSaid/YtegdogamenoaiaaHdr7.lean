/- Rows of packets that are held: an element stored whole; the heap's own methods Less and Swap. -/
import Derived.Test.YtegdogamenoaiaaPkr
import Derived.Test.YtegdogamenoaiaaFad
import Derived.Laws.IdiomCopy
import Derived.ChangeKeysEq
namespace Go.Proofs.Ytegdogamenoaiaa
open Go Go.RowKit
set_option linter.unusedVariables false
set_option linter.unusedSimpArgs false

structure Hd where
  p : Pk
  c : Int
def Hd0 : Hd := ⟨Pk0, 0⟩
def HdC (d : Hd) : Nat → Value
  | 0 => .int .i64 d.p.w
  | 1 => .int .i64 d.p.t
  | 2 => .int .i64 d.p.l
  | 3 => .int .i64 d.p.s
  | 4 => .bool d.p.k
  | 5 => .bool d.p.z
  | _ => .int .i64 d.c
def HdF : (Nat → Hd) → Nat → Value := RowF 7 HdC
def HdV (d : Hd) : Value := .agg #[.int .i64 d.p.w, .int .i64 d.p.t, .int .i64 d.p.l, .int .i64 d.p.s, .bool d.p.k, .bool d.p.z, .int .i64 d.c]
theorem hd_one (d : Hd) (r : Nat) : (HdC d r).oneCell' = true := by
  match r with
  | 0 => rfl
  | 1 => rfl
  | 2 => rfl
  | 3 => rfl
  | 4 => rfl
  | 5 => rfl
  | _ + 6 => rfl
theorem info_hd : (Try.prog.info? 54).map (fun i => (i.zero, i.size, i.bytes)) = some (some (.agg #[.int .i64 0, .int .i64 0, .int .i64 0, .int .i64 0, .bool false, .bool false, .int .i64 0]), 7, 48) := by kernel_rfl
theorem Hd_at {w : World} {lo hi : Nat} {A : Option Addr} {n : Nat} {p : Nat → Hd} (h : RowAt w lo hi A n 7 (HdF p)) {k : Nat} (hk : k < n) :
    ∃ b off, A = some ⟨b, off, none⟩ ∧ lo ≤ b ∧ b < hi ∧ w.cell? ⟨b, off + k * 7, none⟩ = some (.int .i64 (p k).p.w) ∧ w.cell? ⟨b, off + k * 7 + 1, none⟩ = some (.int .i64 (p k).p.t) ∧
      w.cell? ⟨b, off + k * 7 + 2, none⟩ = some (.int .i64 (p k).p.l) ∧ w.cell? ⟨b, off + k * 7 + 3, none⟩ = some (.int .i64 (p k).p.s) ∧ w.cell? ⟨b, off + k * 7 + 4, none⟩ = some (.bool (p k).p.k) ∧ w.cell? ⟨b, off + k * 7 + 5, none⟩ = some (.bool (p k).p.z) ∧
      w.cell? ⟨b, off + k * 7 + 6, none⟩ = some (.int .i64 (p k).c) := by
  obtain ⟨b, off, h1, h2, h3, h4⟩ := RowAt.elem h hk
  exact ⟨b, off, h1, h2, h3, h4 0 (by decide), h4 1 (by decide), h4 2 (by decide), h4 3 (by decide), h4 4 (by decide), h4 5 (by decide), h4 6 (by decide)⟩
theorem Hd_own {w : World} {e : TypeId} {lo hi n c g : Nat} {p : Nat → Hd} (h : RowOwn e w lo hi (some ⟨g, 0, none⟩) n c 7 (HdF p)) {k : Nat} (hk : k < n) :
    w.cell? ⟨g, k * 7, none⟩ = some (.int .i64 (p k).p.w) ∧ w.cell? ⟨g, k * 7 + 1, none⟩ = some (.int .i64 (p k).p.t) ∧
      w.cell? ⟨g, k * 7 + 2, none⟩ = some (.int .i64 (p k).p.l) ∧ w.cell? ⟨g, k * 7 + 3, none⟩ = some (.int .i64 (p k).p.s) ∧ w.cell? ⟨g, k * 7 + 4, none⟩ = some (.bool (p k).p.k) ∧ w.cell? ⟨g, k * 7 + 5, none⟩ = some (.bool (p k).p.z) ∧
      w.cell? ⟨g, k * 7 + 6, none⟩ = some (.int .i64 (p k).c) := by
  obtain ⟨b, off, h1, _, _, h4⟩ := Hd_at h.row hk
  cases h1
  simpa using h4
/-- Cells from place o on. -/
def updL (f : Nat → Value) (o : Nat) : List Value → Nat → Value
  | [] => f
  | v :: r => updL (updF f o v) (o + 1) r
theorem RowOwn.setCells {e : TypeId} {lo hi n c sz g : Nat} : ∀ (vs : List Value) (o : Nat) (w : World) (f : Nat → Value), RowOwn e w lo hi (some ⟨g, 0, none⟩) n c sz f → RowOwn e (w.setCells g o vs) lo hi (some ⟨g, 0, none⟩) n c sz (updL f o vs)
  | [], _, _, _, h => h
  | v :: r, o, w, f, h => RowOwn.setCells r (o + 1) _ _ (h.store o v)
theorem grown_setCells (g : Nat) : ∀ (vs : List Value) (o : Nat) (w : World), w.grownBy (w.setCells g o vs) (some g)
  | [], _, w => World.grownBy.refl _ _
  | v :: r, o, w => (grown_setCell w ⟨g, o, none⟩ v).trans (grown_setCells g r (o + 1) _)
theorem size_setCells (g : Nat) : ∀ (vs : List Value) (o : Nat) (w : World), (w.setCells g o vs).heap.size = w.heap.size
  | [], _, _ => rfl
  | v :: r, o, w => (size_setCells g r (o + 1) _).trans (by simp [World.setCell])
theorem updL_off : ∀ (vs : List Value) (o : Nat) (f : Nat → Value) (j : Nat), j < o ∨ o + vs.length ≤ j → updL f o vs j = f j
  | [], _, _, _, _ => rfl
  | v :: r, o, f, j, h => by
    rw [updL, updL_off r (o + 1) _ j (by simp at h; omega)]
    unfold updF
    rw [if_neg (by simp at h; omega)]
theorem updL_hd (q : Nat → Hd) (k : Nat) (x : Hd) : ∀ j, updL (HdF q) (k * 7) [.int .i64 x.p.w, .int .i64 x.p.t, .int .i64 x.p.l, .int .i64 x.p.s, .bool x.p.k, .bool x.p.z, .int .i64 x.c] j = HdF (updE q k x) j := by
  refine RowF_put (sz := 7) (C := HdC) (q := q) (k := k) (x := x) (by decide) ?_ ?_
  · intro r hr
    rcases (by omega : r = 0 ∨ r = 1 ∨ r = 2 ∨ r = 3 ∨ r = 4 ∨ r = 5 ∨ r = 6) with rfl | rfl | rfl | rfl | rfl | rfl | rfl <;> simp [updL, updF, HdC] <;> (try (repeat rw [if_neg (by omega)]))
  · intro j hj
    exact updL_off _ _ _ _ (by simpa using hj)
section
variable {P : Program} (w : World)
theorem size_of {t : TypeId} {i : TypeInfo} {sz : Nat} (hi : P.info? t = some i) (hs : i.size = sz) : (sizeOf t).run P w = .ok sz w := by
  simp [sizeOf, typeInfo, hi, hs]
/-- An element stored whole, in a row of the call's own. -/
theorem run_hdStore {t e : TypeId} {i : TypeInfo} (hi : P.info? t = some i) (hs : i.size = 7) {lo hh n c g k : Nat} {q : Nat → Hd} (hown : RowOwn e w lo hh (some ⟨g, 0, none⟩) n c 7 (HdF q)) (hk : k < n) (x : Hd) :
    ∃ w', (storeVar t ⟨g, k * 7, none⟩ (HdV x)).run P w = .ok () w' ∧ RowOwn e w' lo hh (some ⟨g, 0, none⟩) n c 7 (HdF (updE q k x)) ∧ w.grownBy w' (some g) ∧ w'.heap.size = w.heap.size := by
  refine ⟨w.setCells g (k * 7) [.int .i64 x.p.w, .int .i64 x.p.t, .int .i64 x.p.l, .int .i64 x.p.s, .bool x.p.k, .bool x.p.z, .int .i64 x.c], ?_, (RowOwn.setCells _ _ _ _ hown).congr fun j _ => updL_hd q k x j, grown_setCells _ _ _ _, size_setCells _ _ _ _⟩
  rcases RowOwn.cases hown with ⟨e', _⟩ | ⟨g', e', _, _, _, _, hf, hc⟩
  · cases e'
  · cases e'
    have := run_storeCells_cells (P := P) g (k * 7) [.int .i64 x.p.w, .int .i64 x.p.t, .int .i64 x.p.l, .int .i64 x.p.s, .bool x.p.k, .bool x.p.z, .int .i64 x.c] 0 w
      (fun j hj => by rw [hc _ (by simp at hj; omega)]; rfl) (fun j hj => hf _) (by simp [Value.oneCell'])
    simp only [Nat.add_zero] at this
    simp [storeVar, HdV, Value.cells, size_of w hi hs, this]
theorem wpList_hdStore {ops : Array Oper} {rest : List Oper} {o : Oper} {a : Act} {Q : Exit → Act → World → Prop} (hgd : o.guard = none) (x v : Operand) (t : TypeId) (ho : o.op = .store t x v)
    {e : TypeId} {i : TypeInfo} (hi : P.info? t = some i) (hs : i.size = 7) {lo hh n c g k : Nat} {q : Nat → Hd} (y : Hd) (hx : a.eval x = .pointer (some ⟨g, k * 7, none⟩)) (hv : a.eval v = HdV y)
    (hown : RowOwn e w lo hh (some ⟨g, 0, none⟩) n c 7 (HdF q)) (hk : k < n)
    (h : ∀ w', RowOwn e w' lo hh (some ⟨g, 0, none⟩) n c 7 (HdF (updE q k y)) → w.grownBy w' (some g) → w'.heap.size = w.heap.size → wpList P ops Q rest (a.put o.dst undef) w') : wpList P ops Q (o :: rest) a w := by
  obtain ⟨w', hrun, h2, h3, h4⟩ := run_hdStore (P := P) w hi hs hown hk y
  refine wpList_plain hgd fun K hK => ?_
  unfold Oper.wp execOp
  simp only [ho, hx, hv, Instr.storeAt, Instr.sureAddr, asAddr, Sem.run_bind, Sem.run_pure, Result.andThen_ok, hrun]
  exact hK _ _ (h w' h2 h3 h4)
end
set_option maxHeartbeats 2000000 in
theorem less_any (w : World) {g n c i j : Nat} {x y : Int} (hi : i < n) (hj : j < n) (hn : n ≤ 1000) (ci : w.cell? ⟨g, i * 7, none⟩ = some (.int .i64 x)) (cj : w.cell? ⟨g, j * 7, none⟩ = some (.int .i64 y)) (hg : g < w.heap.size) :
    Calls Try.prog 88 #[.slice (some ⟨g, 0, none⟩) n c, .int .i64 i, .int .i64 j] w fun e w' => e = .returned (.bool (decide (x < y))) ∧ w' = w.drew := by
  go_enter Try.func88, Try.ntmps88
  go_wp2
  refine wp_region_mixB (by kernel_rfl) (by kernel_rfl) ?_
  repeat (first
    | (refine mix_skip rfl ?_; have e0 : True := trivial; clear e0; refine mix_putK ?_; intro K hK; go_simp; refine hK _ ?_; clear hK K)
    | (refine mix_readE rfl rfl rfl ?_; apply Exists.intro; refine ⟨fun w' hb' => ?_, ?_⟩; (focus (obtain ⟨hc', hf'⟩ := Old.cells hb'; clear hb'; go_simp; try exact rfl)); have e0 : True := trivial; clear e0; refine mix_putK ?_; intro K hK; go_simp; refine hK _ ?_; clear hK K)
    | (refine mix_pureE rfl rfl ?_; apply Exists.intro; refine ⟨fun w' => ?_, ?_⟩; (focus (go_simp; try exact rfl)); have e0 : True := trivial; clear e0; refine mix_putK ?_; intro K hK; go_simp; refine hK _ ?_; clear hK K)
    | (refine mix_eff rfl rfl ?_; go_wp2_with (fail); refine then_mix rfl ?_ ?_; (first | (intro h; have h2 : false = true := h; cases h2) | (intro _; assumption) | (intro _; refine Old.mk ?_; repeat (first | (with_reducible exact Below.refl _ _) | (with_reducible refine Bal ?_ _) | (with_reducible refine Below.drew ?_) | (with_reducible refine below_drewN ?_ _) | (with_reducible refine Bset ?_ ?_ _; focus (first | (with_reducible exact Nat.le_refl _) | (simp; done) | (simp; omega) | omega)) | (with_reducible refine Bt ?_ (by assumption)) | (with_reducible refine Bp (g := g) ?_ (by assumption) (by assumption)))))))
  refine mix_nil ?_
  go_wp2
  go_ret
  exact ⟨rfl, rfl⟩
set_option maxHeartbeats 2000000 in
theorem swap_any (w : World) {lo hh g n c i j : Nat} {q : Nat → Hd} (hi : i < n) (hj : j < n) (hn : n ≤ 1000) (hown : RowOwn 54 w lo hh (some ⟨g, 0, none⟩) n c 7 (HdF q)) :
    Calls Try.prog 91 #[.slice (some ⟨g, 0, none⟩) n c, .int .i64 i, .int .i64 j] w fun e w' => (∃ v, e = .returned v) ∧ RowOwn 54 w' lo hh (some ⟨g, 0, none⟩) n c 7 (HdF (updE (updE q i (q j)) j (q i))) ∧ w.grownBy w' (some g) ∧ w'.heap.size = w.heap.size := by
  obtain ⟨i0, q1, q2, q3, q4⟩ := info_parts info_hd
  obtain ⟨a0, a1, a2, a3, a4, a5, a6⟩ := Hd_own hown hi
  obtain ⟨b0, b1, b2, b3, b4, b5, b6⟩ := Hd_own hown hj
  have hg : g < w.heap.size := by
    rcases RowOwn.cases hown with ⟨e', _⟩ | ⟨g', e', _, _, h, _⟩
    · cases e'
    · cases e'; exact h
  have HO := Lib.hid hown
  clear hown
  go_enter Try.func91, Try.ntmps91
  go_wp2
  refine wp_region_mixB (by kernel_rfl) (by kernel_rfl) ?_
  repeat (first
    | (refine mix_skip rfl ?_; have e0 : True := trivial; clear e0; refine mix_putK ?_; intro K hK; go_simp; refine hK _ ?_; clear hK K)
    | (refine mix_readE rfl rfl rfl ?_; apply Exists.intro; refine ⟨fun w' hb' => ?_, ?_⟩; (focus (obtain ⟨hc', hf'⟩ := Old.cells hb'; clear hb'; go_simp; try exact rfl)); have e0 : True := trivial; clear e0; refine mix_putK ?_; intro K hK; go_simp; refine hK _ ?_; clear hK K)
    | (refine mix_pureE rfl rfl ?_; apply Exists.intro; refine ⟨fun w' => ?_, ?_⟩; (focus (go_simp; try exact rfl)); have e0 : True := trivial; clear e0; refine mix_putK ?_; intro K hK; go_simp; refine hK _ ?_; clear hK K)
    | (refine mix_eff rfl rfl ?_; go_wp2_with ((first | (refine wpList_hdStore _ rfl (.tmp 18) (.tmp 13) _ rfl (e := 54) q1 q3 (k := i) (q j) rfl rfl HO.out.drew hi ?_; intro w1 hO1 hG1 hs1) | (refine wpList_hdStore _ rfl (.tmp 19) (.tmp 17) _ rfl (e := 54) q1 q3 (k := j) (q i) rfl rfl hO1 hj ?_; intro w2 hO2 hG2 hs2))); refine then_mix rfl ?_ ?_; (first | (intro h; have h2 : false = true := h; cases h2) | (intro _; assumption) | (intro _; refine Old.mk ?_; repeat (first | (with_reducible exact Below.refl _ _) | (with_reducible refine Bal ?_ _) | (with_reducible refine Below.drew ?_) | (with_reducible refine below_drewN ?_ _) | (with_reducible refine Bset ?_ ?_ _; focus (first | (with_reducible exact Nat.le_refl _) | (simp; done) | (simp; omega) | omega)) | (with_reducible refine Bt ?_ (by assumption)) | (with_reducible refine Bp (g := g) ?_ (by assumption) (by assumption)))))))
  refine mix_nil ?_
  go_wp2
  have hG : w.grownBy w1 (some g) := ⟨hG1.os, hG1.tape, hG1.output, hG1.size, hG1.block⟩
  exact bodyPost_end (v := .tuple #[]) (by simp [results, Try.results91, go_sem]) rfl ⟨⟨_, rfl⟩, hO2, hG.trans hG2, hs2.trans hs1⟩
end Go.Proofs.Ytegdogamenoaiaa
