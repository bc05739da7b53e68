/- The heap of packets: how it is made. -/
import Derived.Test.YtegdogamenoaiaaHpy
namespace Go.Proofs.Ytegdogamenoaiaa
open Go Go.RowKit
set_option linter.unusedVariables false
set_option linter.unusedSimpArgs false
theorem run_rowAppend2 {P : Program} (w : World) (t t2 ty e : TypeId) (i : TypeInfo) (z : Value) (sz bytes : Nat) (ht : P.underlying t = some (.slice e)) (ht2 : P.underlying t2 = some (.slice e)) (hi : P.info? e = some i) (hz : i.zero = some z)
    (hsize : i.size = sz) (hby : i.bytes = bytes) (hzs : z.cells.size = sz) (hsz : 0 < sz)
    {lo hh : Nat} {A : Option Addr} {n c : Nat} {f : Nat → Value} (hown : RowOwn e w lo hh A n c sz f) {lo2 hi2 : Nat} {A2 : Option Addr} {m c2 : Nat} {f2 : Nat → Value} (hr : RowAt w lo2 hi2 A2 m sz f2)
    (h1 : ∀ j, j < m * sz → (f2 j).oneCell' = true) (h63 : n + m ≤ maxLen) (hbytes : (n + m) * bytes ≤ 140737488355328) (hbase : lo ≤ w.heap.size) :
    ∃ A' c' w', (Builtin.append_ #[t, t2] ty #[.slice A n c, .slice A2 m c2]).run P w = .ok (.slice A' (n + m) c') w' ∧ RowOwn e w' lo w'.heap.size A' (n + m) c' sz (catF (n * sz) f f2) ∧
      w.grownBy w' (Value.slice A n c).ownBlock ∧ ((Value.slice A' (n + m) c').ownBlock = (Value.slice A n c).ownBlock ∨ (Value.slice A' (n + m) c').ownBlock = some w.heap.size) := by
  have hsame : (Builtin.append_ #[t, t2] ty #[.slice A n c, .slice A2 m c2]).run P w = (Builtin.append_ #[t, t] ty #[.slice A n c, .slice A2 m c2]).run P w := by
    simp [Builtin.append_, run_underlying ht, run_underlying ht2, sizeOf, typeInfo, hi]
  rw [hsame]
  exact run_rowAppend w t ty e i z sz bytes ht hi hz hsize hby hzs hsz hown hr h1 h63 hbytes hbase
theorem wpList_rowAppend2 {P : Program} (w : World) {ops : Array Oper} {rest : List Oper} {o : Oper} {a : Act} {Q : Exit → Act → World → Prop} (hgd : o.guard = none) (s x : Operand) (t t2 : TypeId)
    (ho : o.op = .call { callee := .builtin .append, args := #[s, x], argTypes := #[t, t2] })
    (e : TypeId) (i : TypeInfo) (z : Value) (sz bytes : Nat) (ht : P.underlying t = some (.slice e)) (ht2 : P.underlying t2 = some (.slice e)) (hi : P.info? e = some i) (hz : i.zero = some z)
    (hsize : i.size = sz) (hby : i.bytes = bytes) (hzs : z.cells.size = sz) (hsz : 0 < sz)
    (lo hh : Nat) (A : Option Addr) (n c : Nat) (f : Nat → Value) (hs : a.eval s = .slice A n c) (hown : RowOwn e w lo hh A n c sz f)
    (lo2 hi2 : Nat) (A2 : Option Addr) (m c2 : Nat) (f2 : Nat → Value) (hx : a.eval x = .slice A2 m c2) (hr : RowAt w lo2 hi2 A2 m sz f2)
    (h1 : ∀ j, j < m * sz → (f2 j).oneCell' = true) (h63 : n + m ≤ maxLen) (hbytes : (n + m) * bytes ≤ 140737488355328) (hbase : lo ≤ w.heap.size)
    (h : ∀ A' c' w', RowOwn e w' lo w'.heap.size A' (n + m) c' sz (catF (n * sz) f f2) → w.grownBy w' (Value.slice A n c).ownBlock →
      ((Value.slice A' (n + m) c').ownBlock = (Value.slice A n c).ownBlock ∨ (Value.slice A' (n + m) c').ownBlock = some w.heap.size) → wpList P ops Q rest (a.put o.dst (.slice A' (n + m) c')) w') : wpList P ops Q (o :: rest) a w := by
  obtain ⟨A', c', w', hrun, h2, h3, h4⟩ := run_rowAppend2 (P := P) w t t2 o.type e i z sz bytes ht ht2 hi hz hsize hby hzs hsz hown hr (c2 := c2) h1 h63 hbytes hbase
  refine wpList_plain hgd fun K hK => ?_
  unfold Oper.wp execOp
  simp only [ho, resolve, invoke, builtin, Sem.run_bind, Sem.run_pure, Result.andThen_ok, List.map_toArray, List.map_cons, List.map_nil, hs, hx, hrun]
  exact hK _ _ (h A' c' w' h2 h3 h4)
theorem box_grown {wm w4 : World} {v : Value} {t : TypeId} {o : Option Nat} (hG : (wm.alloc (.cells #[v] t)).grownBy w4 o) (ho : o ≠ some wm.heap.size) : w4.cell? ⟨wm.heap.size, 0, none⟩ = some v ∧ w4.frozen? ⟨wm.heap.size, 0, none⟩ = false := by
  have h0 : (wm.alloc (.cells #[v] t)).heap[wm.heap.size]? = some (.cells #[v] t (0, 0)) := heap_alloc_new wm _
  have h1 : w4.heap[wm.heap.size]? = some (.cells #[v] t (0, 0)) := (hG.block wm.heap.size (by simp) (fun e => ho e.symm)).trans h0
  exact ⟨by simp [World.cell?, h1], by simp [World.frozen?, h1]⟩
def NewHeap (n : Nat) (e : Nat → Hd) (w : World) (en : Ending) (w' : World) : Prop :=
  ∃ HB g c r, en = .returned (.pointer (some ⟨HB, 0, none⟩)) ∧ HP n r ∧ Cov 0 n n r ∧ HpSt w.heap.size HB g n c (fun k => e (r k)) w' ∧ Below w.heap.size w w'
set_option maxHeartbeats 4000000 in
theorem nhh_any (w : World) {lo hi : Nat} {A : Option Addr} {n ca : Nat} {e : Nat → Hd} (h : RowAt w lo hi A n 7 (HdF e)) (hh : hi ≤ w.heap.size) (hn : n ≤ 90) (he : EAsc n e) :
    Calls Try.prog 47 #[.slice A n ca] w (NewHeap n e w) := by
  obtain ⟨i0, q1, q2, q3, q4⟩ := info_parts info_hd
  have H := Lib.hid h
  have HE := Lib.hid he
  clear h he
  go_enter Try.func47, Try.ntmps47
  go_upto_region 2 with (at_make; refine wpList_make_own _ rfl _ _ _ rfl w.heap.size 54 i0 _ 7 Try.underlying66 q1 q2 q3 .i64 .i64 _ (n + 1) rfl rfl (by omega) (by rw [q4]; omega) (by unfold maxLen; omega) (Nat.le_refl _) ?_; intro wm hownm hgm)
  have hO0 : RowOwn 54 wm w.heap.size wm.heap.size (some ⟨w.heap.size, 0, none⟩) 0 (n + 1) 7 (HdF e) := RowOwn.made hownm
  have hBm : Below w.heap.size w wm := ⟨hgm.os, hgm.tape, hgm.output, hgm.size, fun k hk => hgm.block k hk (by simp)⟩
  have hHm : RowAt wm lo hi A n 7 (HdF e) := H.out.below hh hBm
  have hszm := hgm.size
  have hgb : w.heap.size < wm.heap.size := hO0.2 _ rfl
  clear hownm hgm
  go_wp2_with (at_builtin; refine wpList_rowAppend2 _ rfl (.tmp 8) (.tmp 9) _ _ rfl 54 i0 _ 7 48 Try.underlying66 Try.underlying26 q1 q2 q3 q4 rfl (by decide) w.heap.size _ _ 0 (n + 1) (HdF e) rfl (RowOwn.alloc hO0 _) lo hi A n ca (HdF e) rfl (RowAt.alloc (Nat.le_trans hh hszm) hHm _) ?_ (by unfold maxLen; omega) (by omega) (Nat.le_trans hszm (by simp)) ?_; (focus (intro i hi; exact hd_one _ _)); intro A4 c4 w4 hO4 hG4 hL4; have hbx := box_grown hG4 (by simp [Value.ownBlock]; omega); have hbc := hbx.1; have hbf := hbx.2)
  have hO5 := cat_hd hO4
  obtain ⟨g, rfl⟩ : ∃ g, A4 = some ⟨g, 0, none⟩ := by
    rcases RowOwn.cases hO5 with ⟨e', _⟩ | ⟨g', e', _⟩
    · subst e'; simp [Value.ownBlock] at hL4
    · exact ⟨g', e'⟩
  have hgn : wm.heap.size ≠ g := by simp [Value.ownBlock] at hL4; omega
  have hs4 : wm.heap.size < w4.heap.size := by have := hG4.size; simp at this; omega
  have h5 := hO5.other (p := ⟨wm.heap.size, 0, none⟩) hgn (.slice (some ⟨g, 0, none⟩) n c4)
  have hgw : w.heap.size ≤ g := (hO5.1.lt g rfl).1
  have hSt : HpSt w.heap.size wm.heap.size g n c4 e (w4.setCell ⟨wm.heap.size, 0, none⟩ (.slice (some ⟨g, 0, none⟩) n c4)) :=
    ⟨by go_simp, by go_simp, RowOwn.made h5.1, hgn, by simp [World.setCell]; omega, hszm⟩
  have hB5 : Below w.heap.size w (w4.setCell ⟨wm.heap.size, 0, none⟩ (.slice (some ⟨g, 0, none⟩) n c4)) := by
    have hB4 : Below w.heap.size w w4 := Below.trans (Below.alloc hBm hszm _) ⟨hG4.os, hG4.tape, hG4.output, hG4.size, fun k hk => hG4.block k (by simp; omega) (by simp [Value.ownBlock]; omega)⟩
    exact Below.setCell hB4 (p := ⟨wm.heap.size, 0, none⟩) hszm _
  refine (init_any _ (e := e) (r0 := fun k => k) hSt (by omega) HE.out (HP.id n) (Cov.id n)).mono ?_
  rintro en w6 ⟨⟨v6, rfl⟩, r', h1, h2, h3, h4, h6⟩
  have A1 := Lib.hid h1
  have A2 := Lib.hid h2
  have A3 := Lib.hid h3
  have A4 := Lib.hid h4
  have A5 := Lib.hid hB5
  clear h1 h2 h3 h4 h6 hSt hB5 h5 hO4 hO5 hG4 hL4 hbx hbc hbf
  go_wp2_with fail
  go_ret
  exact ⟨_, g, c4, r', rfl, A1.out, A2.out, A3.out, A5.out.trans ⟨A4.out.os, A4.out.tape, A4.out.output, A4.out.size, fun k hk => A4.out.block k (Nat.lt_of_lt_of_le hk A5.out.size) (by simp; omega)⟩⟩
end Go.Proofs.Ytegdogamenoaiaa
