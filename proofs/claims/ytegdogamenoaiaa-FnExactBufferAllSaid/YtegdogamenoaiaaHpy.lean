/- The heap of packets: what is put onto it, how it is made, and how it is emptied in order. -/
import Derived.Test.YtegdogamenoaiaaHpx
import Derived.Test.YtegdogamenoaiaaDro
namespace Go.Proofs.Ytegdogamenoaiaa
open Go Go.RowKit
set_option linter.unusedVariables false
set_option linter.unusedSimpArgs false
theorem hd_row1 (w : World) (x : Hd) (t : TypeId) : RowAt (w.alloc (.cells #[.int .i64 x.p.w, .int .i64 x.p.t, .int .i64 x.p.l, .int .i64 x.p.s, .bool x.p.k, .bool x.p.z, .int .i64 x.c] t)) w.heap.size (w.heap.size + 1) (some ⟨w.heap.size, 0, none⟩) 1 7 (HdF fun _ => x) := by
  refine ⟨w.heap.size, 0, fun _ => ⟨rfl, Nat.le_refl _, Nat.lt_succ_self _⟩, fun j hj => ?_⟩
  have h1 : (w.alloc (.cells #[.int .i64 x.p.w, .int .i64 x.p.t, .int .i64 x.p.l, .int .i64 x.p.s, .bool x.p.k, .bool x.p.z, .int .i64 x.c] t)).heap[w.heap.size]? = some (.cells #[.int .i64 x.p.w, .int .i64 x.p.t, .int .i64 x.p.l, .int .i64 x.p.s, .bool x.p.k, .bool x.p.z, .int .i64 x.c] t (0, 0)) := heap_alloc_new w _
  rw [cell_of_row _ _ _ _ _ _ h1]
  rcases (by omega : j = 0 ∨ j = 1 ∨ j = 2 ∨ j = 3 ∨ j = 4 ∨ j = 5 ∨ j = 6) with rfl | rfl | rfl | rfl | rfl | rfl | rfl <;> rfl
def snocH (q : Nat → Hd) (n : Nat) (x : Hd) : Nat → Hd := fun i => if i < n then q i else x
theorem snoc_hd {w : World} {e : TypeId} {lo hi n c : Nat} {A : Option Addr} {p : Nat → Hd} {x : Hd} (h : RowOwn e w lo hi A (n + 1) c 7 (catF (n * 7) (HdF p) (HdF fun _ => x))) : RowOwn e w lo hi A (n + 1) c 7 (HdF (snocH p n x)) := by
  refine RowOwn.congr h fun j hj => ?_
  have hd := Nat.div_add_mod j 7
  show (if j < n * 7 then HdC (p (j / 7)) (j % 7) else HdC x ((j - n * 7) % 7)) = HdC (if j / 7 < n then p (j / 7) else x) (j % 7)
  by_cases h1 : j < n * 7
  · rw [if_pos h1, if_pos (by omega)]
  · rw [if_neg h1, if_neg (by omega)]
    congr 1
    omega
theorem cat_hd {w : World} {e : TypeId} {lo hi n c : Nat} {A : Option Addr} {p : Nat → Hd} {f0 : Nat → Value} (h : RowOwn e w lo hi A (0 + n) c 7 (catF (0 * 7) f0 (HdF p))) : RowOwn e w lo hi A n c 7 (HdF p) := by
  rw [Nat.zero_add] at h
  refine RowOwn.congr h fun j hj => ?_
  unfold catF
  rw [if_neg (by omega)]
  simp
theorem HpSt.keep {lo HB g n c : Nat} {q : Nat → Hd} {w w' : World} (h : HpSt lo HB g n c q w) (hs : w.heap.size ≤ w'.heap.size) (h1 : w'.heap[HB]? = w.heap[HB]?) (h2 : w'.heap[g]? = w.heap[g]?) : HpSt lo HB g n c q w' := by
  refine ⟨by simp only [World.cell?, h1]; exact h.cell, by simp only [World.frozen?, h1]; exact h.free, ?_, h.ne, by have := h.lt; omega, h.lo⟩
  refine ⟨⟨h.row.1.1, ?_⟩, fun q' hq => by have := h.row.2 q' hq; omega⟩
  rcases h.row.1.2 with h3 | ⟨g', cap, cur, hv, hlo, hg, hr⟩
  · exact .inl h3
  · simp only [Value.slice.injEq, true_and, Option.some.injEq] at hv
    obtain ⟨hv1, hv2⟩ := hv
    cases hv1
    exact .inr ⟨g, cap, cur, by rw [hv2], hlo, h2.trans hg, hr⟩
theorem RowOwn.exc {e : TypeId} {X : Nat → Prop} {w w' : World} {lo hi n c sz : Nat} {A : Option Addr} {f : Nat → Value} (h : RowOwn e w lo hi A n c sz f) (hE : Exc X w w') (hX : ∀ k, lo ≤ k → ¬ X k) : RowOwn e w' lo hi A n c sz f := by
  refine ⟨⟨h.1.1, ?_⟩, h.2⟩
  rcases h.1.2 with h3 | ⟨g', cap, cur, hv, hlo, hg, hr⟩
  · exact .inl h3
  · exact .inr ⟨g', cap, cur, hv, hlo, (hE.block g' (Array.getElem?_eq_some_iff.1 hg).1 (hX g' hlo)).trans hg, hr⟩
def InOrder (HB g n : Nat) (e : Nat → Hd) (w : World) (en : Ending) (w' : World) : Prop :=
  ∃ A c, en = .returned (.slice A n c) ∧ RowOwn 54 w' w.heap.size w'.heap.size A n c 7 (HdF e) ∧ Exc (fun k => k = HB ∨ k = g) w w'
set_option maxHeartbeats 4000000 in
theorem ino_any (w : World) {lo HB g n c : Nat} {e : Nat → Hd} {r : Nat → Nat} (h : HpSt lo HB g n c (fun k => e (r k)) w) (hn : n ≤ 100) (he : EAsc n e) (hP : HP n r) (hC : Cov 0 n n r) :
    Calls Try.prog 49 #[.pointer (some ⟨HB, 0, none⟩)] w (InOrder HB g n e w) := by
  obtain ⟨i0, q1, q2, q3, q4⟩ := info_parts info_hd
  have H := Lib.hid h
  have HP0 := Lib.hid hP
  have HC0 := Lib.hid hC
  have HE := Lib.hid he
  have hcell := h.cell
  have hgw := h.g_lt
  have hbw := h.lt
  have hgl := h.g_lo
  clear h hP hC he
  go_enter Try.func49, Try.ntmps49
  go_wp2_with (at_make; refine wpList_make_own _ rfl _ _ _ rfl w.heap.size 54 i0 _ 7 Try.underlying26 q1 q2 q3 .i64 .i64 _ n rfl rfl rfl (by rw [q4]; omega) (by unfold maxLen; omega) (Nat.le_refl _) ?_; intro wm hownm hgm)
  have hOm : RowOwn 54 wm w.heap.size wm.heap.size _ 0 n 7 (HdF e) := RowOwn.made hownm
  have hEm : Exc (fun k => k = HB ∨ k = g) w wm := ⟨hgm.os, hgm.tape, hgm.output, hgm.size, fun k hk _ => hgm.block k hk (by simp)⟩
  have hSm := Lib.hid (H.out.keep hgm.size (hgm.block _ hbw (by simp)) (hgm.block _ hgw (by simp)))
  have HOm := Lib.hid hOm
  have HEm := Lib.hid hEm
  clear hownm hgm hOm hEm hcell
  go_loopw [3] (fun s wr => ∃ (t m : Nat) (A : Option Addr) (ca : Nat) (r : Nat → Nat), t + m = n ∧ s = .slice A t ca ∧ Hid (RowOwn 54 wr w.heap.size wr.heap.size A t ca 7 (HdF e)) ∧ Hid (HP m r) ∧ Hid (Cov t n m r) ∧ Hid (HpSt lo HB g m c (fun k => e (r k)) wr) ∧ Hid (Exc (fun k => k = HB ∨ k = g) w wr)) (fun s _ => match s with | .slice _ l _ => n - l | _ => 0)
  case atStart => exact ⟨0, n, _, _, r, Nat.zero_add _, rfl, HOm, HP0, HC0, hSm, HEm⟩
  case round =>
    obtain ⟨t, m, A, ca, r, htm, rfl, HO, HPr, HCr, HSt, HEx⟩ := hrel
    have hcell := HSt.out.cell
    rcases m with _ | m
    · obtain rfl : t = n := htm
      go_wp2_with fail
      go_ret
      exact ⟨_, _, rfl, HO.out, HEx.out⟩
    · have hr0 := HCr.out.root HPr.out (show t < n by omega)
      obtain ⟨a0, a1, a2, a3, a4, a5, a6⟩ := Hd_own HSt.out.row (show 0 < m + 1 by omega)
      simp only [hr0, Nat.zero_mul, Nat.zero_add] at a0 a1 a2 a3 a4 a5 a6
      have hszr := HEx.out.size
      have htb : t ≤ 100 := by omega
      have hmb : m + 1 ≤ 100 := by omega
      have HTM := Lib.hid htm
      clear hr0 htm
      go_wp2_with (at_builtin; refine wpList_rowAppend _ rfl (.tmp 14) (.tmp 20) _ rfl 54 i0 _ 7 48 Try.underlying26 q1 q2 q3 q4 rfl (by decide) w.heap.size _ A t ca (HdF e) rfl (RowOwn.alloc HO.out _) _ _ _ 1 1 _ rfl (hd_row1 _ (e t) _) ?_ (by unfold maxLen; omega) (by omega) (by simp; omega) ?_; (focus (intro i hi; exact hd_one _ _)); intro A4 c4 w4 hO4 hG4 hL4)
      have hO5 := (snoc_hd hO4).congr (f' := HdF e) (RowF_congr (by decide) fun i hi => by unfold snocH; split; rfl; rw [show i = t by omega])
      have hown : ∀ k, (Value.slice A t ca).ownBlock = some k → w.heap.size ≤ k := fun k hk => (HO.out.1.lt k hk).1
      have hS4 : HpSt lo HB g (m + 1) c (fun k => e (r k)) w4 := by
        refine HSt.out.keep (Nat.le_trans (by simp) hG4.size) ?_ ?_
        · rw [hG4.block HB (by simp; omega) (fun e' => by have := hown HB e'.symm; omega)]; exact Below.heap_alloc _ _ _ (by omega)
        · rw [hG4.block g (by simp; omega) (fun e' => by have := hown g e'.symm; omega)]; exact Below.heap_alloc _ _ _ (by omega)
      have hE4 : Exc (fun k => k = HB ∨ k = g) w w4 := by
        have hx := HEx.out
        refine ⟨hG4.os.trans hx.os, hG4.tape.trans hx.tape, hG4.output.trans hx.output, by have := hG4.size; simp at this; omega, fun k hk hxk => ?_⟩
        rw [hG4.block k (by simp; omega) (fun e' => by have := hown k e'.symm; omega), Below.heap_alloc _ _ _ (by omega)]
        exact hx.block k hk hxk
      have HO5 := Lib.hid hO5
      have HS4 := Lib.hid hS4
      have HE4 := Lib.hid hE4
      clear hO4 hO5 hG4 hL4 hown hS4 hE4 a0 a1 a2 a3 a4 a5 a6 hcell
      go_wp2_with fail
      refine (drop_any w4 HS4.out hmb HE.out HPr.out HCr.out).mono ?_
      rintro en w5 ⟨⟨v5, rfl⟩, r', h1, h2, h3, h4⟩
      have A1 := Lib.hid h1
      have A2 := Lib.hid h2
      have A3 := Lib.hid h3
      have A4 := Lib.hid (HE4.out.trans h4)
      have A5 := Lib.hid ((HO5.out.exc h4 (fun k hk hx => by rcases hx with rfl | rfl <;> omega)).wide (Nat.le_refl _) h4.size)
      clear h1 h2 h3 h4
      go_wp2_with fail
      go_roundw
      case rel => exact ⟨t + 1, m, _, _, r', by have := HTM.out; omega, rfl, A5, A1, A2, A3, A4⟩
      case measure => simp; have := HTM.out; omega
end Go.Proofs.Ytegdogamenoaiaa
