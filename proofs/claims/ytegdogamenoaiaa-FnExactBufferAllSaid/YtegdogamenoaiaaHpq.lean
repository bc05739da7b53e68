/- The heap of packets: what is put onto it. -/
import Derived.Test.YtegdogamenoaiaaHpn
namespace Go.Proofs.Ytegdogamenoaiaa
open Go Go.RowKit
set_option linter.unusedVariables false
set_option linter.unusedSimpArgs false
@[go_sem] theorem assert_held (v : Value) (xT : TypeId) (w : World) : (Instr.typeAssert (.iface 54 v) xT 54 true).run Try.prog w = .ok (.tuple #[v, .bool true]) w := by kernel_rfl
def Pushed (lo HB g n : Nat) (q : Nat → Hd) (x : Hd) (w : World) (en : Ending) (w' : World) : Prop :=
  (∃ v, en = .returned v) ∧ ∃ g' c', HpSt lo HB g' (n + 1) c' (snocH q n x) w' ∧ Exc (fun k => k = HB ∨ k = g) w w' ∧ (g' = g ∨ w.heap.size ≤ g')
set_option maxHeartbeats 2000000 in
theorem mpush_any (w : World) {lo HB g n c : Nat} {q : Nat → Hd} (x : Hd) (h : HpSt lo HB g n c q w) (hn : n ≤ 100) :
    Calls Try.prog 90 #[.pointer (some ⟨HB, 0, none⟩), .iface 54 (HdV x)] w (Pushed lo HB g n q x w) := by
  obtain ⟨i0, q1, q2, q3, q4⟩ := info_parts info_hd
  have hc := h.cell
  have hf := h.free
  have hgl := h.g_lt
  have hl := h.lt
  have hne := h.ne
  have hlo := h.lo
  have hgo := h.g_lo
  have H := Lib.hid h
  clear h
  go_enter Try.func90, Try.ntmps90
  unfold HdV
  go_upto_region 2 with fail
  have ho1 := RowOwn.drew (RowOwn.alloc H.out.row (.cells #[.int .i64 x.p.w, .int .i64 x.p.t, .int .i64 x.p.l, .int .i64 x.p.s, .bool x.p.k, .bool x.p.z, .int .i64 x.c] 54))
  have HO1 := Lib.hid ho1
  have hr1 := hd_row1 (w.alloc (.cells #[.int .i64 x.p.w, .int .i64 x.p.t, .int .i64 x.p.l, .int .i64 x.p.s, .bool x.p.k, .bool x.p.z, .int .i64 x.c] 54)).drew x 54
  have hsz1 : ((w.alloc (.cells #[.int .i64 x.p.w, .int .i64 x.p.t, .int .i64 x.p.l, .int .i64 x.p.s, .bool x.p.k, .bool x.p.z, .int .i64 x.c] 54)).drew).heap.size = w.heap.size + 1 := by simp
  rw [hsz1] at hr1
  have HR1 := Lib.hid hr1
  have HS1 := Lib.hid hsz1
  clear ho1 hr1 hsz1
  refine wp_region_mixB (by kernel_rfl) (by kernel_rfl) ?_
  repeat (first
    | (refine mix_skip rfl ?_; have e0 : True := trivial; clear e0; refine mix_putK ?_; intro K hK; go_simp; refine hK _ ?_; clear hK K)
    | (refine mix_readE rfl rfl rfl ?_; apply Exists.intro; refine ⟨fun w' hb' => ?_, ?_⟩; (focus (obtain ⟨hc', hf'⟩ := Old.cells hb'; clear hb'; go_simp; try exact rfl)); have e0 : True := trivial; clear e0; refine mix_putK ?_; intro K hK; go_simp; refine hK _ ?_; clear hK K)
    | (refine mix_pureE rfl rfl ?_; apply Exists.intro; refine ⟨fun w' => ?_, ?_⟩; (focus (go_simp; try exact rfl)); have e0 : True := trivial; clear e0; refine mix_putK ?_; intro K hK; go_simp; refine hK _ ?_; clear hK K)
    | (refine mix_eff rfl rfl ?_; go_wp2_with ((first | (at_builtin; refine wpList_rowAppend _ rfl (.tmp 15) (.tmp 17) _ rfl 54 i0 _ 7 48 Try.underlying66 q1 q2 q3 q4 rfl (by decide) lo _ (some ⟨g, 0, none⟩) n c (HdF q) rfl (RowOwn.alloc HO1.out _) _ _ _ 1 1 _ rfl HR1.out ?_ (by unfold maxLen; omega) (by omega) (by simp; omega) ?_; (focus (intro i hi; exact hd_one _ _)); intro A4 c4 w4 hO4 hG4 hL4; have hb4 : w4.heap[HB]? = w.heap[HB]? := (hG4.block HB (by simp; omega) (by simp [Value.ownBlock]; omega)).trans ((Below.heap_alloc _ _ _ (by simp; omega)).trans (Below.heap_alloc _ _ _ hl)); have hbc : w4.cell? ⟨HB, 0, none⟩ = some (.slice (some ⟨g, 0, none⟩) n c) := (by simp only [World.cell?, hb4]; exact hc); have hbf : w4.frozen? ⟨HB, 0, none⟩ = false := (by simp only [World.frozen?, hb4]; exact hf)))); refine then_mix rfl ?_ ?_; (first | (intro h; have h2 : false = true := h; cases h2) | (intro _; assumption) | (intro _; refine Old.mk ?_; repeat (first | (with_reducible exact Below.refl _ _) | (with_reducible refine Bal ?_ _) | (with_reducible refine Below.drew ?_) | (with_reducible refine below_drewN ?_ _) | (with_reducible refine Bset ?_ ?_ _; focus (first | (with_reducible exact Nat.le_refl _) | (simp; done) | (simp; omega) | omega)) | (with_reducible refine Bt ?_ (by assumption)) | (with_reducible refine Bp (g := g) ?_ (by assumption) (by assumption)))))))
  refine mix_nil ?_
  have hO5 := snoc_hd hO4
  obtain ⟨g', rfl⟩ : ∃ g', A4 = some ⟨g', 0, none⟩ := by
    rcases RowOwn.cases hO5 with ⟨e', h0, _⟩ | ⟨g', e', _⟩
    · omega
    · exact ⟨g', e'⟩
  have hgn : HB ≠ g' := by simp [Value.ownBlock] at hL4; omega
  have hs4 : w.heap.size < w4.heap.size := by have := hG4.size; simp at this; omega
  have h5 := hO5.other (p := ⟨HB, 0, none⟩) hgn (.slice (some ⟨g', 0, none⟩) (n + 1) c4)
  have hE4 : Exc (fun k => k = HB ∨ k = g) w w4 := ⟨hG4.os, hG4.tape, hG4.output, by omega, fun k hk hx => (hG4.block k (by simp; omega) (by simp [Value.ownBlock]; exact fun e => hx (Or.inr e))).trans ((Below.heap_alloc _ _ _ (by simp; omega)).trans (Below.heap_alloc _ _ _ hk))⟩
  exact bodyPost_end (v := .tuple #[]) (by simp [results, Try.results90, go_sem]) rfl ⟨⟨_, rfl⟩, g', c4, ⟨by go_simp, by go_simp, RowOwn.made h5.1, hgn, by simp [World.setCell]; omega, hlo⟩, hE4.setC (p := ⟨HB, 0, none⟩) (Or.inl rfl) _, by simp [Value.ownBlock] at hL4; omega⟩
end Go.Proofs.Ytegdogamenoaiaa
