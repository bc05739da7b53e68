/- A header is put behind bytes. -/
import Derived.Test.YtmidpodoapggnaaHdr
namespace Go.Proofs.Ytmidpodoapggnaa
open Go Go.RowKit
set_option linter.unusedVariables false
set_option linter.unusedSimpArgs false
def flg (c : Int) (k z : Bool) : Int := (if z then (if k then c + 4 else c) + 8 else (if k then c + 4 else c))
def hdrZ (z : Nat → Int) (m : Nat) (a b c d : Int) (k zz : Bool) : Nat → Int :=
  byt2 (snocI (byt3 (byt2 z m (a % 65536) 2) (m + 2) b 3) (m + 2 + 3) (flg c k zz)) (m + 2 + 3 + 1) d 2
set_option maxHeartbeats 4000000 in
theorem apphdr (w : World) {lo hi : Nat} {A : Option Addr} {m c0 : Nat} {z : Nat → Int} (a b c d : Int) (k zz : Bool) (h : OwnI w lo hi A m c0 z) (hlo : lo ≤ w.heap.size) (hm : m ≤ 100000) (hp : PkOk ⟨a, b, c, d, k, zz⟩) :
    Calls Try.prog 66 #[.slice A m c0, .agg #[.int .i64 a, .int .i64 b, .int .i64 c, .int .i64 d, .bool k, .bool zz]] w fun e w' => ∃ A' c', OwnI w' lo w'.heap.size A' (m + 2 + 3 + 1 + 2) c' (hdrZ z m a b c d k zz) ∧ e = .returned (.slice A' (m + 2 + 3 + 1 + 2) c') ∧ Grew w w' (.slice A m c0) (.slice A' (m + 2 + 3 + 1 + 2) c') := by
  obtain ⟨i0, q1, q2, q3, q4⟩ := info_parts info_int
  have hst := h.here
  have hne0 : ∀ g, (Value.slice A m c0).ownBlock = some g → g < w.heap.size := fun g hg => (hst.1.lt g hg).2
  have hne : some w.heap.size ≠ (Value.slice A m c0).ownBlock := fun e => by have := hne0 _ e.symm; omega
  obtain ⟨⟨p1, p2⟩, ⟨p3, p4⟩, ⟨p5, p6⟩, p7, p8⟩ := hp
  simp only [] at p1 p2 p3 p4 p5 p6 p7 p8
  have HS := Lib.hid fun W : World => iser_any a W p1 p2
  have hm0 : 0 ≤ a % 65536 := by omega
  have hm1 : a % 65536 ≤ 65535 := by omega
  obtain ⟨sa, hsa⟩ : ∃ sa, sa = a % 65536 := ⟨_, rfl⟩
  rw [← hsa] at HS hm0 hm1
  have HSA := Lib.hid hsa
  clear h hsa
  have HNE := Lib.hid hne
  clear hne hne0
  cases k <;> cases zz
  all_goals (
    go_enter Try.func66, Try.ntmps66
    go_wp2_with (go_at_call 76; refine (HS.out _).mono ?_; rintro e w' ⟨rfl, rfl⟩)
    refine (app2 _ sa (hst.alloc _) (by simp; omega) (by omega) (by omega) (by omega)).mono ?_
    rintro e w1 ⟨A1, c1, hO1, rfl, hG1⟩
    have hb1 := fun o => World.cell?_of_block (a := ⟨w.heap.size, o, none⟩) (hG1.1.block w.heap.size (by simp) HNE.out)
    try simp [go_sem] at hb1
    have hy1 := hG1.1.size
    try simp at hy1
    go_wp2_with fail
    refine (app3 _ b hO1 (by omega) (by omega) (by omega) (by omega)).mono ?_
    rintro e w2 ⟨A2, c2, hO2, rfl, hG2⟩
    have hG2' := hG1.trans hG2
    have hb2 := fun o => World.cell?_of_block (a := ⟨w.heap.size, o, none⟩) (hG2'.1.block w.heap.size (by simp) HNE.out)
    try simp [go_sem] at hb2
    have hy2 := hG2.1.size
    clear hb1 hO1 hG1 hG2
    go_wp2_with (at_builtin; refine wpList_rowAppend _ rfl (.tmp 25) (.tmp 27) _ rfl 3 i0 _ 1 8 Try.underlying34 q1 q2 q3 q4 rfl (by decide) lo _ A2 (m + 2 + 3) c2 (intV (byt3 (byt2 z m sa 2) (m + 2) b 3)) rfl (RowOwn.alloc hO2 _) _ _ _ 1 1 _ rfl (one_row _ _ _) ?_ (by unfold maxLen; omega) (by omega) (by simp; omega) ?_; (focus (intro _ _; rfl)); intro A3 c3 w3 hO3 hG3 hL3; have hO3' := snoc_row hO3; have hG3' := hG2'.step ((grown_alloc w2 _ _).trans hG3) (hL3.imp id fun h => ⟨_, h, by simp⟩); have hb3 := fun o => World.cell?_of_block (a := ⟨w.heap.size, o, none⟩) (hG3'.1.block w.heap.size (by simp) HNE.out); (try simp [go_sem] at hb3))
    have hy3 := hG3.size
    try simp at hy3
    clear hb2 hO2 hO3 hG3 hL3 hG2'
    go_wp2_with fail
    refine (app2 _ d hO3' (by omega) (by omega) (by omega) (by omega)).mono ?_
    rintro e w4 ⟨A4, c4, hO4, rfl, hG4⟩
    have hG4' := hG3'.trans hG4
    clear hb3 hG3' hG4 hO3'
    go_wp2_with fail
    go_ret
    refine ⟨_, _, ?_, rfl, ?_⟩
    · rw [HSA.out] at hO4
      exact hO4
    · exact ⟨(grown_alloc w _ _).trans hG4'.1, fun g hg => (hG4'.2 g hg).imp id fun h => by simp at h; omega⟩
    done)
end Go.Proofs.Ytmidpodoapggnaa
