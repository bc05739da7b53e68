/- The draw of demands. -/
import Derived.Test.YtmidpodoapggnaaDdm
namespace Go.Proofs.Ytmidpodoapggnaa
open Go Go.RowKit
set_option linter.unusedVariables false
set_option linter.unusedSimpArgs false
def DrawnD (g k : Nat) (w : World) (e : Ending) (w' : World) : Prop := ∃ A n c p, n ≤ 7 ∧ RowOwn 53 w' w.heap.size w'.heap.size A n c 4 (DmF p) ∧ e = .returned (.slice A n c) ∧ RdLe w' g k ∧ Past g w.heap.size w w'
set_option maxRecDepth 100000 in
set_option maxHeartbeats 4000000 in
theorem demands_draw (w : World) (g k : Nat) (h : RdLe w g k) (hk : k ≤ 999000) :
    Calls Try.prog 61 #[.pointer (some ⟨g, 0, none⟩)] w (DrawnD g (k + 60) w) := by
  obtain ⟨i0, q1, q2, q3, q4⟩ := info_parts info_dm
  have hg := h.lt
  go_enter Try.func61, Try.ntmps61
  go_wp2_with fail
  refine (pk _ g k _ (by repeat (first | assumption | (with_reducible refine RdLe.drew ?_) | (with_reducible refine RdLe.drewN ?_ _) | (with_reducible refine RdLe.alloc ?_ _) | (with_reducible refine RdLe.setC ?_ ?_ _; focus (first | (simp; done) | (simp; omega) | omega)))) (by omega) (by omega) (by omega)).mono ?_
  rintro e w1 ⟨⟨v1, ⟨vl1, vh1⟩, rfl, hR1, hb1⟩, hs1⟩
  have hO1 := RowOwn.past (g := g) (by omega) (by simp) (empty_row w 53 4 (DmF fun _ => Dm0)) hb1
  have hs1' := hb1.size
  (try simp at hs1')
  clear hs1
  go_wp2_with fail
  refine (pk _ g (k + 1) _ (by repeat (first | assumption | (with_reducible refine RdLe.drew ?_) | (with_reducible refine RdLe.drewN ?_ _) | (with_reducible refine RdLe.alloc ?_ _) | (with_reducible refine RdLe.setC ?_ ?_ _; focus (first | (simp; done) | (simp; omega) | omega)))) (by omega) (by omega) (by omega)).mono ?_
  rintro e w2 ⟨⟨v2, ⟨vl2, vh2⟩, rfl, hR2, hb2⟩, hs2⟩
  have hO2 := RowOwn.past (g := g) (by omega) (by omega) hO1 hb2
  have hs2' := hb2.size
  have hP2 : Past g w.heap.size w w2 := by
    repeat (first | (with_reducible exact Past.refl _ _ _) | (with_reducible refine Past.alloc ?_ (by simp) _) | (with_reducible refine Past.drew ?_) | (with_reducible refine Past.drewN ?_ _) | (with_reducible refine Past.setC ?_ ?_ _; focus (first | (with_reducible exact Nat.le_refl _) | (simp; done) | (simp; omega) | omega)) | (with_reducible refine Past.step ?_ (by simp) (by assumption)))
  clear hs2
  by_cases h2 : v2 = 0
  · subst h2
    go_wp2_with fail
    have hO2' := RowOwn.alloc hO2 (.cells #[.int .i64 0, .int .i64 6, .int .i64 7] 3)
    refine (pk _ g (k + 1 + 1) _ (by repeat (first | assumption | (with_reducible refine RdLe.drew ?_) | (with_reducible refine RdLe.drewN ?_ _) | (with_reducible refine RdLe.alloc ?_ _) | (with_reducible refine RdLe.setC ?_ ?_ _; focus (first | (simp; done) | (simp; omega) | omega)))) (by omega) (by omega) (by omega)).mono ?_
    rintro e w3 ⟨⟨v3, ⟨vl3, vh3⟩, rfl, hR3, hb3⟩, hs3⟩
    clear hs3
    have hs3' := hb3.size
    (try simp at hs3')
    obtain ⟨M, hM7, hcM⟩ : ∃ M : Nat, M ≤ 7 ∧ w3.cell? ⟨w2.heap.size, v3.toNat, none⟩ = some (.int .i64 M) := by
      obtain ⟨hc3, hf3⟩ := hb3.cells
      have hgo := fun o => hc3 w2.heap.size o (by simp) (by omega)
      simp [go_sem] at hgo
      rcases (by omega : v3 = 0 ∨ v3 = 1 ∨ v3 = 2) with rfl | rfl | rfl
      · exact ⟨0, by decide, by rw [hgo]; rfl⟩
      · exact ⟨6, by decide, by rw [hgo]; rfl⟩
      · exact ⟨7, by decide, by rw [hgo]; rfl⟩
    have hOz := (RowOwn.past (g := g) (by omega) (by simp; omega) hO2' hb3).wide (lo' := w.heap.size) (hi' := w3.heap.size) (by omega) (by omega)
    have hRz : RdLe w3 g (k + 4 + 4 * 0) := hR3.mono (by omega)
    have hPz : Past g w.heap.size w w3 := hP2.trans (Past.trans (Past.of ((Below.refl _ _).alloc (by omega) _)) (hb3.mono (by simp; omega)))
    obtain ⟨N3, rfl⟩ : ∃ N : Nat, v3 = N := ⟨v3.toNat, by omega⟩
    simp only [Int.toNat_natCast] at hcM
    clear hO2 hO2' hR2 hR3 hb3 hP2 hO1 hR1 hb1 hb2
    go_wp2_with fail
    clear hcM
    go_loopw [3, 5] (fun o i wr => ∃ j A c p, j ≤ M ∧ i = .int .i64 (j : Nat) ∧ o = .slice A j c ∧ RowOwn 53 wr w.heap.size wr.heap.size A j c 4 (DmF p) ∧ RdLe wr g (k + 4 + 4 * j) ∧ Past g w.heap.size w wr) (fun _ i _ => M - (intOf i).toNat)
    case atStart => exact ⟨0, _, _, fun _ => Dm0, by omega, rfl, rfl, hOz, hRz, hPz⟩
    case round =>
      obtain ⟨j, A, c, p, hj, rfl, rfl, hO, hR, hP⟩ := hrel
      have hPs := hP.size
      by_cases hjn : j < M
      · skip
        go_wp2_with fail
        refine (pk _ g (k + 4 + 4 * j) _ (by repeat (first | assumption | (with_reducible refine RdLe.drew ?_) | (with_reducible refine RdLe.drewN ?_ _) | (with_reducible refine RdLe.alloc ?_ _) | (with_reducible refine RdLe.setC ?_ ?_ _; focus (first | (simp; done) | (simp; omega) | omega)))) (by omega) (by omega) (by omega)).mono ?_
        rintro e w3 ⟨⟨v3, ⟨vl3, vh3⟩, rfl, hR3, hb3⟩, hs3⟩
        clear hs3
        have hO3 := RowOwn.past hg (by omega) hO hb3
        have hz3 := hb3.size
        go_wp2_with fail
        refine (pk _ g (k + 4 + 4 * j + 1) _ (by repeat (first | assumption | (with_reducible refine RdLe.drew ?_) | (with_reducible refine RdLe.drewN ?_ _) | (with_reducible refine RdLe.alloc ?_ _) | (with_reducible refine RdLe.setC ?_ ?_ _; focus (first | (simp; done) | (simp; omega) | omega)))) (by omega) (by omega) (by omega)).mono ?_
        rintro e w4 ⟨⟨v4, ⟨vl4, vh4⟩, rfl, hR4, hb4⟩, hs4⟩
        clear hs4
        have hO4 := RowOwn.past hg (by omega) hO3 hb4
        have hz4 := hb4.size
        go_wp2_with fail
        refine (pk _ g (k + 4 + 4 * j + 1 + 1) _ (by repeat (first | assumption | (with_reducible refine RdLe.drew ?_) | (with_reducible refine RdLe.drewN ?_ _) | (with_reducible refine RdLe.alloc ?_ _) | (with_reducible refine RdLe.setC ?_ ?_ _; focus (first | (simp; done) | (simp; omega) | omega)))) (by omega) (by omega) (by omega)).mono ?_
        rintro e w5 ⟨⟨v5, ⟨vl5, vh5⟩, rfl, hR5, hb5⟩, hs5⟩
        clear hs5
        have hO5 := RowOwn.past hg (by omega) hO4 hb5
        have hz5 := hb5.size
        go_wp2_with fail
        refine (pk _ g (k + 4 + 4 * j + 1 + 1 + 1) _ (by repeat (first | assumption | (with_reducible refine RdLe.drew ?_) | (with_reducible refine RdLe.drewN ?_ _) | (with_reducible refine RdLe.alloc ?_ _) | (with_reducible refine RdLe.setC ?_ ?_ _; focus (first | (simp; done) | (simp; omega) | omega)))) (by omega) (by omega) (by omega)).mono ?_
        rintro e w6 ⟨⟨v6, ⟨vl6, vh6⟩, rfl, hR6, hb6⟩, hs6⟩
        clear hs6
        have hO6 := RowOwn.past hg (by omega) hO5 hb6
        have hz6 := hb6.size
        go_wp2_with (at_builtin; go_loud (refine wpList_rowAppend _ rfl (.tmp 33) (.tmp 44) _ rfl 53 i0 _ 4 32 Try.underlying49 q1 q2 q3 q4 rfl (by decide) w.heap.size _ A j c (DmF p) rfl (RowOwn.alloc hO6 _) _ _ _ 1 1 _ rfl (four_row _ _ _ _ _ _) ?_ (by unfold maxLen; omega) (by omega) (by simp; omega) ?_); (focus (intro i hi; rcases (by omega : i = 0 ∨ i = 1 ∨ i = 2 ∨ i = 3) with rfl | rfl | rfl | rfl <;> rfl)); intro A' c' w7 hO7 hG7 _)
        have hO8 := snoc_dm hO7
        have hP7 : Past g w.heap.size w w7 := by
          refine (hP.trans ((hb3.mono (by omega)).trans ((hb4.mono (by omega)).trans ((hb5.mono (by omega)).trans (hb6.mono (by omega)))))).trans (Past.trans (Past.of ((Below.refl _ _).alloc (by omega) _)) (past_grownAt (Nat.le_refl _) (fun k hk => ?_) hG7 (by simp; omega)))
          exact (hO6.1.lt k hk).1
        have hgA : ∀ k, (Value.slice A j c).ownBlock = some k → g < k := fun k hk => by have := (hO6.1.lt k hk).1; omega
        have hR7 : RdLe w7 g (k + 4 + 4 * (j + 1)) := RdLe.mono (k := k + 4 + 4 * j + 1 + 1 + 1 + 1) ((RdLe.alloc hR6 _).only hgA hG7) (by omega)
        clear hO hO3 hO4 hO5 hO6 hO7 hG7 hR3 hR4 hR5 hR6 hb3 hb4 hb5 hb6
        go_wp2
        go_roundw
        case rel =>
          exact ⟨j + 1, A', c', _, by omega, by go_num, rfl, hO8, hR7, hP7⟩
        case measure => simp [intOf]; omega
      · obtain rfl : M = j := by omega
        clear hjn hj
        have hmax : M ≤ 7 := hM7
        by_cases h0 : M = 0
        · subst h0
          go_wp2_with fail
          go_ret
          exact ⟨_, _, _, _, by omega, hO, rfl, hR.mono (by omega), hP⟩
        · have h0' : 0 < M := by omega
          go_wp2_with fail
          refine (pk _ g (k + 4 + 4 * M) _ (by repeat (first | assumption | (with_reducible refine RdLe.drew ?_) | (with_reducible refine RdLe.drewN ?_ _) | (with_reducible refine RdLe.alloc ?_ _) | (with_reducible refine RdLe.setC ?_ ?_ _; focus (first | (simp; done) | (simp; omega) | omega)))) (by omega) (by omega) (by omega)).mono ?_
          rintro e w7 ⟨⟨v7, ⟨vl7, vh7⟩, rfl, hR7, hb7⟩, hs7⟩
          clear hs7
          have hO7 := RowOwn.past hg (Nat.le_refl _) hO hb7
          have hz7 := hb7.size
          have hP7 := hP.trans (hb7.mono hPs)
          by_cases h7 : v7 = 0
          · subst h7
            go_wp2_with fail
            refine (pk _ g (k + 4 + 4 * M + 1) _ (by repeat (first | assumption | (with_reducible refine RdLe.drew ?_) | (with_reducible refine RdLe.drewN ?_ _) | (with_reducible refine RdLe.alloc ?_ _) | (with_reducible refine RdLe.setC ?_ ?_ _; focus (first | (simp; done) | (simp; omega) | omega)))) (by omega) (by omega) (by omega)).mono ?_
            rintro e w8 ⟨⟨v8, ⟨vl8, vh8⟩, rfl, hR8, hb8⟩, hs8⟩
            clear hs8
            have hO8 := RowOwn.past hg hz7 hO7 hb8
            have hz8 := hb8.size
            have hP8 := hP7.trans (hb8.mono (by omega))
            obtain ⟨N, rfl⟩ : ∃ N : Nat, v8 = N := ⟨v8.toNat, by omega⟩
            have hNM : N < M := by omega
            rcases hO8.cases with ⟨_, e, _⟩ | ⟨g2, rfl, hlo2, hhi2, hgl2, _, hfz, hcl⟩
            · omega
            · have hc1 := hcl (N * 4 + 1) (by omega)
              have hf1 := hfz (N * 4 + 1)
              clear hcl hfz hO hO7 hP hP7 hb7 hb8 hR hR7
              go_wp2_with fail
              go_ret
              refine ⟨_, _, _, _, by omega, RowOwn.congr ((hO8.store (N * 4 + 1) (.int .i64 0)).wide (Nat.le_refl _) (by simp [World.setCell]; omega)) (fun i hi => RowF_put (sz := 4) (C := DmC) (q := p) (k := N) (x := ⟨(p N).w, 0, (p N).m, (p N).h⟩) (by decide) ?_ ?_ i), rfl, (hR8.setCell (by show g < g2; omega) _).mono (by omega), hP8.setCell (by show w.heap.size ≤ g2; omega) _⟩
              · intro r hr
                rcases (by omega : r = 0 ∨ r = 1 ∨ r = 2 ∨ r = 3) with rfl | rfl | rfl | rfl
                · exact (if_neg (by omega)).trans ((RowF_at (sz := 4) (C := DmC) (q := p) (k := N) (r := 0) (by decide)))
                · exact if_pos rfl
                · exact (if_neg (by omega)).trans ((RowF_at (sz := 4) (C := DmC) (q := p) (k := N) (r := 2) (by decide)))
                · exact (if_neg (by omega)).trans ((RowF_at (sz := 4) (C := DmC) (q := p) (k := N) (r := 3) (by decide)))
              · intro i hi
                exact if_neg (by omega)
          · go_wp2_with fail
            go_ret
            exact ⟨_, _, _, _, by omega, hO7.wide (Nat.le_refl _) hz7, rfl, hR7.mono (by omega), hP7⟩
  · obtain ⟨M, hM, hM1, hM7⟩ : ∃ M : Nat, (1 : Int) + v1 = M ∧ 1 ≤ M ∧ M ≤ 7 := ⟨(1 + v1).toNat, by omega, by omega, by omega⟩
    have h2b : (v2 == 0) = false := by simpa using h2
    have hOz := hO2.wide (lo' := w.heap.size) (hi' := w2.heap.size) (Nat.le_refl _) (by omega)
    have hRz : RdLe w2 g (k + 4 + 4 * 0) := hR2.mono (by omega)
    have hPz := hP2
    clear hO2 hR2 hP2 hO1 hR1 hb1 hb2
    go_wp2_with fail
    clear hM
    go_loopw [3, 5] (fun o i wr => ∃ j A c p, j ≤ M ∧ i = .int .i64 (j : Nat) ∧ o = .slice A j c ∧ RowOwn 53 wr w.heap.size wr.heap.size A j c 4 (DmF p) ∧ RdLe wr g (k + 4 + 4 * j) ∧ Past g w.heap.size w wr) (fun _ i _ => M - (intOf i).toNat)
    case atStart => exact ⟨0, _, _, fun _ => Dm0, by omega, rfl, rfl, hOz, hRz, hPz⟩
    case round =>
      obtain ⟨j, A, c, p, hj, rfl, rfl, hO, hR, hP⟩ := hrel
      have hPs := hP.size
      by_cases hjn : j < M
      · skip
        go_wp2_with fail
        refine (pk _ g (k + 4 + 4 * j) _ (by repeat (first | assumption | (with_reducible refine RdLe.drew ?_) | (with_reducible refine RdLe.drewN ?_ _) | (with_reducible refine RdLe.alloc ?_ _) | (with_reducible refine RdLe.setC ?_ ?_ _; focus (first | (simp; done) | (simp; omega) | omega)))) (by omega) (by omega) (by omega)).mono ?_
        rintro e w3 ⟨⟨v3, ⟨vl3, vh3⟩, rfl, hR3, hb3⟩, hs3⟩
        clear hs3
        have hO3 := RowOwn.past hg (by omega) hO hb3
        have hz3 := hb3.size
        go_wp2_with fail
        refine (pk _ g (k + 4 + 4 * j + 1) _ (by repeat (first | assumption | (with_reducible refine RdLe.drew ?_) | (with_reducible refine RdLe.drewN ?_ _) | (with_reducible refine RdLe.alloc ?_ _) | (with_reducible refine RdLe.setC ?_ ?_ _; focus (first | (simp; done) | (simp; omega) | omega)))) (by omega) (by omega) (by omega)).mono ?_
        rintro e w4 ⟨⟨v4, ⟨vl4, vh4⟩, rfl, hR4, hb4⟩, hs4⟩
        clear hs4
        have hO4 := RowOwn.past hg (by omega) hO3 hb4
        have hz4 := hb4.size
        go_wp2_with fail
        refine (pk _ g (k + 4 + 4 * j + 1 + 1) _ (by repeat (first | assumption | (with_reducible refine RdLe.drew ?_) | (with_reducible refine RdLe.drewN ?_ _) | (with_reducible refine RdLe.alloc ?_ _) | (with_reducible refine RdLe.setC ?_ ?_ _; focus (first | (simp; done) | (simp; omega) | omega)))) (by omega) (by omega) (by omega)).mono ?_
        rintro e w5 ⟨⟨v5, ⟨vl5, vh5⟩, rfl, hR5, hb5⟩, hs5⟩
        clear hs5
        have hO5 := RowOwn.past hg (by omega) hO4 hb5
        have hz5 := hb5.size
        go_wp2_with fail
        refine (pk _ g (k + 4 + 4 * j + 1 + 1 + 1) _ (by repeat (first | assumption | (with_reducible refine RdLe.drew ?_) | (with_reducible refine RdLe.drewN ?_ _) | (with_reducible refine RdLe.alloc ?_ _) | (with_reducible refine RdLe.setC ?_ ?_ _; focus (first | (simp; done) | (simp; omega) | omega)))) (by omega) (by omega) (by omega)).mono ?_
        rintro e w6 ⟨⟨v6, ⟨vl6, vh6⟩, rfl, hR6, hb6⟩, hs6⟩
        clear hs6
        have hO6 := RowOwn.past hg (by omega) hO5 hb6
        have hz6 := hb6.size
        go_wp2_with (at_builtin; go_loud (refine wpList_rowAppend _ rfl (.tmp 33) (.tmp 44) _ rfl 53 i0 _ 4 32 Try.underlying49 q1 q2 q3 q4 rfl (by decide) w.heap.size _ A j c (DmF p) rfl (RowOwn.alloc hO6 _) _ _ _ 1 1 _ rfl (four_row _ _ _ _ _ _) ?_ (by unfold maxLen; omega) (by omega) (by simp; omega) ?_); (focus (intro i hi; rcases (by omega : i = 0 ∨ i = 1 ∨ i = 2 ∨ i = 3) with rfl | rfl | rfl | rfl <;> rfl)); intro A' c' w7 hO7 hG7 _)
        have hO8 := snoc_dm hO7
        have hP7 : Past g w.heap.size w w7 := by
          refine (hP.trans ((hb3.mono (by omega)).trans ((hb4.mono (by omega)).trans ((hb5.mono (by omega)).trans (hb6.mono (by omega)))))).trans (Past.trans (Past.of ((Below.refl _ _).alloc (by omega) _)) (past_grownAt (Nat.le_refl _) (fun k hk => ?_) hG7 (by simp; omega)))
          exact (hO6.1.lt k hk).1
        have hgA : ∀ k, (Value.slice A j c).ownBlock = some k → g < k := fun k hk => by have := (hO6.1.lt k hk).1; omega
        have hR7 : RdLe w7 g (k + 4 + 4 * (j + 1)) := RdLe.mono (k := k + 4 + 4 * j + 1 + 1 + 1 + 1) ((RdLe.alloc hR6 _).only hgA hG7) (by omega)
        clear hO hO3 hO4 hO5 hO6 hO7 hG7 hR3 hR4 hR5 hR6 hb3 hb4 hb5 hb6
        go_wp2
        go_roundw
        case rel =>
          exact ⟨j + 1, A', c', _, by omega, by go_num, rfl, hO8, hR7, hP7⟩
        case measure => simp [intOf]; omega
      · obtain rfl : M = j := by omega
        clear hjn hj
        have hmax : M ≤ 7 := hM7
        by_cases h0 : M = 0
        · subst h0
          go_wp2_with fail
          go_ret
          exact ⟨_, _, _, _, by omega, hO, rfl, hR.mono (by omega), hP⟩
        · have h0' : 0 < M := by omega
          go_wp2_with fail
          refine (pk _ g (k + 4 + 4 * M) _ (by repeat (first | assumption | (with_reducible refine RdLe.drew ?_) | (with_reducible refine RdLe.drewN ?_ _) | (with_reducible refine RdLe.alloc ?_ _) | (with_reducible refine RdLe.setC ?_ ?_ _; focus (first | (simp; done) | (simp; omega) | omega)))) (by omega) (by omega) (by omega)).mono ?_
          rintro e w7 ⟨⟨v7, ⟨vl7, vh7⟩, rfl, hR7, hb7⟩, hs7⟩
          clear hs7
          have hO7 := RowOwn.past hg (Nat.le_refl _) hO hb7
          have hz7 := hb7.size
          have hP7 := hP.trans (hb7.mono hPs)
          by_cases h7 : v7 = 0
          · subst h7
            go_wp2_with fail
            refine (pk _ g (k + 4 + 4 * M + 1) _ (by repeat (first | assumption | (with_reducible refine RdLe.drew ?_) | (with_reducible refine RdLe.drewN ?_ _) | (with_reducible refine RdLe.alloc ?_ _) | (with_reducible refine RdLe.setC ?_ ?_ _; focus (first | (simp; done) | (simp; omega) | omega)))) (by omega) (by omega) (by omega)).mono ?_
            rintro e w8 ⟨⟨v8, ⟨vl8, vh8⟩, rfl, hR8, hb8⟩, hs8⟩
            clear hs8
            have hO8 := RowOwn.past hg hz7 hO7 hb8
            have hz8 := hb8.size
            have hP8 := hP7.trans (hb8.mono (by omega))
            obtain ⟨N, rfl⟩ : ∃ N : Nat, v8 = N := ⟨v8.toNat, by omega⟩
            have hNM : N < M := by omega
            rcases hO8.cases with ⟨_, e, _⟩ | ⟨g2, rfl, hlo2, hhi2, hgl2, _, hfz, hcl⟩
            · omega
            · have hc1 := hcl (N * 4 + 1) (by omega)
              have hf1 := hfz (N * 4 + 1)
              clear hcl hfz hO hO7 hP hP7 hb7 hb8 hR hR7
              go_wp2_with fail
              go_ret
              refine ⟨_, _, _, _, by omega, RowOwn.congr ((hO8.store (N * 4 + 1) (.int .i64 0)).wide (Nat.le_refl _) (by simp [World.setCell]; omega)) (fun i hi => RowF_put (sz := 4) (C := DmC) (q := p) (k := N) (x := ⟨(p N).w, 0, (p N).m, (p N).h⟩) (by decide) ?_ ?_ i), rfl, (hR8.setCell (by show g < g2; omega) _).mono (by omega), hP8.setCell (by show w.heap.size ≤ g2; omega) _⟩
              · intro r hr
                rcases (by omega : r = 0 ∨ r = 1 ∨ r = 2 ∨ r = 3) with rfl | rfl | rfl | rfl
                · exact (if_neg (by omega)).trans ((RowF_at (sz := 4) (C := DmC) (q := p) (k := N) (r := 0) (by decide)))
                · exact if_pos rfl
                · exact (if_neg (by omega)).trans ((RowF_at (sz := 4) (C := DmC) (q := p) (k := N) (r := 2) (by decide)))
                · exact (if_neg (by omega)).trans ((RowF_at (sz := 4) (C := DmC) (q := p) (k := N) (r := 3) (by decide)))
              · intro i hi
                exact if_neg (by omega)
          · go_wp2_with fail
            go_ret
            exact ⟨_, _, _, _, by omega, hO7.wide (Nat.le_refl _) hz7, rfl, hR7.mono (by omega), hP7⟩
def MadeD (w : World) (e : Ending) (w' : World) : Prop := ∃ A n c p, n ≤ 7 ∧ RowOwn 53 w' w.heap.size w'.heap.size A n c 4 (DmF p) ∧ e = .returned (.slice A n c) ∧ Below w.heap.size w w'
set_option maxHeartbeats 2000000 in
theorem draw_dms (w : World) (A : Option Addr) (n c : Nat) (h : IsInts .u8 w A n c) (hn : n ≤ 1048576) :
    Calls Try.prog 34 #[.slice A n c] w (MadeD w) := by
  have H := Lib.hid h
  clear h
  go_enter Try.func34, Try.ntmps34
  go_wp2_with fail
  refine (open_any _ A n c (H.out.below (by repeat (first | (with_reducible exact Below.refl _ _) | (with_reducible refine Bal ?_ _) | (with_reducible refine Below.drew ?_) | (with_reducible refine below_drewN ?_ _) | (with_reducible refine Bset ?_ ?_ _; focus (first | (with_reducible exact Nat.le_refl _) | (simp; done) | (simp; omega) | omega)) | (with_reducible refine Bt ?_ (by assumption)) | (with_reducible refine Bp (g := g) ?_ (by assumption) (by assumption))))) hn).mono ?_
  rintro e w0 ⟨g, rfl, hgo, hR0, hb0⟩
  obtain ⟨hc0, hf0⟩ := bcell hb0
  have hy0 := hb0.size
  try simp at hy0
  try simp at hgo
  have hgo2 : w.heap.size ≤ g := by omega
  have hgl := hR0.lt
  go_wp2_with fail
  refine (demands_draw _ g 0 (by repeat (first | assumption | (with_reducible refine RdLe.drew ?_) | (with_reducible refine RdLe.drewN ?_ _) | (with_reducible refine RdLe.alloc ?_ _) | (with_reducible refine RdLe.setC ?_ ?_ _; focus (first | (simp; done) | (simp; omega) | omega)))) (by omega)).mono ?_
  rintro e w1 ⟨A1, m, c1, p, hm, hO1, rfl, hR1, hb1⟩
  have hy1 := hb1.size
  go_wp2_with fail
  go_ret
  refine ⟨_, _, _, _, hm, hO1.wide (by (try simp at hy0); omega) (Nat.le_refl _), rfl, ?_⟩
  go_light
  repeat (first | (with_reducible exact Below.refl _ _) | (with_reducible refine Bal ?_ _) | (with_reducible refine Below.drew ?_) | (with_reducible refine below_drewN ?_ _) | (with_reducible refine Bset ?_ ?_ _; focus (first | (with_reducible exact Nat.le_refl _) | (simp; done) | (simp; omega) | omega)) | (with_reducible refine Bt ?_ (by assumption)) | (with_reducible refine Bp (g := g) ?_ (by assumption) (by assumption)))
end Go.Proofs.Ytmidpodoapggnaa
