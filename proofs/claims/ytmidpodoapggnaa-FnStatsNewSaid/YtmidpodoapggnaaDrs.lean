/- The draw of a law on stats. -/
import Derived.Test.YtmidpodoapggnaaDrw
import Derived.Test.YtmidpodoapggnaaAny
import Derived.Test.YtmidpodoapggnaaFad
namespace Go.Proofs.Ytmidpodoapggnaa
open Go Go.RowKit
set_option linter.unusedVariables false
set_option linter.unusedSimpArgs false
set_option maxHeartbeats 4000000 in
theorem three_draw (w : World) (g k : Nat) (h : RdLe w g k) (hk : k ≤ 999900) :
    Calls Try.prog 45 #[.pointer (some ⟨g, 0, none⟩)] w (Drawn3 g (k + 20) w) := by
  have hg := h.lt
  go_enter Try.func45, Try.ntmps45
  go_wp2_with fail
  refine (pk _ g (k) _ (by repeat (first | assumption | (with_reducible refine RdLe.drew ?_) | (with_reducible refine RdLe.drewN ?_ _) | (with_reducible refine RdLe.alloc ?_ _) | (with_reducible refine RdLe.setC ?_ ?_ _; focus (first | (simp; done) | (simp; omega) | omega)))) (by omega) (by omega) (by omega)).mono ?_
  rintro e w1 ⟨⟨v1, ⟨vl1, vh1⟩, rfl, hR1, hb1⟩, hs1⟩
  obtain ⟨hc1, hf1⟩ := hb1.cells
  have hy1 := hb1.size
  try simp at hy1
  try simp at hs1
  by_cases h1 : v1 = 0
  · subst h1
    go_wp2_with fail
    have hXn2 := Lib.hid (show ∀ q, w1.heap.size ≤ q → ¬ (fun q => q = g) q by intro q hq hx; have hx : q = g := hx; omega)
    refine wp_region_fad g (k + 1) (fun q => q = g) (fun _ => True) [kInts 3 (-1) (1000000), kEq (.pointer (some ⟨g, 0, none⟩)), kInt (0) (2), kAd (-1) (1000000), kInt (-1) (1000000), kInts 3 (-1) (100000), kEq (.pointer (some ⟨g, 0, none⟩)), kInt (0) (2), kAd (-1) (100000), kInt (-1) (100000), kInt (-1) (1000000), kInt (-1) (100000), kEq (.int .i64 7)] (by kernel_rfl) 30 rfl (by kernel_rfl) (by exact rfl) (by repeat (first | assumption | (with_reducible refine RdLe.drew ?_) | (with_reducible refine RdLe.drewN ?_ _) | (with_reducible refine RdLe.alloc ?_ _) | (with_reducible refine RdLe.setC ?_ ?_ _; focus (first | (simp; done) | (simp; omega) | omega)))) (by trivial) (fac_cons [] (by kernel_rfl) ?_ (fac_cons [] (by kernel_rfl) ?_ (fac_cons [(1, 10)] (by kernel_rfl) ?_ (fac_cons [(0, 9), (2, 11)] (by kernel_rfl) ?_ (fac_cons [(3, 12)] (by kernel_rfl) ?_ (fac_cons [] (by kernel_rfl) ?_ (fac_cons [] (by kernel_rfl) ?_ (fac_cons [(6, 15)] (by kernel_rfl) ?_ (fac_cons [(5, 14), (7, 16)] (by kernel_rfl) ?_ (fac_cons [(8, 17)] (by kernel_rfl) ?_ (fac_cons [(4, 13)] (by kernel_rfl) ?_ (fac_cons [(9, 18)] (by kernel_rfl) ?_ (fac_cons [] (by kernel_rfl) ?_ (fac_nil)))))))))))))) [(0, 9), (1, 10), (2, 11), (3, 12), (4, 13), (5, 14), (6, 15), (7, 16), (8, 17), (9, 18), (10, 2), (11, 3), (12, 4)] (by kernel_rfl) ?_
    · intro n W hn hJ
      have hn : n < 13 := hn
      have hR := hJ.1
      have hE := hJ.2.1
      have hjx := hJ.2.2
      have hsz := hE.size
      have hsz : w1.heap.size ≤ W.heap.size := hsz
      have hgW := hR.lt
      refine fac_op rfl rfl (by show 9 < 30; decide) ?_
      refine fac_putK ?_; intro K hK; go_simp; refine hK _ ?_; clear hK K
      go_wp2_with fail
      refine then_fac rfl (fad_step hJ (by exact rfl) (by repeat (first | (with_reducible exact Past.refl _ _ _) | (with_reducible refine Past.alloc ?_ (by simp) _) | (with_reducible refine Past.drew ?_) | (with_reducible refine Past.drewN ?_ _) | (with_reducible refine Past.setC ?_ ?_ _; focus (first | (with_reducible exact Nat.le_refl _) | (simp; done) | (simp; omega) | omega)) | (with_reducible refine Past.step ?_ (by simp) (by assumption)))) (RdLe.mono (k := k + 1 + n) (by repeat (first | assumption | (with_reducible refine RdLe.drew ?_) | (with_reducible refine RdLe.drewN ?_ _) | (with_reducible refine RdLe.alloc ?_ _) | (with_reducible refine RdLe.setC ?_ ?_ _; focus (first | (simp; done) | (simp; omega) | omega)))) (by omega)) (by trivial) ?_)
      refine kInts_mk (hXn2.out _ hsz) (by simp) (fun j hj => ?_)
      rcases (by omega : j = 0 ∨ j = 1 ∨ j = 2) with rfl | rfl | rfl
      · exact ⟨(-1), by go_simp, by decide, by decide⟩
      · exact ⟨5, by go_simp, by decide, by decide⟩
      · exact ⟨1000000, by go_simp, by decide, by decide⟩
    · intro n W hn hJ
      have hn : n < 13 := hn
      have hR := hJ.1
      have hE := hJ.2.1
      have hjx := hJ.2.2
      have hsz := hE.size
      have hsz : w1.heap.size ≤ W.heap.size := hsz
      have hgW := hR.lt
      refine fac_op rfl rfl (by show 10 < 30; decide) ?_
      refine fac_putK ?_; intro K hK; go_simp; refine hK _ ?_; clear hK K
      go_wp2_with fail
      refine then_fac rfl (fad_step hJ (by exact rfl) (by repeat (first | (with_reducible exact Past.refl _ _ _) | (with_reducible refine Past.alloc ?_ (by simp) _) | (with_reducible refine Past.drew ?_) | (with_reducible refine Past.drewN ?_ _) | (with_reducible refine Past.setC ?_ ?_ _; focus (first | (with_reducible exact Nat.le_refl _) | (simp; done) | (simp; omega) | omega)) | (with_reducible refine Past.step ?_ (by simp) (by assumption)))) (RdLe.mono (k := k + 1 + n) (by repeat (first | assumption | (with_reducible refine RdLe.drew ?_) | (with_reducible refine RdLe.drewN ?_ _) | (with_reducible refine RdLe.alloc ?_ _) | (with_reducible refine RdLe.setC ?_ ?_ _; focus (first | (simp; done) | (simp; omega) | omega)))) (by omega)) (by trivial) ?_)
      exact kEq_mk rfl
    · intro n W hn hJ
      have hn : n < 13 := hn
      have hR := hJ.1
      have hE := hJ.2.1
      have hjx := hJ.2.2
      have hsz := hE.size
      have hsz : w1.heap.size ≤ W.heap.size := hsz
      have hgW := hR.lt
      intro u10 hu10
      have hu10 : u10 = (.pointer (some ⟨g, 0, none⟩) : Value) := hu10
      subst hu10
      refine fac_op rfl rfl (by show 11 < 30; decide) ?_
      refine fac_putK ?_; intro K hK; go_simp; refine hK _ ?_; clear hK K
      go_wp2_with (go_at_call 53; refine (pk _ g (k + 1 + n) _ (by repeat (first | assumption | (with_reducible refine RdLe.drew ?_) | (with_reducible refine RdLe.drewN ?_ _) | (with_reducible refine RdLe.alloc ?_ _) | (with_reducible refine RdLe.setC ?_ ?_ _; focus (first | (simp; done) | (simp; omega) | omega)))) (by omega) (by omega) (by omega)).mono ?_; rintro e W1 ⟨⟨v1, ⟨vl1, vh1⟩, rfl, hR1, hb1⟩, hs1⟩)
      refine then_fac rfl (fad_step hJ (by exact rfl) (by repeat (first | (with_reducible exact Past.refl _ _ _) | (with_reducible refine Past.alloc ?_ (by simp) _) | (with_reducible refine Past.drew ?_) | (with_reducible refine Past.drewN ?_ _) | (with_reducible refine Past.setC ?_ ?_ _; focus (first | (with_reducible exact Nat.le_refl _) | (simp; done) | (simp; omega) | omega)) | (with_reducible refine Past.step ?_ (by simp) (by assumption)))) (hR1) (by trivial) ?_)
      exact kInt_mk (by omega) (by omega)
    · intro n W hn hJ
      have hn : n < 13 := hn
      have hR := hJ.1
      have hE := hJ.2.1
      have hjx := hJ.2.2
      have hsz := hE.size
      have hsz : w1.heap.size ≤ W.heap.size := hsz
      have hgW := hR.lt
      intro u9 hu9
      obtain ⟨b9, rfl, nb9, sb9, cb9⟩ := hu9
      intro u11 hu11
      obtain ⟨x11, rfl, xl11, xh11⟩ := hu11
      obtain ⟨N11, rfl⟩ : ∃ N : Nat, x11 = N := ⟨x11.toNat, by omega⟩
      obtain ⟨y9, hy9, hyl9, hyh9⟩ := cb9 N11 (by omega)
      clear cb9
      refine fac_op rfl rfl (by show 12 < 30; decide) ?_
      refine fac_putK ?_; intro K hK; go_simp; refine hK _ ?_; clear hK K
      go_wp2_with fail
      refine then_fac rfl (fad_step hJ (by exact rfl) (by repeat (first | (with_reducible exact Past.refl _ _ _) | (with_reducible refine Past.alloc ?_ (by simp) _) | (with_reducible refine Past.drew ?_) | (with_reducible refine Past.drewN ?_ _) | (with_reducible refine Past.setC ?_ ?_ _; focus (first | (with_reducible exact Nat.le_refl _) | (simp; done) | (simp; omega) | omega)) | (with_reducible refine Past.step ?_ (by simp) (by assumption)))) (RdLe.mono (k := k + 1 + n) (by repeat (first | assumption | (with_reducible refine RdLe.drew ?_) | (with_reducible refine RdLe.drewN ?_ _) | (with_reducible refine RdLe.alloc ?_ _) | (with_reducible refine RdLe.setC ?_ ?_ _; focus (first | (simp; done) | (simp; omega) | omega)))) (by omega)) (by trivial) ?_)
      exact kAd_mk nb9 sb9 (by first | exact hy9 | simpa using hy9) hyl9 hyh9
    · intro n W hn hJ
      have hn : n < 13 := hn
      have hR := hJ.1
      have hE := hJ.2.1
      have hjx := hJ.2.2
      have hsz := hE.size
      have hsz : w1.heap.size ≤ W.heap.size := hsz
      have hgW := hR.lt
      intro u12 hu12
      obtain ⟨b12, j12, x12, rfl, nb12, sb12, cb12, xl12, xh12⟩ := hu12
      refine fac_op rfl rfl (by show 13 < 30; decide) ?_
      refine fac_putK ?_; intro K hK; go_simp; refine hK _ ?_; clear hK K
      go_wp2_with fail
      refine then_fac rfl (fad_step hJ (by exact rfl) (by repeat (first | (with_reducible exact Past.refl _ _ _) | (with_reducible refine Past.alloc ?_ (by simp) _) | (with_reducible refine Past.drew ?_) | (with_reducible refine Past.drewN ?_ _) | (with_reducible refine Past.setC ?_ ?_ _; focus (first | (with_reducible exact Nat.le_refl _) | (simp; done) | (simp; omega) | omega)) | (with_reducible refine Past.step ?_ (by simp) (by assumption)))) (RdLe.mono (k := k + 1 + n) (by repeat (first | assumption | (with_reducible refine RdLe.drew ?_) | (with_reducible refine RdLe.drewN ?_ _) | (with_reducible refine RdLe.alloc ?_ _) | (with_reducible refine RdLe.setC ?_ ?_ _; focus (first | (simp; done) | (simp; omega) | omega)))) (by omega)) (by trivial) ?_)
      exact kInt_mk (by omega) (by omega)
    · intro n W hn hJ
      have hn : n < 13 := hn
      have hR := hJ.1
      have hE := hJ.2.1
      have hjx := hJ.2.2
      have hsz := hE.size
      have hsz : w1.heap.size ≤ W.heap.size := hsz
      have hgW := hR.lt
      refine fac_op rfl rfl (by show 14 < 30; decide) ?_
      refine fac_putK ?_; intro K hK; go_simp; refine hK _ ?_; clear hK K
      go_wp2_with fail
      refine then_fac rfl (fad_step hJ (by exact rfl) (by repeat (first | (with_reducible exact Past.refl _ _ _) | (with_reducible refine Past.alloc ?_ (by simp) _) | (with_reducible refine Past.drew ?_) | (with_reducible refine Past.drewN ?_ _) | (with_reducible refine Past.setC ?_ ?_ _; focus (first | (with_reducible exact Nat.le_refl _) | (simp; done) | (simp; omega) | omega)) | (with_reducible refine Past.step ?_ (by simp) (by assumption)))) (RdLe.mono (k := k + 1 + n) (by repeat (first | assumption | (with_reducible refine RdLe.drew ?_) | (with_reducible refine RdLe.drewN ?_ _) | (with_reducible refine RdLe.alloc ?_ _) | (with_reducible refine RdLe.setC ?_ ?_ _; focus (first | (simp; done) | (simp; omega) | omega)))) (by omega)) (by trivial) ?_)
      refine kInts_mk (hXn2.out _ hsz) (by simp) (fun j hj => ?_)
      rcases (by omega : j = 0 ∨ j = 1 ∨ j = 2) with rfl | rfl | rfl
      · exact ⟨(-1), by go_simp, by decide, by decide⟩
      · exact ⟨5, by go_simp, by decide, by decide⟩
      · exact ⟨100000, by go_simp, by decide, by decide⟩
    · intro n W hn hJ
      have hn : n < 13 := hn
      have hR := hJ.1
      have hE := hJ.2.1
      have hjx := hJ.2.2
      have hsz := hE.size
      have hsz : w1.heap.size ≤ W.heap.size := hsz
      have hgW := hR.lt
      refine fac_op rfl rfl (by show 15 < 30; decide) ?_
      refine fac_putK ?_; intro K hK; go_simp; refine hK _ ?_; clear hK K
      go_wp2_with fail
      refine then_fac rfl (fad_step hJ (by exact rfl) (by repeat (first | (with_reducible exact Past.refl _ _ _) | (with_reducible refine Past.alloc ?_ (by simp) _) | (with_reducible refine Past.drew ?_) | (with_reducible refine Past.drewN ?_ _) | (with_reducible refine Past.setC ?_ ?_ _; focus (first | (with_reducible exact Nat.le_refl _) | (simp; done) | (simp; omega) | omega)) | (with_reducible refine Past.step ?_ (by simp) (by assumption)))) (RdLe.mono (k := k + 1 + n) (by repeat (first | assumption | (with_reducible refine RdLe.drew ?_) | (with_reducible refine RdLe.drewN ?_ _) | (with_reducible refine RdLe.alloc ?_ _) | (with_reducible refine RdLe.setC ?_ ?_ _; focus (first | (simp; done) | (simp; omega) | omega)))) (by omega)) (by trivial) ?_)
      exact kEq_mk rfl
    · intro n W hn hJ
      have hn : n < 13 := hn
      have hR := hJ.1
      have hE := hJ.2.1
      have hjx := hJ.2.2
      have hsz := hE.size
      have hsz : w1.heap.size ≤ W.heap.size := hsz
      have hgW := hR.lt
      intro u15 hu15
      have hu15 : u15 = (.pointer (some ⟨g, 0, none⟩) : Value) := hu15
      subst hu15
      refine fac_op rfl rfl (by show 16 < 30; decide) ?_
      refine fac_putK ?_; intro K hK; go_simp; refine hK _ ?_; clear hK K
      go_wp2_with (go_at_call 53; refine (pk _ g (k + 1 + n) _ (by repeat (first | assumption | (with_reducible refine RdLe.drew ?_) | (with_reducible refine RdLe.drewN ?_ _) | (with_reducible refine RdLe.alloc ?_ _) | (with_reducible refine RdLe.setC ?_ ?_ _; focus (first | (simp; done) | (simp; omega) | omega)))) (by omega) (by omega) (by omega)).mono ?_; rintro e W1 ⟨⟨v1, ⟨vl1, vh1⟩, rfl, hR1, hb1⟩, hs1⟩)
      refine then_fac rfl (fad_step hJ (by exact rfl) (by repeat (first | (with_reducible exact Past.refl _ _ _) | (with_reducible refine Past.alloc ?_ (by simp) _) | (with_reducible refine Past.drew ?_) | (with_reducible refine Past.drewN ?_ _) | (with_reducible refine Past.setC ?_ ?_ _; focus (first | (with_reducible exact Nat.le_refl _) | (simp; done) | (simp; omega) | omega)) | (with_reducible refine Past.step ?_ (by simp) (by assumption)))) (hR1) (by trivial) ?_)
      exact kInt_mk (by omega) (by omega)
    · intro n W hn hJ
      have hn : n < 13 := hn
      have hR := hJ.1
      have hE := hJ.2.1
      have hjx := hJ.2.2
      have hsz := hE.size
      have hsz : w1.heap.size ≤ W.heap.size := hsz
      have hgW := hR.lt
      intro u14 hu14
      obtain ⟨b14, rfl, nb14, sb14, cb14⟩ := hu14
      intro u16 hu16
      obtain ⟨x16, rfl, xl16, xh16⟩ := hu16
      obtain ⟨N16, rfl⟩ : ∃ N : Nat, x16 = N := ⟨x16.toNat, by omega⟩
      obtain ⟨y14, hy14, hyl14, hyh14⟩ := cb14 N16 (by omega)
      clear cb14
      refine fac_op rfl rfl (by show 17 < 30; decide) ?_
      refine fac_putK ?_; intro K hK; go_simp; refine hK _ ?_; clear hK K
      go_wp2_with fail
      refine then_fac rfl (fad_step hJ (by exact rfl) (by repeat (first | (with_reducible exact Past.refl _ _ _) | (with_reducible refine Past.alloc ?_ (by simp) _) | (with_reducible refine Past.drew ?_) | (with_reducible refine Past.drewN ?_ _) | (with_reducible refine Past.setC ?_ ?_ _; focus (first | (with_reducible exact Nat.le_refl _) | (simp; done) | (simp; omega) | omega)) | (with_reducible refine Past.step ?_ (by simp) (by assumption)))) (RdLe.mono (k := k + 1 + n) (by repeat (first | assumption | (with_reducible refine RdLe.drew ?_) | (with_reducible refine RdLe.drewN ?_ _) | (with_reducible refine RdLe.alloc ?_ _) | (with_reducible refine RdLe.setC ?_ ?_ _; focus (first | (simp; done) | (simp; omega) | omega)))) (by omega)) (by trivial) ?_)
      exact kAd_mk nb14 sb14 (by first | exact hy14 | simpa using hy14) hyl14 hyh14
    · intro n W hn hJ
      have hn : n < 13 := hn
      have hR := hJ.1
      have hE := hJ.2.1
      have hjx := hJ.2.2
      have hsz := hE.size
      have hsz : w1.heap.size ≤ W.heap.size := hsz
      have hgW := hR.lt
      intro u17 hu17
      obtain ⟨b17, j17, x17, rfl, nb17, sb17, cb17, xl17, xh17⟩ := hu17
      refine fac_op rfl rfl (by show 18 < 30; decide) ?_
      refine fac_putK ?_; intro K hK; go_simp; refine hK _ ?_; clear hK K
      go_wp2_with fail
      refine then_fac rfl (fad_step hJ (by exact rfl) (by repeat (first | (with_reducible exact Past.refl _ _ _) | (with_reducible refine Past.alloc ?_ (by simp) _) | (with_reducible refine Past.drew ?_) | (with_reducible refine Past.drewN ?_ _) | (with_reducible refine Past.setC ?_ ?_ _; focus (first | (with_reducible exact Nat.le_refl _) | (simp; done) | (simp; omega) | omega)) | (with_reducible refine Past.step ?_ (by simp) (by assumption)))) (RdLe.mono (k := k + 1 + n) (by repeat (first | assumption | (with_reducible refine RdLe.drew ?_) | (with_reducible refine RdLe.drewN ?_ _) | (with_reducible refine RdLe.alloc ?_ _) | (with_reducible refine RdLe.setC ?_ ?_ _; focus (first | (simp; done) | (simp; omega) | omega)))) (by omega)) (by trivial) ?_)
      exact kInt_mk (by omega) (by omega)
    · intro n W hn hJ
      have hn : n < 13 := hn
      have hR := hJ.1
      have hE := hJ.2.1
      have hjx := hJ.2.2
      have hsz := hE.size
      have hsz : w1.heap.size ≤ W.heap.size := hsz
      have hgW := hR.lt
      intro u13 hu13
      obtain ⟨x13, rfl, xl13, xh13⟩ := hu13
      refine fac_op rfl rfl (by show 2 < 30; decide) ?_
      refine fac_putK ?_; intro K hK; go_simp; refine hK _ ?_; clear hK K
      go_wp2_with fail
      refine then_fac rfl (fad_step hJ (by exact rfl) (by repeat (first | (with_reducible exact Past.refl _ _ _) | (with_reducible refine Past.alloc ?_ (by simp) _) | (with_reducible refine Past.drew ?_) | (with_reducible refine Past.drewN ?_ _) | (with_reducible refine Past.setC ?_ ?_ _; focus (first | (with_reducible exact Nat.le_refl _) | (simp; done) | (simp; omega) | omega)) | (with_reducible refine Past.step ?_ (by simp) (by assumption)))) (RdLe.mono (k := k + 1 + n) (by repeat (first | assumption | (with_reducible refine RdLe.drew ?_) | (with_reducible refine RdLe.drewN ?_ _) | (with_reducible refine RdLe.alloc ?_ _) | (with_reducible refine RdLe.setC ?_ ?_ _; focus (first | (simp; done) | (simp; omega) | omega)))) (by omega)) (by trivial) ?_)
      exact kInt_mk (by omega) (by omega)
    · intro n W hn hJ
      have hn : n < 13 := hn
      have hR := hJ.1
      have hE := hJ.2.1
      have hjx := hJ.2.2
      have hsz := hE.size
      have hsz : w1.heap.size ≤ W.heap.size := hsz
      have hgW := hR.lt
      intro u18 hu18
      obtain ⟨x18, rfl, xl18, xh18⟩ := hu18
      refine fac_op rfl rfl (by show 3 < 30; decide) ?_
      refine fac_putK ?_; intro K hK; go_simp; refine hK _ ?_; clear hK K
      go_wp2_with fail
      refine then_fac rfl (fad_step hJ (by exact rfl) (by repeat (first | (with_reducible exact Past.refl _ _ _) | (with_reducible refine Past.alloc ?_ (by simp) _) | (with_reducible refine Past.drew ?_) | (with_reducible refine Past.drewN ?_ _) | (with_reducible refine Past.setC ?_ ?_ _; focus (first | (with_reducible exact Nat.le_refl _) | (simp; done) | (simp; omega) | omega)) | (with_reducible refine Past.step ?_ (by simp) (by assumption)))) (RdLe.mono (k := k + 1 + n) (by repeat (first | assumption | (with_reducible refine RdLe.drew ?_) | (with_reducible refine RdLe.drewN ?_ _) | (with_reducible refine RdLe.alloc ?_ _) | (with_reducible refine RdLe.setC ?_ ?_ _; focus (first | (simp; done) | (simp; omega) | omega)))) (by omega)) (by trivial) ?_)
      exact kInt_mk (by omega) (by omega)
    · intro n W hn hJ
      have hn : n < 13 := hn
      have hR := hJ.1
      have hE := hJ.2.1
      have hjx := hJ.2.2
      have hsz := hE.size
      have hsz : w1.heap.size ≤ W.heap.size := hsz
      have hgW := hR.lt
      refine fac_op rfl rfl (by show 4 < 30; decide) ?_
      refine fac_putK ?_; intro K hK; go_simp; refine hK _ ?_; clear hK K
      go_wp2_with fail
      refine then_fac rfl (fad_step hJ (by exact rfl) (by repeat (first | (with_reducible exact Past.refl _ _ _) | (with_reducible refine Past.alloc ?_ (by simp) _) | (with_reducible refine Past.drew ?_) | (with_reducible refine Past.drewN ?_ _) | (with_reducible refine Past.setC ?_ ?_ _; focus (first | (with_reducible exact Nat.le_refl _) | (simp; done) | (simp; omega) | omega)) | (with_reducible refine Past.step ?_ (by simp) (by assumption)))) (RdLe.mono (k := k + 1 + n) (by repeat (first | assumption | (with_reducible refine RdLe.drew ?_) | (with_reducible refine RdLe.drewN ?_ _) | (with_reducible refine RdLe.alloc ?_ _) | (with_reducible refine RdLe.setC ?_ ?_ _; focus (first | (simp; done) | (simp; omega) | omega)))) (by omega)) (by trivial) ?_)
      exact kEq_mk rfl
    intro w2 hR2 hE2 hjx2
    have hR2 : RdLe w2 g (k + 1 + 13) := hR2
    clear hjx2
    intro u9 hu9
    obtain ⟨b9, rfl, _⟩ := hu9
    intro u10 hu10
    have hu10 : u10 = (.pointer (some ⟨g, 0, none⟩) : Value) := hu10
    subst hu10
    intro u11 hu11
    obtain ⟨x11, rfl, xl11, xh11⟩ := hu11
    intro u12 hu12
    obtain ⟨b12, j12, x12, rfl, _⟩ := hu12
    intro u13 hu13
    obtain ⟨x13, rfl, xl13, xh13⟩ := hu13
    intro u14 hu14
    obtain ⟨b14, rfl, _⟩ := hu14
    intro u15 hu15
    have hu15 : u15 = (.pointer (some ⟨g, 0, none⟩) : Value) := hu15
    subst hu15
    intro u16 hu16
    obtain ⟨x16, rfl, xl16, xh16⟩ := hu16
    intro u17 hu17
    obtain ⟨b17, j17, x17, rfl, _⟩ := hu17
    intro u18 hu18
    obtain ⟨x18, rfl, xl18, xh18⟩ := hu18
    intro u2 hu2
    obtain ⟨x2, rfl, xl2, xh2⟩ := hu2
    intro u3 hu3
    obtain ⟨x3, rfl, xl3, xh3⟩ := hu3
    intro u4 hu4
    have hu4 : u4 = (.int .i64 7 : Value) := hu4
    subst hu4
    refine fac_end ?_; intro K hK; go_simp; refine hK _ ?_; clear hK K
    go_wp2_with fail
    refine bodyPost_retE rfl ?_
    apply Exists.intro
    refine ⟨?_, ?_⟩
    · simp only [results, Try.results45]
      go_simp
      first | done | rfl
    go_light
    refine ⟨_, _, _, rfl, RdLe.mono (k := k + 1 + 13) hR2 (by omega), ?_⟩
    exact (hb1.mono (Nat.le_refl _)).trans (hE2.past (fun q hq => Or.inl hq) (by omega))
  · skip
    go_wp2_with fail
    refine (pk _ g (k + 1) _ (by repeat (first | assumption | (with_reducible refine RdLe.drew ?_) | (with_reducible refine RdLe.drewN ?_ _) | (with_reducible refine RdLe.alloc ?_ _) | (with_reducible refine RdLe.setC ?_ ?_ _; focus (first | (simp; done) | (simp; omega) | omega)))) (by omega) (by omega) (by omega)).mono ?_
    rintro e w2 ⟨⟨v2, ⟨vl2, vh2⟩, rfl, hR2, hb2⟩, hs2⟩
    obtain ⟨hc2, hf2⟩ := hb2.cells
    have hy2 := hb2.size
    try simp at hy2
    try simp at hs2
    go_wp2_with fail
    refine (pk _ g (k + 1 + 1) _ (by repeat (first | assumption | (with_reducible refine RdLe.drew ?_) | (with_reducible refine RdLe.drewN ?_ _) | (with_reducible refine RdLe.alloc ?_ _) | (with_reducible refine RdLe.setC ?_ ?_ _; focus (first | (simp; done) | (simp; omega) | omega)))) (by omega) (by omega) (by omega)).mono ?_
    rintro e w3 ⟨⟨v3, ⟨vl3, vh3⟩, rfl, hR3, hb3⟩, hs3⟩
    obtain ⟨hc3, hf3⟩ := hb3.cells
    have hy3 := hb3.size
    try simp at hy3
    try simp at hs3
    go_wp2_with fail
    refine (pk _ g (k + 1 + 1 + 1) _ (by repeat (first | assumption | (with_reducible refine RdLe.drew ?_) | (with_reducible refine RdLe.drewN ?_ _) | (with_reducible refine RdLe.alloc ?_ _) | (with_reducible refine RdLe.setC ?_ ?_ _; focus (first | (simp; done) | (simp; omega) | omega)))) (by omega) (by omega) (by omega)).mono ?_
    rintro e w4 ⟨⟨v4, ⟨vl4, vh4⟩, rfl, hR4, hb4⟩, hs4⟩
    obtain ⟨hc4, hf4⟩ := hb4.cells
    have hy4 := hb4.size
    try simp at hy4
    try simp at hs4
    go_wp2_with fail
    refine bodyPost_retE rfl ?_
    apply Exists.intro
    refine ⟨?_, ?_⟩
    · simp only [results, Try.results45]
      go_simp
      first | done | rfl
    go_light
    refine ⟨_, _, _, rfl, RdLe.mono (k := k + 1 + 1 + 1 + 1) (by repeat (first | assumption | (with_reducible refine RdLe.drew ?_) | (with_reducible refine RdLe.drewN ?_ _) | (with_reducible refine RdLe.alloc ?_ _) | (with_reducible refine RdLe.setC ?_ ?_ _; focus (first | (simp; done) | (simp; omega) | omega)))) (by omega), ?_⟩
    repeat (first | (with_reducible exact Past.refl _ _ _) | (with_reducible refine Past.alloc ?_ (by simp) _) | (with_reducible refine Past.drew ?_) | (with_reducible refine Past.drewN ?_ _) | (with_reducible refine Past.setC ?_ ?_ _; focus (first | (with_reducible exact Nat.le_refl _) | (simp; done) | (simp; omega) | omega)) | (with_reducible refine Past.step ?_ (by simp) (by assumption)))
end Go.Proofs.Ytmidpodoapggnaa
