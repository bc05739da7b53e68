/- Rooms: a hearing is made: who hears whom in a room. -/
import Derived.Test.YtelcclhaepfmgaaRpm
namespace Go.Proofs.Ytelcclhaepfmgaa
open Go Go.RowKit Go.Maps
set_option linter.unusedVariables false
set_option linter.unusedSimpArgs false
/-- Block b is a hearing of at most m entries that says T. -/
def Hg (w : World) (b m : Nat) (T : Int → List Int) : Prop := ∃ (A : Int → Option Addr) (c : Int → Nat), Hrg w b m (fun v => ⟨A v, (T v).length, c v, atL (T v)⟩)
theorem Hg.lt {w : World} {b m : Nat} {T : Int → List Int} (h : Hg w b m T) : b < w.heap.size := let ⟨_, _, h1⟩ := h; h1.lt
theorem Hg.below {w w' : World} {b m : Nat} {T : Int → List Int} (h : Hg w b m T) (hb : Below w.heap.size w w') : Hg w' b m T := let ⟨A, c, h1⟩ := h; ⟨A, c, h1.below hb⟩
theorem Hg.made (w : World) : Hg (w.alloc (.map #[] 0)) w.heap.size 0 (fun _ => []) :=
  ⟨fun _ => none, fun _ => 0, MapOf.made w, fun v => ⟨⟨by simp, .inl ⟨rfl, rfl⟩⟩, fun g hg => by cases hg⟩⟩
theorem Hg.put {w w' : World} {b m : Nat} {T : Int → List Int} {id : Int} {L : List Int} {e : Ending} {A : Int → Option Addr} {c : Int → Nat} (h : Hrg w b m (fun v => ⟨A v, (T v).length, c v, atL (T v)⟩)) (hp : PutRet w b m (fun v => slV ⟨A v, (T v).length, c v, atL (T v)⟩) id L e w') :
    e = .returned (.tuple #[]) ∧ Hg w' b (m + 1) (fun v => if v = id then L else T v) ∧ Exc (fun g => g = b) w w' := by
  obtain ⟨B, cb, h1, h2, h3⟩ := h.put hp
  refine ⟨h1, ⟨fun v => if v = id then B else A v, fun v => if v = id then cb else c v, ?_⟩, h3⟩
  have e : (fun v => (⟨if v = id then B else A v, (if v = id then L else T v).length, if v = id then cb else c v, atL (if v = id then L else T v)⟩ : Sl)) = updS (fun v => ⟨A v, (T v).length, c v, atL (T v)⟩) id ⟨B, L.length, cb, atL L⟩ := funext fun v => by
    unfold updS
    by_cases e : v = id
    · simp only [if_pos e]
    · simp only [if_neg e]
  rw [e]
  exact h2
set_option maxRecDepth 100000 in
set_option maxHeartbeats 8000000 in
theorem inew_any (w : World) (lo hi : Nat) (A : Option Addr) (n c : Nat) (M : Nat → Mb) (h : Room w lo hi A n M) (hi' : hi ≤ w.heap.size) (hn : n ≤ 1048576) (hb : ∀ i, i < n → (M i).p.n ≤ 1048576) (hid : ∀ i, i < n → (Lit.int .i64 (M i).p.id).wf = true) :
    Calls Try.prog 49 #[.slice A n c] w fun e w' => e = .returned (.map (some w.heap.size)) ∧ Hg w' w.heap.size n (hL (plain M) n) ∧ Below w.heap.size w w' := by
  obtain ⟨i1, r1, r2, r3, r4⟩ := info_parts info_int
  have H := Lib.hid h
  have HN := Lib.hid hb
  clear h hb
  have hmk := run_makeHint w hn
  go_enter Try.func49, Try.ntmps49
  go_wp2_with fail
  have HS := Lib.hid (Hg.made w)
  clear hmk
  go_loopw [11] (fun i wr => ∃ k, k ≤ n ∧ i = .int .i64 (k : Nat) ∧ Hid (Hg wr w.heap.size k (hL (plain M) k)) ∧ Hid (Below w.heap.size w wr)) (fun i _ => n - (intOf i).toNat)
  case atStart => exact ⟨0, Nat.zero_le _, rfl, HS, Lib.hid (Ba _ _)⟩
  case round =>
    obtain ⟨k, hk, rfl, HT, HB⟩ := hrel
    clear HS
    have hws := HB.out.size
    by_cases hkn : k < n
    rotate_left
    · obtain rfl : k = n := by omega
      go_wp2_with fail
      go_ret
      exact ⟨rfl, HT.out, HB.out⟩
    have HR := Lib.hid (H.out.1.below hi' HB.out)
    have HZ := Lib.hid ((H.out.2 k hkn).below hi' HB.out)
    have hzn := HN.out k hkn
    obtain ⟨b, off, rfl, _, hb2, c0, c1, c2⟩ := Mb_at HR.out hkn
    have hbw : b < wr.heap.size := by omega
    have hwi : hi ≤ wr.heap.size := by omega
    obtain ⟨TA, Tc, hT⟩ := HT.out
    have HT := Lib.hid hT
    clear hT
    have hbT := HT.out.lt
    have HW := Lib.hid (hid k hkn)
    go_upto_region 5 with fail
    obtain ⟨wm, hwm⟩ : ∃ v, v = wr.alloc (.cells #[.int .i64 (M k).p.id, .bool (M k).p.s, .slice (M k).A (M k).p.n (M k).c] 28) := ⟨_, rfl⟩
    rw [← hwm]
    have hbm : Below wr.heap.size wr wm := by rw [hwm]; exact Ba _ _
    have hzm : wr.heap.size < wm.heap.size := by rw [hwm]; simp
    have g0 : wm.cell? ⟨wr.heap.size, 0, none⟩ = some (.int .i64 (M k).p.id) := by rw [hwm]; go_simp; try rfl
    have g2 : wm.cell? ⟨wr.heap.size, 2, none⟩ = some (.slice (M k).A (M k).p.n (M k).c) := by rw [hwm]; go_simp; try rfl
    clear hwm
    have HZm := Lib.hid (HZ.out.below (B := wr.heap.size) (by omega) hbm)
    have hne : ¬ wr.heap.size = w.heap.size := by omega
    have hwim : hi ≤ wm.heap.size := by omega
    have HBm := Lib.hid hbm
    clear hbm
    refine wp_region_mix (Exc (fun g => g = w.heap.size) wm) (by kernel_rfl) (by kernel_rfl) (Exc.drew (Exc.refl _ _)) ?_
    repeat (first
      | (refine mix_skip rfl ?_; have e0 : True := trivial; clear e0; refine mix_putK ?_; intro K hK; go_simp; refine hK _ ?_; clear hK K)
      | (refine mix_readE rfl rfl rfl ?_; apply Exists.intro; refine ⟨fun w' hb' => ?_, ?_⟩; (focus (obtain ⟨hc', hf'⟩ := exc_cells hb'; clear hb'; go_simp; try exact rfl)); have e0 : True := trivial; clear e0; refine mix_putK ?_; intro K hK; go_simp; refine hK _ ?_; clear hK K)
      | (refine mix_pureE rfl rfl ?_; apply Exists.intro; refine ⟨fun w' => ?_, ?_⟩; (focus (first | (fail) | (go_simp; try exact rfl))); have e0 : True := trivial; clear e0; refine mix_putK ?_; intro K hK; go_simp; refine hK _ ?_; clear hK K)
      | (refine mix_eff rfl rfl ?_; go_wp2_with ((first | (at_builtin; go_loud (refine wpList_rowAppendN _ rfl (.tmp 18) (.tmp 20) _ rfl 3 i1 _ 1 8 Try.underlying26 r1 r2 r3 r4 rfl (by decide) wm.heap.size _ (some ⟨wm.heap.size, 0, none⟩) 0 0 (intV fun _ => 0) rfl (empty_at _ 3 wm.heap.size 1 (intV fun _ => 0) (by simp)) _ _ (M k).A (M k).p.n (M k).c (intV (M k).p.z) rfl (RowAt.below hwim HZm.out (by repeat (first | (with_reducible exact Below.refl _ _) | (with_reducible refine Bal ?_ _) | (with_reducible refine Below.drew ?_) | (with_reducible refine below_drewN ?_ _) | (with_reducible refine Bset ?_ ?_ _; focus (first | (with_reducible exact Nat.le_refl _) | (simp; done) | (simp; omega) | omega)) | (with_reducible refine Bt ?_ (by assumption)) | (with_reducible refine Bp (g := g) ?_ (by assumption) (by assumption))))) (M k).p.n (Nat.zero_add _) ?_ (by unfold maxLen; omega) (by omega) (by simp) ?_); (focus (intro i hi; rfl)); intro A5 c5 w5 hO5 hG5 hL5; have hb5 : Below wm.heap.size wm w5 := (show Below wm.heap.size wm _ by repeat (first | (with_reducible exact Below.refl _ _) | (with_reducible refine Bal ?_ _) | (with_reducible refine Below.drew ?_) | (with_reducible refine below_drewN ?_ _) | (with_reducible refine Bset ?_ ?_ _; focus (first | (with_reducible exact Nat.le_refl _) | (simp; done) | (simp; omega) | omega)) | (with_reducible refine Bt ?_ (by assumption)) | (with_reducible refine Bp (g := g) ?_ (by assumption) (by assumption)))).grown hG5 (by simp) (fun g hg => by cases hg; exact Nat.le_refl _); have hE5 : Exc (fun g => g = w.heap.size) wm w5 := Exc.grown (Exc.alloc (Exc.drew (Exc.refl _ _)) _) (fun g hg => by cases hg; exact Or.inr (Nat.le_refl _)) hG5; have hz5 := hb5.size) | (refine wpList_mapPut _ rfl (.tmp 15) (.tmp 17) (.tmp 21) rfl (b := w.heap.size) (n := k) (f := fun v => slV ⟨TA v, (hL (plain M) k v).length, Tc v, atL (hL (plain M) k v)⟩) (by rfl) (HT.out.1.below (HBm.out.trans (hb5.mono (by omega))) hbT) (by unfold maxLen; omega) (M k).p.id (.slice A5 (M k).p.n c5) (by rfl) (by rfl) HW.out ?_; intro w9 hM9 hG9; have hE9 : Exc (fun g => g = w.heap.size) wm w9 := Exc.grown hE5 (fun g hg => Or.inl (by cases hg; rfl)) hG9))); refine then_mix rfl ?_ ?_; (focus (first | (intro h; have h2 : false = true := h; cases h2) | (intro _; assumption) | (intro _; repeat (first | assumption | (with_reducible exact Exc.refl _ _) | (with_reducible refine Exc.drew ?_) | (with_reducible refine Exc.alloc ?_ _) | (with_reducible refine Exc.setC ?_ ?_ _; focus (simp))))))))
    refine mix_nil ?_
    have hO9 : OwnI w9 wr.heap.size w9.heap.size A5 (lz (M k).p).length c5 (atL (lz (M k).p)) := by
      rw [lz_len]
      refine (OwnI.wide (lo := wm.heap.size) (hi := w5.heap.size) (OwnI.only (r := some w.heap.size) (fun g e => Or.inl (by cases e; omega)) (OwnI.congr (z := (M k).p.z) ?_ (fun j hj => (atL_lz hj).symm)) hG9) (by omega) hG9.size)
      refine RowOwn.congr hO5 fun j hj => ?_
      show (if j < 0 * 1 then intV (fun _ => 0) j else intV (M k).p.z (j - 0 * 1)) = intV (M k).p.z j
      rw [if_neg (by omega), Nat.zero_mul, Nat.sub_zero]
    obtain ⟨_, hT9, _⟩ := Hg.put (e := .returned (.tuple #[])) (L := lz (M k).p) (id := (M k).p.id) (w' := w9) HT.out ⟨A5, c5, rfl, by rw [lz_len]; exact hM9, hO9, (Exc.of_belowR HBm.out).trans hE9⟩
    have HT9 := Lib.hid (show Hg w9 w.heap.size (k + 1) (hL (plain M) (k + 1)) from hT9)
    have hB5 : Below w.heap.size w w5 := (HB.out.trans (HBm.out.mono hws)).trans (hb5.mono (by omega))
    have HB9 := Lib.hid (hB5.grown hG9 hB5.size (fun g hg => by cases hg; exact Nat.le_refl _))
    clear hO9 hT9 hB5 hM9 hG9 hE9 hO5 hG5 hL5 hb5 hE5
    go_wp2_with fail
    go_roundw
    case rel => exact ⟨k + 1, by omega, by go_num, HT9, HB9⟩
    case measure => simp [intOf]; omega
end Go.Proofs.Ytelcclhaepfmgaa
