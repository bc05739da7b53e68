/- A packet as the bytes of its header: the program's and the reference's. -/
import Derived.Test.YtmidpodoapggnaaHdb
import Derived.Test.YtmidpodoapggnaaAny
namespace Go.Proofs.Ytmidpodoapggnaa
open Go Go.RowKit
set_option linter.unusedVariables false
set_option linter.unusedSimpArgs false
def GivesIB (w : World) (n : Nat) (z : Nat → Int) (b : Bool) (e : Ending) (w' : World) : Prop :=
  ∃ A c, OwnI w' w.heap.size w'.heap.size A n c z ∧ e = .returned (.tuple #[.slice A n c, .bool b]) ∧ Below w.heap.size w w'
set_option maxHeartbeats 4000000 in
theorem ihdb_no (w : World) (a b c d : Int) (k zz : Bool) (hp : ¬ PkOk ⟨a, b, c, d, k, zz⟩) :
    Calls Try.prog 40 #[.agg #[.int .i64 a, .int .i64 b, .int .i64 c, .int .i64 d, .bool k, .bool zz]] w (GivesIB w 0 (fun _ => 0) false) := by
  have hv := fun W : World => ipv_any a b c d k zz W
  rw [show pkB ⟨a, b, c, d, k, zz⟩ = false from decide_eq_false hp] at hv
  have HV := Lib.hid hv
  clear hv hp
  go_enter Try.func40, Try.ntmps40
  go_wp2_with fail
  refine (HV.out _).mono ?_
  rintro e w1 ⟨rfl, hb1⟩
  obtain ⟨hc1, hf1⟩ := bcell hb1
  have hy1 := hb1.size
  try simp at hy1
  first | (have hz1 : w.heap.size < w1.heap.size := by (have := hb1.size; (try simp at this); omega)) | skip
  have ho1_0 : w.heap.size < w1.heap.size := by (have := hb1.size; (try simp at this); omega)
  have hg1_0 := fun o => hc1 (w.heap.size) o (by first | (simp; done) | (simp; omega) | omega)
  have hk1_0 := fun o => hf1 (w.heap.size) o (by first | (simp; done) | (simp; omega) | omega)
  try simp [go_sem] at hg1_0
  try simp [go_sem] at hk1_0
  go_wp2_with fail
  go_ret2
  refine ⟨_, _, (empty_row _ _ 1 _).wide (by omega) (by simp), rfl, ?_⟩
  repeat (first | (with_reducible exact Below.refl _ _) | (with_reducible refine Bal ?_ _) | (with_reducible refine Below.drew ?_) | (with_reducible refine below_drewN ?_ _) | (with_reducible refine Bset ?_ ?_ _; focus (first | (with_reducible exact Nat.le_refl _) | (simp; done) | (simp; omega) | omega)) | (with_reducible refine Bt ?_ (by assumption)) | (with_reducible refine Bp (g := g) ?_ (by assumption) (by assumption)))
set_option maxHeartbeats 4000000 in
theorem ihdb_yes (w : World) (a b c d : Int) (k zz : Bool) (hp : PkOk ⟨a, b, c, d, k, zz⟩) :
    Calls Try.prog 40 #[.agg #[.int .i64 a, .int .i64 b, .int .i64 c, .int .i64 d, .bool k, .bool zz]] w (GivesIB w 8 (hdrZ (fun _ => 0) 0 a b c d k zz) true) := by
  obtain ⟨i0, q1, q2, q3, q4⟩ := info_parts info_int
  have hv := fun W : World => ipv_any a b c d k zz W
  rw [show pkB ⟨a, b, c, d, k, zz⟩ = true from decide_eq_true hp] at hv
  have HV := Lib.hid hv
  have HP := Lib.hid hp
  clear hv hp
  go_enter Try.func40, Try.ntmps40
  go_wp2_with fail
  refine (HV.out _).mono ?_
  rintro e w1 ⟨rfl, hb1⟩
  obtain ⟨hc1, hf1⟩ := bcell hb1
  have hy1 := hb1.size
  try simp at hy1
  first | (have hz1 : w.heap.size < w1.heap.size := by (have := hb1.size; (try simp at this); omega)) | skip
  have ho1_0 : w.heap.size < w1.heap.size := by (have := hb1.size; (try simp at this); omega)
  have hg1_0 := fun o => hc1 (w.heap.size) o (by first | (simp; done) | (simp; omega) | omega)
  have hk1_0 := fun o => hf1 (w.heap.size) o (by first | (simp; done) | (simp; omega) | omega)
  try simp [go_sem] at hg1_0
  try simp [go_sem] at hk1_0
  go_wp2_with fail
  refine wp_region_mixB (by kernel_rfl) (by kernel_rfl) ?_
  repeat (first
    | (refine mix_skip rfl ?_; have e0 : True := trivial; clear e0; refine mix_putK ?_; intro K hK; go_simp; refine hK _ ?_; clear hK K)
    | (refine mix_readE rfl rfl rfl ?_; apply Exists.intro; refine ⟨fun w' hb' => ?_, ?_⟩; (focus (obtain ⟨hc', hf'⟩ := Old.cells hb'; clear hb'; go_simp; try exact rfl)); have e0 : True := trivial; clear e0; refine mix_putK ?_; intro K hK; go_simp; refine hK _ ?_; clear hK K)
    | (refine mix_pureE rfl rfl ?_; apply Exists.intro; refine ⟨fun w' => ?_, ?_⟩; (focus (go_simp; try exact rfl)); have e0 : True := trivial; clear e0; refine mix_putK ?_; intro K hK; go_simp; refine hK _ ?_; clear hK K)
    | (refine mix_eff rfl rfl ?_; go_wp2_with ((first | (at_make; refine wpList_make_own _ rfl _ _ _ rfl w1.heap.size 3 i0 _ 1 Try.underlying34 q1 q2 q3 .i64 .i64 _ 8 rfl rfl rfl (by rw [q4]; decide) (by decide) (by first | exact Nat.le_refl _ | (simp; done)) ?_; intro wm hownm hgm; have hbm := (Below.refl _ _).grown hgm (Nat.le_refl _) (by simp); have hOm : OwnI wm w1.heap.size wm.heap.size _ 0 8 (fun _ => 0) := RowOwn.made hownm; have hym := hgm.size) | (go_at_call 66; refine (apphdr _ a b c d k zz hOm (by first | omega | (simp at hym; omega)) (by omega) HP.out).mono ?_; rintro e w2 ⟨A2, c2, hO2, rfl, hG2⟩))); refine then_mix rfl ?_ ?_; (first | (intro h; have h2 : false = true := h; cases h2) | (intro _; refine Old.mk ?_; repeat (first | (with_reducible exact Below.refl _ _) | (with_reducible refine Bal ?_ _) | (with_reducible refine Below.drew ?_) | (with_reducible refine below_drewN ?_ _) | (with_reducible refine Bset ?_ ?_ _; focus (first | (with_reducible exact Nat.le_refl _) | (simp; done) | (simp; omega) | omega)) | (with_reducible refine Bt ?_ (by assumption)) | (with_reducible refine Bp (g := g) ?_ (by assumption) (by assumption)))))))
  refine mix_nil ?_
  go_wp2_with fail
  have hB1 : Below w.heap.size w w1 := by repeat (first | (with_reducible exact Below.refl _ _) | (with_reducible refine Bal ?_ _) | (with_reducible refine Below.drew ?_) | (with_reducible refine below_drewN ?_ _) | (with_reducible refine Bset ?_ ?_ _; focus (first | (with_reducible exact Nat.le_refl _) | (simp; done) | (simp; omega) | omega)) | (with_reducible refine Bt ?_ (by assumption)) | (with_reducible refine Bp (g := g) ?_ (by assumption) (by assumption)))
  have hl1 := hB1.size
  go_ret2
  refine ⟨_, _, hO2.wide (by omega) (Nat.le_refl _), rfl, hB1.trans (Below.mono (B := w1.heap.size) (((Below.refl _ _).drew.trans hbm).trans (hG2.below hgm.size fun g hg => ?_)) hl1)⟩
  have hg' : w1.heap.size = g := by simpa [Value.ownBlock] using hg
  exact Nat.le_of_eq hg'
theorem hdr_lit (a b c d : Int) (k zz : Bool) (hp : PkOk ⟨a, b, c, d, k, zz⟩) : (#[Value.int .i64 (a % 65536 / 256), .int .i64 (a % 256), .int .i64 (b / 65536), .int .i64 (b / 256 % 256), .int .i64 (b % 256), .int .i64 (flg c k zz), .int .i64 (d / 256), .int .i64 (d % 256)] : Array Value).toList =
    (List.range (8 * 1)).map (intV (hdrZ (fun _ => 0) 0 a b c d k zz)) := by
  obtain ⟨⟨p1, p2⟩, ⟨p3, p4⟩, ⟨p5, p6⟩, p7, p8⟩ := hp
  simp only [] at p1 p2 p3 p4 p5 p6 p7 p8
  have e : List.range (8 * 1) = [0, 1, 2, 3, 4, 5, 6, 7] := rfl
  rw [e]
  simp [hdrZ, byt2, byt3, snocI, intV]
  omega
set_option maxHeartbeats 4000000 in
theorem sl33_any (w : World) (a b c d : Int) (k zz : Bool) (hp : PkOk ⟨a, b, c, d, k, zz⟩) :
    Calls Try.prog 68 #[.agg #[.int .i64 a, .int .i64 b, .int .i64 c, .int .i64 d, .bool k, .bool zz]] w fun e w' => ∃ A c', OwnI w' w.heap.size w'.heap.size A 8 c' (hdrZ (fun _ => 0) 0 a b c d k zz) ∧ e = .returned (.slice A 8 c') ∧ Below w.heap.size w w' := by
  have HL := Lib.hid (hdr_lit a b c d k zz hp)
  obtain ⟨⟨p1, p2⟩, ⟨p3, p4⟩, ⟨p5, p6⟩, p7, p8⟩ := hp
  simp only [] at p1 p2 p3 p4 p5 p6 p7 p8
  cases k <;> cases zz
  all_goals (
    go_enter Try.func68, Try.ntmps68
    go_wp2
    go_ret
    refine ⟨_, _, RowOwn.made ?_, rfl, ?_⟩
    · have h1 := HL.out
      simp only [flg, if_true, Bool.false_eq_true, if_false] at h1
      rw [← h1]
      have h2 := fun (o : Obj) (cs : Array Value) (hs : cs.size = 8 * 1) => World.ownsRow_lit (base := w.heap.size) (e := 3) (size := 1) (w.alloc o) cs 8 (by simp) (by decide) hs
      simp only [World.size_alloc] at h2
      exact h2 _ _ rfl
    · skip
      repeat (first | (with_reducible exact Below.refl _ _) | (with_reducible refine Bal ?_ _) | (with_reducible refine Below.drew ?_) | (with_reducible refine below_drewN ?_ _) | (with_reducible refine Bset ?_ ?_ _; focus (first | (with_reducible exact Nat.le_refl _) | (simp; done) | (simp; omega) | omega)) | (with_reducible refine Bt ?_ (by assumption)) | (with_reducible refine Bp (g := g) ?_ (by assumption) (by assumption)))
    done)
end Go.Proofs.Ytmidpodoapggnaa
