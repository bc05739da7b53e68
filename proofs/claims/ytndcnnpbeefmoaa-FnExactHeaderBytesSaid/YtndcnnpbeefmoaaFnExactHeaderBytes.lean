/- The law FnExactHeaderBytes of the program is true at every input: the call returns true, and each argument reads behind the call as before. Conditions: none. -/
import Derived.Test.YtndcnnpbeefmoaaHeb
import Derived.Test.YtndcnnpbeefmoaaOpp
import Derived.WalkKit
import Derived.ProofKit
import Derived.OpenShut
import Derived.ShutString
import Derived.ChangeOld
import Derived.Below
namespace Go.Proofs.Ytndcnnpbeefmoaa
open Go.RowKit
set_option linter.unusedVariables false
set_option linter.unusedSimpArgs false

theorem hdb_any (a b c d : Int) (k z : Bool) : ∃ (n : Nat) (y : Nat → Int) (B : Bool), n ≤ 8 ∧ (∀ W : World, Calls Try.prog 16 #[.agg #[.int .i64 a, .int .i64 b, .int .i64 c, .int .i64 d, .bool k, .bool z]] W (GivesIB W n y B)) ∧
    ∀ W : World, Calls Try.prog 14 #[.agg #[.int .i64 a, .int .i64 b, .int .i64 c, .int .i64 d, .bool k, .bool z]] W (GivesIB W n y B) := by
  by_cases hp : PkOk ⟨a, b, c, d, k, z⟩
  · exact ⟨8, _, true, by decide, fun W => ihdb_yes W a b c d k z hp, fun W => shdb_yes W a b c d k z hp⟩
  · exact ⟨0, _, false, by decide, fun W => ihdb_no W a b c d k z hp, fun W => shdb_no W a b c d k z hp⟩
set_option maxHeartbeats 4000000 in
theorem walk_FnExactHeaderBytes (a b c d : Int) (k z : Bool) (w : World) :
    Calls Try.prog 5 #[.agg #[.int .i64 a, .int .i64 b, .int .i64 c, .int .i64 d, .bool k, .bool z]] w fun e w' => e = .returned (.bool true) ∧ Below w.heap.size w w' := by
  obtain ⟨n, y, B, hn8, hi, hs⟩ := hdb_any a b c d k z
  have HI := Lib.hid hi
  have HS := Lib.hid hs
  clear hi hs
  have hn : n ≤ 1048576 := by omega
  go_enter Try.func5, Try.ntmps5
  go_wp2_with fail
  refine (toPk_any _ _ _ _ _ _ _).mono ?_
  rintro e w1 ⟨rfl, hb1⟩
  obtain ⟨hc1, hf1⟩ := bcell hb1
  have hy1 := hb1.size
  try simp at hy1
  first | (have hz1 : w.heap.size < w1.heap.size := by (have := hb1.size; (try simp at this); omega)) | skip
  have ho1_0 : w.heap.size < w1.heap.size := by (have := hb1.size; (try simp at this); omega)
  have hg1_0 := fun o => hc1 (w.heap.size) o (by first | (simp; done) | (simp; omega) | omega)
  have hk1_0 := fun o => hf1 (w.heap.size) o (by first | (simp; done) | (simp; omega) | omega)
  try simp [go_sem] at hg1_0
  try simp [go_sem] at hk1_0
  go_wp2_with fail
  refine (HS.out _).mono ?_
  rintro e w2 ⟨A2, c2, hO2, rfl, hb2⟩
  obtain ⟨hc2, hf2⟩ := bcell hb2
  have hy2 := hb2.size
  try simp at hy2
  have ho2_0 : w.heap.size < w2.heap.size := by (have := hb2.size; (try simp at this); omega)
  have hg2_0 := fun o => hc2 (w.heap.size) o (by first | (simp; done) | (simp; omega) | omega)
  have hk2_0 := fun o => hf2 (w.heap.size) o (by first | (simp; done) | (simp; omega) | omega)
  try simp [go_sem] at hg2_0
  try simp [go_sem] at hk2_0
  go_wp2_with fail
  refine (toPk_any _ _ _ _ _ _ _).mono ?_
  rintro e w3 ⟨rfl, hb3⟩
  obtain ⟨hc3, hf3⟩ := bcell hb3
  have hy3 := hb3.size
  try simp at hy3
  first | (have hz3 : w.heap.size < w3.heap.size := by (have := hb3.size; (try simp at this); omega)) | skip
  have ho3_0 : w.heap.size < w3.heap.size := by (have := hb3.size; (try simp at this); omega)
  have hg3_0 := fun o => hc3 (w.heap.size) o (by first | (simp; done) | (simp; omega) | omega)
  have hk3_0 := fun o => hf3 (w.heap.size) o (by first | (simp; done) | (simp; omega) | omega)
  try simp [go_sem] at hg3_0
  try simp [go_sem] at hk3_0
  go_wp2_with fail
  refine (HI.out _).mono ?_
  rintro e w4 ⟨A4, c4, hO4, rfl, hb4⟩
  obtain ⟨hc4, hf4⟩ := bcell hb4
  have hy4 := hb4.size
  try simp at hy4
  have ho4_0 : w.heap.size < w4.heap.size := by (have := hb4.size; (try simp at this); omega)
  have hg4_0 := fun o => hc4 (w.heap.size) o (by first | (simp; done) | (simp; omega) | omega)
  have hk4_0 := fun o => hf4 (w.heap.size) o (by first | (simp; done) | (simp; omega) | omega)
  try simp [go_sem] at hg4_0
  try simp [go_sem] at hk4_0
  go_wp2_with fail
  refine (eqIntS_same _ (hO4.ints.below (Nat.le_refl _) (by repeat (first | (with_reducible exact Below.refl _ _) | (with_reducible refine Bal ?_ _) | (with_reducible refine Below.drew ?_) | (with_reducible refine below_drewN ?_ _) | (with_reducible refine Bset ?_ ?_ _; focus (first | (with_reducible exact Nat.le_refl _) | (simp; done) | (simp; omega) | omega)) | (with_reducible refine Bt ?_ (by assumption)) | (with_reducible refine Bp (g := g) ?_ (by assumption) (by assumption))))) (hO2.ints.below (Nat.le_refl _) (by repeat (first | (with_reducible exact Below.refl _ _) | (with_reducible refine Bal ?_ _) | (with_reducible refine Below.drew ?_) | (with_reducible refine below_drewN ?_ _) | (with_reducible refine Bset ?_ ?_ _; focus (first | (with_reducible exact Nat.le_refl _) | (simp; done) | (simp; omega) | omega)) | (with_reducible refine Bt ?_ (by assumption)) | (with_reducible refine Bp (g := g) ?_ (by assumption) (by assumption))))) (by first | exact Nat.le_refl _ | (simp; done) | (simp; omega) | omega) (by first | exact Nat.le_refl _ | (simp; done) | (simp; omega) | omega) hn).mono ?_
  rintro e w5 ⟨rfl, hb5⟩
  obtain ⟨hc5, hf5⟩ := bcell hb5
  have hy5 := hb5.size
  try simp at hy5
  first | (have hz5 : w.heap.size < w5.heap.size := by (have := hb5.size; (try simp at this); omega)) | skip
  have ho5_0 : w.heap.size < w5.heap.size := by (have := hb5.size; (try simp at this); omega)
  have hg5_0 := fun o => hc5 (w.heap.size) o (by first | (simp; done) | (simp; omega) | omega)
  have hk5_0 := fun o => hf5 (w.heap.size) o (by first | (simp; done) | (simp; omega) | omega)
  try simp [go_sem] at hg5_0
  try simp [go_sem] at hk5_0
  go_wp2_with fail
  refine (markIntS_any _ 1 (hO4.below (Nat.le_refl _) (by repeat (first | (with_reducible exact Below.refl _ _) | (with_reducible refine Bal ?_ _) | (with_reducible refine Below.drew ?_) | (with_reducible refine below_drewN ?_ _) | (with_reducible refine Bset ?_ ?_ _; focus (first | (with_reducible exact Nat.le_refl _) | (simp; done) | (simp; omega) | omega)) | (with_reducible refine Bt ?_ (by assumption)) | (with_reducible refine Bp (g := g) ?_ (by assumption) (by assumption))))) hn (by omega)).mono ?_
  rintro e w6 ⟨hO6, rfl, hG6, hs6⟩
  have hI2 : Ints w6 w.heap.size w2.heap.size A2 n y := ((hO2.wide (by (try simp at hy1); omega) (Nat.le_refl _)).ints.below (Nat.le_refl _) (show Below w2.heap.size w2 w5 by repeat (first | (with_reducible exact Below.refl _ _) | (with_reducible refine Bal ?_ _) | (with_reducible refine Below.drew ?_) | (with_reducible refine below_drewN ?_ _) | (with_reducible refine Bset ?_ ?_ _; focus (first | (with_reducible exact Nat.le_refl _) | (simp; done) | (simp; omega) | omega)) | (with_reducible refine Bt ?_ (by assumption)) | (with_reducible refine Bp (g := g) ?_ (by assumption) (by assumption))))).only (by omega) (fun g hg => .inr (by have := (hO4.1.lt g hg).1; (try simp at this); omega)) hG6
  have hb6 := fun o => World.cell?_of_block (a := ⟨w.heap.size, o, none⟩) (hG6.block w.heap.size (by omega) (fun e => by have := (hO4.1.lt _ e.symm).1; (try simp at this); omega))
  have hB6 : Below w.heap.size w w6 := Below.trans (show Below w.heap.size w w5 by repeat (first | (with_reducible exact Below.refl _ _) | (with_reducible refine Bal ?_ _) | (with_reducible refine Below.drew ?_) | (with_reducible refine below_drewN ?_ _) | (with_reducible refine Bset ?_ ?_ _; focus (first | (with_reducible exact Nat.le_refl _) | (simp; done) | (simp; omega) | omega)) | (with_reducible refine Bt ?_ (by assumption)) | (with_reducible refine Bp (g := g) ?_ (by assumption) (by assumption)))) (⟨hG6.os, hG6.tape, hG6.output, hG6.size, fun i hi => hG6.block i (by omega) (fun e => by have := (hO4.1.lt _ e.symm).1; (try simp at this); omega)⟩)
  have hHI := Lib.hid hI2
  have hHO := Lib.hid hO6
  have hsz6 : w.heap.size < w6.heap.size := by omega
  have hsz62 : w2.heap.size ≤ w6.heap.size := by omega
  have hsz64 : w4.heap.size ≤ w6.heap.size := by omega
  clear hs6 hG6 hI2 hO6
  go_wp2_with fail
  refine (heldIntS_any _ 1 hHO.out.ints hn (by omega)).mono ?_
  rintro e w' ⟨rfl, rfl⟩
  go_wp2_with fail
  refine (toPk_any _ _ _ _ _ _ _).mono ?_
  rintro e w7 ⟨rfl, hb7⟩
  obtain ⟨hc7, hf7⟩ := bcell hb7
  have hy7 := hb7.size
  try simp at hy7
  first | (have hz7 : w.heap.size < w7.heap.size := by (have := hb7.size; (try simp at this); omega)) | skip
  have ho7_0 : w.heap.size < w7.heap.size := by (have := hb7.size; (try simp at this); omega)
  have hg7_0 := fun o => hc7 (w.heap.size) o (by first | (simp; done) | (simp; omega) | omega)
  have hk7_0 := fun o => hf7 (w.heap.size) o (by first | (simp; done) | (simp; omega) | omega)
  try simp [go_sem] at hg7_0
  try simp [go_sem] at hk7_0
  go_wp2_with fail
  refine (HI.out _).mono ?_
  rintro e w8 ⟨A8, c8, hO8, rfl, hb8⟩
  obtain ⟨hc8, hf8⟩ := bcell hb8
  have hy8 := hb8.size
  try simp at hy8
  have ho8_0 : w.heap.size < w8.heap.size := by (have := hb8.size; (try simp at this); omega)
  have hg8_0 := fun o => hc8 (w.heap.size) o (by first | (simp; done) | (simp; omega) | omega)
  have hk8_0 := fun o => hf8 (w.heap.size) o (by first | (simp; done) | (simp; omega) | omega)
  try simp [go_sem] at hg8_0
  try simp [go_sem] at hk8_0
  go_wp2_with fail
  refine (eqIntS_same _ (hO8.ints.below (Nat.le_refl _) (by repeat (first | (with_reducible exact Below.refl _ _) | (with_reducible refine Bal ?_ _) | (with_reducible refine Below.drew ?_) | (with_reducible refine below_drewN ?_ _) | (with_reducible refine Bset ?_ ?_ _; focus (first | (with_reducible exact Nat.le_refl _) | (simp; done) | (simp; omega) | omega)) | (with_reducible refine Bt ?_ (by assumption)) | (with_reducible refine Bp (g := g) ?_ (by assumption) (by assumption))))) (hHI.out.below hsz62 (show Below w6.heap.size w6 w8 by repeat (first | (with_reducible exact Below.refl _ _) | (with_reducible refine Bal ?_ _) | (with_reducible refine Below.drew ?_) | (with_reducible refine below_drewN ?_ _) | (with_reducible refine Bset ?_ ?_ _; focus (first | (with_reducible exact Nat.le_refl _) | (simp; done) | (simp; omega) | omega)) | (with_reducible refine Bt ?_ (by assumption)) | (with_reducible refine Bp (g := g) ?_ (by assumption) (by assumption))))) (by first | exact Nat.le_refl _ | (simp; done) | (simp; omega) | omega) (by first | exact Nat.le_refl _ | (simp; done) | (simp; omega) | omega) hn).mono ?_
  rintro e w9 ⟨rfl, hb9⟩
  obtain ⟨hc9, hf9⟩ := bcell hb9
  have hy9 := hb9.size
  try simp at hy9
  first | (have hz9 : w.heap.size < w9.heap.size := by (have := hb9.size; (try simp at this); omega)) | skip
  have ho9_0 : w.heap.size < w9.heap.size := by (have := hb9.size; (try simp at this); omega)
  have hg9_0 := fun o => hc9 (w.heap.size) o (by first | (simp; done) | (simp; omega) | omega)
  have hk9_0 := fun o => hf9 (w.heap.size) o (by first | (simp; done) | (simp; omega) | omega)
  try simp [go_sem] at hg9_0
  try simp [go_sem] at hk9_0
  go_wp2_with fail
  refine (heldIntS_any _ 1 (hHO.out.ints.below hsz64 (show Below w6.heap.size w6 w9 by repeat (first | (with_reducible exact Below.refl _ _) | (with_reducible refine Bal ?_ _) | (with_reducible refine Below.drew ?_) | (with_reducible refine below_drewN ?_ _) | (with_reducible refine Bset ?_ ?_ _; focus (first | (with_reducible exact Nat.le_refl _) | (simp; done) | (simp; omega) | omega)) | (with_reducible refine Bt ?_ (by assumption)) | (with_reducible refine Bp (g := g) ?_ (by assumption) (by assumption))))) hn (by omega)).mono ?_
  rintro e w' ⟨rfl, rfl⟩
  go_wp2_with fail
  go_ret
  go_light
  refine ⟨rfl, Bt hB6 ?_⟩
  repeat (first | (with_reducible exact Below.refl _ _) | (with_reducible refine Bal ?_ _) | (with_reducible refine Below.drew ?_) | (with_reducible refine below_drewN ?_ _) | (with_reducible refine Bset ?_ ?_ _; focus (first | (with_reducible exact Nat.le_refl _) | (simp; done) | (simp; omega) | omega)) | (with_reducible refine Bt ?_ (by assumption)) | (with_reducible refine Bp (g := g) ?_ (by assumption) (by assumption)))

end Go.Proofs.Ytndcnnpbeefmoaa
namespace Go.Proofs.Ytndcnnpbeefmoaa.fnExactHeaderBytes
open Go.ChangeShapes Go.WideShapes Go.ChangeAt Go.RowKit
set_option linter.unusedVariables false

theorem own : ownKnob Try.prog.godebug = none := by kernel_rfl
theorem laidOut : laidOutB Try.prog = true := by kernel_rfl

set_option maxRecDepth 100000 in
theorem lifted (os : Os) (started : os.Started) (H : Type) (enc : TypeId × Value → H) :
    ReturnsInHanded {} Try.checked os 5 .any (Rows.fnExactHeaderBytesSpec.pre6 enc Try.prog Try.f5 Rows.fnExactHeaderBytesRow.domain false) (Rows.fnExactHeaderBytesSpec.post enc Try.prog Try.f5 false true false false) := by
  refine returnsInHanded_of_change (C := Try.checked) own started (by kernel_rfl) Try.func5
    (ChangeSpec.witness6 (enc := enc) (C := Try.checked) false ⟨#[], #[.agg #[.int .i64 0, .int .i64 0, .int .i64 0, .int .i64 0, .bool false, .bool false]], []⟩ 8 (by kernel_rfl) (by kernel_rfl) (by kernel_rfl) (by kernel_rfl)) ?_
  intro W base args ds gs before hval0 hW hcnd _
  have hval : ∀ (j : Nat) t v, Try.f5.params[j]? = some t → args[j]? = some v → Value.okWide Try.prog W .any base t v := hval0
  have hW' := hW
  obtain ⟨p, q, hA0, hV, rfl, hfz, hnd⟩ := hW
  have hA : DataW.TrodAll enc Try.prog W 0 (fun _ => true) true Try.f5.params.toList args.toList ds p := hA0
  rw [Try.params5] at hA hval
  obtain ⟨v0, vs0, d0, ds0, p0, q0, hargs, rfl, rfl, h0, r0⟩ := trodAll_cons hA
  obtain ⟨rfl, rfl, rfl⟩ := trodAll_nil r0
  obtain rfl : args = #[v0] := by cases args; simp_all
  obtain ⟨rfl, rfl⟩ := trodVars_none hV
  have k0 := h0
  have lt0 : ∀ x ∈ p0, x.block < W.heap.size := by obtain ⟨m, hm⟩ := k0; exact DataW.trod_lt m _ _ _ hm
  obtain ⟨pa0, pb0, pc0, pd0, pk0, pz0, rfl⟩ := open_packet (hval 0 35 v0 rfl rfl) h0
  clear hA0 hval0
  refine (walk_FnExactHeaderBytes pa0 pb0 pc0 pd0 pk0 pz0 W ).mono fun e W' ⟨he, bel⟩ => ?_
  subst he
  exact ⟨_, rfl, _, _, _, [], _, [], hW', trodAll_mk1 (shut_bool Try.underlying4 _), (trodAll_cons_mk (Below.trod laidOut (by kernel_rfl) (of_decide_eq_true (by kernel_rfl)) k0 bel lt0) trodAll_mk0), rfl, bel.frame _, fun h => by cases h⟩

theorem over : Rows.fnExactHeaderBytesRow.holds Try.pinned (OpenSpec.ofChange Rows.fnExactHeaderBytesSpec) :=
  OpenClaim.holds_of_wide 5 Try.f5 rfl rfl rfl rfl rfl rfl rfl ⟨rfl, rfl, rfl, rfl, rfl⟩ rfl rfl rfl rfl rfl (by kernel_rfl) Try.func5 (by kernel_rfl)
    (of_decide_eq_true (by kernel_rfl)) (by unfold Func.isWrapper; first | (rw [if_pos (by decide +kernel)]; kernel_rfl) | (rw [if_neg (by decide +kernel)]; exact ⟨rfl, rfl⟩))
    (fun os started H enc _ => lifted os started H enc)

/-- The statement. -/
theorem proved : Rows.FnExactHeaderBytesSaid := over
#print axioms proved
end Go.Proofs.Ytndcnnpbeefmoaa.fnExactHeaderBytes
