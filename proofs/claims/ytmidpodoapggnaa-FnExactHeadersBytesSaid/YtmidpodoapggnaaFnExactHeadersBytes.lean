/- The law FnExactHeadersBytes of the program is true at every input: the call returns true, and each argument reads behind the call as before. Conditions: none. -/
import Derived.Test.YtmidpodoapggnaaHds
import Derived.Test.YtmidpodoapggnaaOpq
import Derived.WalkKit
import Derived.ProofKit
import Derived.OpenShut
import Derived.ShutString
import Derived.ChangeOld
import Derived.Below
namespace Go.Proofs.Ytmidpodoapggnaa
open Go.RowKit
set_option linter.unusedVariables false
set_option linter.unusedSimpArgs false

theorem hds_any (n : Nat) (p : Nat → Pk) (hn : n ≤ 1048576) : ∃ (m : Nat) (y : Nat → Int) (B : Bool), m ≤ 160 ∧ (∀ (W : World) (lo hi : Nat) (A : Option Addr) (c : Nat), RowAt W lo hi A n 6 (PkF p) → hi ≤ W.heap.size → Calls Try.prog 38 #[.slice A n c] W (GivesIB W m y B)) ∧
    ∀ (W : World) (lo hi : Nat) (A : Option Addr) (c : Nat), RowAt W lo hi A n 6 (PkF p) → hi ≤ W.heap.size → Calls Try.prog 39 #[.slice A n c] W (GivesIB W m y B) := by
  by_cases hp : PksOk n p
  · exact ⟨8 * n, _, true, by have := hp.1; omega, fun W lo hi A c h hh => ihds_yes W h hh hn hp, fun W lo hi A c h hh => shds_yes W h hh hn hp⟩
  · exact ⟨0, _, false, by decide, fun W lo hi A c h hh => ihds_no W h hh hn hp, fun W lo hi A c h hh => shds_no W h hh hn hp⟩
set_option maxRecDepth 100000 in
set_option maxHeartbeats 8000000 in
theorem walk_FnExactHeadersBytes (A : Option Addr) (n c : Nat) (p : Nat → Pk) (w : World) (h : RowAt w 0 w.heap.size A n 6 (PkF p)) (hm : n ≤ maxLen) :
    Calls Try.prog 13 #[.slice A n c] w fun e w' => e = .returned (.bool true) ∧ Below w.heap.size w w' := by
  unfold maxLen at hm
  have H := Lib.hid h
  clear h
  by_cases hn0 : 1048576 < n
  · go_enter Try.func13, Try.ntmps13
    go_wp2_with fail
    refine (szPkS_out _ A n c hn0 hm).mono ?_
    rintro e w' ⟨rfl, rfl⟩
    go_wp2_with fail
    go_ret
    exact ⟨rfl, Below.refl _ _⟩
  · have hn : n ≤ 1048576 := by omega
    clear hn0 hm
    obtain ⟨m, y, B, hm8, hi, hs⟩ := hds_any n p hn
    have HI := Lib.hid hi
    have HS := Lib.hid hs
    clear hi hs
    have hmn : m ≤ 1048576 := by omega
    go_enter Try.func13, Try.ntmps13
    go_wp2_with fail
    refine (szPkS_in _ A n c hn).mono ?_
    rintro e w' ⟨rfl, rfl⟩
    go_wp2_with fail
    refine (toPkS_any _ 0 w.heap.size A n c p (H.out.below (Nat.le_refl _) (by repeat (first | (with_reducible exact Below.refl _ _) | (with_reducible refine Bal ?_ _) | (with_reducible refine Below.drew ?_) | (with_reducible refine below_drewN ?_ _) | (with_reducible refine Bset ?_ ?_ _; focus (first | (with_reducible exact Nat.le_refl _) | (simp; done) | (simp; omega) | omega)) | (with_reducible refine Bt ?_ (by assumption)) | (with_reducible refine Bp (g := g) ?_ (by assumption) (by assumption))))) (by first | exact Nat.le_refl _ | (simp; done) | (simp; omega) | omega) hn).mono ?_
    rintro e w1 ⟨A1, c1, hO1, rfl, hb1⟩
    obtain ⟨hc1, hf1⟩ := bcell hb1
    have hy1 := hb1.size
    try simp at hy1
    go_wp2_with fail
    refine (HS.out _ _ _ _ _ (RowOwn.row hO1) (by first | exact Nat.le_refl _ | (simp; done) | (simp; omega) | omega)).mono ?_
    rintro e w2 ⟨A2, c2, hO2, rfl, hb2⟩
    obtain ⟨hc2, hf2⟩ := bcell hb2
    have hy2 := hb2.size
    try simp at hy2
    go_wp2_with fail
    refine (toPkS_any _ 0 w.heap.size A n c p (H.out.below (Nat.le_refl _) (by repeat (first | (with_reducible exact Below.refl _ _) | (with_reducible refine Bal ?_ _) | (with_reducible refine Below.drew ?_) | (with_reducible refine below_drewN ?_ _) | (with_reducible refine Bset ?_ ?_ _; focus (first | (with_reducible exact Nat.le_refl _) | (simp; done) | (simp; omega) | omega)) | (with_reducible refine Bt ?_ (by assumption)) | (with_reducible refine Bp (g := g) ?_ (by assumption) (by assumption))))) (by first | exact Nat.le_refl _ | (simp; done) | (simp; omega) | omega) hn).mono ?_
    rintro e w3 ⟨A3, c3, hO3, rfl, hb3⟩
    obtain ⟨hc3, hf3⟩ := bcell hb3
    have hy3 := hb3.size
    try simp at hy3
    go_wp2_with fail
    refine (HI.out _ _ _ _ _ (RowOwn.row hO3) (by first | exact Nat.le_refl _ | (simp; done) | (simp; omega) | omega)).mono ?_
    rintro e w4 ⟨A4, c4, hO4, rfl, hb4⟩
    obtain ⟨hc4, hf4⟩ := bcell hb4
    have hy4 := hb4.size
    try simp at hy4
    go_wp2_with fail
    refine (eqIntS_same _ (hO4.ints.below (Nat.le_refl _) (by repeat (first | (with_reducible exact Below.refl _ _) | (with_reducible refine Bal ?_ _) | (with_reducible refine Below.drew ?_) | (with_reducible refine below_drewN ?_ _) | (with_reducible refine Bset ?_ ?_ _; focus (first | (with_reducible exact Nat.le_refl _) | (simp; done) | (simp; omega) | omega)) | (with_reducible refine Bt ?_ (by assumption)) | (with_reducible refine Bp (g := g) ?_ (by assumption) (by assumption))))) (hO2.ints.below (Nat.le_refl _) (by repeat (first | (with_reducible exact Below.refl _ _) | (with_reducible refine Bal ?_ _) | (with_reducible refine Below.drew ?_) | (with_reducible refine below_drewN ?_ _) | (with_reducible refine Bset ?_ ?_ _; focus (first | (with_reducible exact Nat.le_refl _) | (simp; done) | (simp; omega) | omega)) | (with_reducible refine Bt ?_ (by assumption)) | (with_reducible refine Bp (g := g) ?_ (by assumption) (by assumption))))) (by first | exact Nat.le_refl _ | (simp; done) | (simp; omega) | omega) (by first | exact Nat.le_refl _ | (simp; done) | (simp; omega) | omega) hmn).mono ?_
    rintro e w5 ⟨rfl, hb5⟩
    obtain ⟨hc5, hf5⟩ := bcell hb5
    have hy5 := hb5.size
    try simp at hy5
    first | (have hz5 : w.heap.size < w5.heap.size := by (have := hb5.size; (try simp at this); omega)) | skip
    go_wp2_with fail
    refine (toPkS_any _ 0 w.heap.size A n c p (H.out.below (Nat.le_refl _) (by repeat (first | (with_reducible exact Below.refl _ _) | (with_reducible refine Bal ?_ _) | (with_reducible refine Below.drew ?_) | (with_reducible refine below_drewN ?_ _) | (with_reducible refine Bset ?_ ?_ _; focus (first | (with_reducible exact Nat.le_refl _) | (simp; done) | (simp; omega) | omega)) | (with_reducible refine Bt ?_ (by assumption)) | (with_reducible refine Bp (g := g) ?_ (by assumption) (by assumption))))) (by first | exact Nat.le_refl _ | (simp; done) | (simp; omega) | omega) hn).mono ?_
    rintro e w6 ⟨A6, c6, hO6, rfl, hb6⟩
    obtain ⟨hc6, hf6⟩ := bcell hb6
    have hy6 := hb6.size
    try simp at hy6
    go_wp2_with fail
    refine (eqPkS_same _ (hO3.row.below (Nat.le_refl _) (by repeat (first | (with_reducible exact Below.refl _ _) | (with_reducible refine Bal ?_ _) | (with_reducible refine Below.drew ?_) | (with_reducible refine below_drewN ?_ _) | (with_reducible refine Bset ?_ ?_ _; focus (first | (with_reducible exact Nat.le_refl _) | (simp; done) | (simp; omega) | omega)) | (with_reducible refine Bt ?_ (by assumption)) | (with_reducible refine Bp (g := g) ?_ (by assumption) (by assumption))))) (hO6.row.below (Nat.le_refl _) (by repeat (first | (with_reducible exact Below.refl _ _) | (with_reducible refine Bal ?_ _) | (with_reducible refine Below.drew ?_) | (with_reducible refine below_drewN ?_ _) | (with_reducible refine Bset ?_ ?_ _; focus (first | (with_reducible exact Nat.le_refl _) | (simp; done) | (simp; omega) | omega)) | (with_reducible refine Bt ?_ (by assumption)) | (with_reducible refine Bp (g := g) ?_ (by assumption) (by assumption))))) (by first | exact Nat.le_refl _ | (simp; done) | (simp; omega) | omega) (by first | exact Nat.le_refl _ | (simp; done) | (simp; omega) | omega) hn).mono ?_
    rintro e w7 ⟨rfl, hb7⟩
    obtain ⟨hc7, hf7⟩ := bcell hb7
    have hy7 := hb7.size
    try simp at hy7
    first | (have hz7 : w.heap.size < w7.heap.size := by (have := hb7.size; (try simp at this); omega)) | skip
    go_wp2_with fail
    refine (markPkS_any _ 1 (RowOwn.below (Nat.le_refl _) hO3 (show Below w3.heap.size w3 w7 by repeat (first | (with_reducible exact Below.refl _ _) | (with_reducible refine Bal ?_ _) | (with_reducible refine Below.drew ?_) | (with_reducible refine below_drewN ?_ _) | (with_reducible refine Bset ?_ ?_ _; focus (first | (with_reducible exact Nat.le_refl _) | (simp; done) | (simp; omega) | omega)) | (with_reducible refine Bt ?_ (by assumption)) | (with_reducible refine Bp (g := g) ?_ (by assumption) (by assumption))))) hn (by omega)).mono ?_
    rintro e w8 ⟨rfl, hG8, hs8⟩
    have hO4' := Lib.hid (OwnI.only (r := (Value.slice A3 n c3).ownBlock) (fun g hg => .inl (hO3.1.lt g hg).2) (hO4.below (Nat.le_refl _) (show Below w4.heap.size w4 w7 by repeat (first | (with_reducible exact Below.refl _ _) | (with_reducible refine Bal ?_ _) | (with_reducible refine Below.drew ?_) | (with_reducible refine below_drewN ?_ _) | (with_reducible refine Bset ?_ ?_ _; focus (first | (with_reducible exact Nat.le_refl _) | (simp; done) | (simp; omega) | omega)) | (with_reducible refine Bt ?_ (by assumption)) | (with_reducible refine Bp (g := g) ?_ (by assumption) (by assumption))))) hG8)
    have hI2' := Lib.hid (Ints.only (r := (Value.slice A3 n c3).ownBlock) (by omega) (fun g hg => .inr (hO3.1.lt g hg).1) (hO2.ints.below (Nat.le_refl _) (show Below w2.heap.size w2 w7 by repeat (first | (with_reducible exact Below.refl _ _) | (with_reducible refine Bal ?_ _) | (with_reducible refine Below.drew ?_) | (with_reducible refine below_drewN ?_ _) | (with_reducible refine Bset ?_ ?_ _; focus (first | (with_reducible exact Nat.le_refl _) | (simp; done) | (simp; omega) | omega)) | (with_reducible refine Bt ?_ (by assumption)) | (with_reducible refine Bp (g := g) ?_ (by assumption) (by assumption))))) hG8)
    have hb8 : Below w2.heap.size w7 w8 := ⟨hG8.os, hG8.tape, hG8.output, hG8.size, fun i hi => hG8.block i (by omega) (fun e => by have := (hO3.1.lt _ e.symm).1; omega)⟩
    have hB7 : Below w.heap.size w w7 := by repeat (first | (with_reducible exact Below.refl _ _) | (with_reducible refine Bal ?_ _) | (with_reducible refine Below.drew ?_) | (with_reducible refine below_drewN ?_ _) | (with_reducible refine Bset ?_ ?_ _; focus (first | (with_reducible exact Nat.le_refl _) | (simp; done) | (simp; omega) | omega)) | (with_reducible refine Bt ?_ (by assumption)) | (with_reducible refine Bp (g := g) ?_ (by assumption) (by assumption)))
    have hB8 : Below w.heap.size w w8 := hB7.trans (hb8.mono (by omega))
    have hsz2 : w2.heap.size ≤ w8.heap.size := by omega
    have hsz4 : w4.heap.size ≤ w8.heap.size := by omega
    have hlo4 : w3.heap.size ≤ w4.heap.size := by omega
    have hsw : w.heap.size ≤ w8.heap.size := by omega
    clear hG8 hs8 hb8 hB7
    go_wp2_with fail
    refine (eqIntS_same _ hO4'.out.ints hI2'.out (by omega) (by omega) hmn).mono ?_
    rintro e w9 ⟨rfl, hb9⟩
    have hz9 := hb9.size
    have hO9 := Lib.hid (hO4'.out.below hsz4 hb9)
    have hI9 := Lib.hid (hI2'.out.below hsz2 hb9)
    have hB9 := Bt hB8 hb9
    clear hB8 hb9
    go_wp2_with fail
    refine (markIntS_any _ 1 hO9.out hmn (by omega)).mono ?_
    rintro e w10 ⟨hO10, rfl, hG10, hs10⟩
    have HO10 := Lib.hid hO10
    have hI10 := Lib.hid (Ints.only (r := (Value.slice A4 m c4).ownBlock) (by omega) (fun g hg => .inr (by have := (hO9.out.1.lt g hg).1; omega)) hI9.out hG10)
    have hB10 : Below w.heap.size w w10 := hB9.trans ⟨hG10.os, hG10.tape, hG10.output, hG10.size, fun i hi => hG10.block i (by omega) (fun e => by have := (hO9.out.1.lt _ e.symm).1; omega)⟩
    have hz10 : w9.heap.size ≤ w10.heap.size := by omega
    clear hO10 hG10 hs10 hB9
    go_wp2_with fail
    refine (heldIntS_any _ 1 HO10.out.ints hmn (by omega)).mono ?_
    rintro e w' ⟨rfl, rfl⟩
    go_wp2_with fail
    refine (toPkS_any _ 0 w.heap.size A n c p (H.out.below (Nat.le_refl _) hB10) (by omega) hn).mono ?_
    rintro e w11 ⟨A11, c11, hO11, rfl, hb11⟩
    have hz11 := hb11.size
    go_wp2_with fail
    refine (HI.out _ _ _ _ _ (RowOwn.row hO11) (by omega)).mono ?_
    rintro e w12 ⟨A12, c12, hO12, rfl, hb12⟩
    have hz12 := hb12.size
    go_wp2_with fail
    refine (eqIntS_same _ (hO12.ints) ((hI10.out.below (by omega) hb11).below (by omega) hb12) (by omega) (by omega) hmn).mono ?_
    rintro e w13 ⟨rfl, hb13⟩
    have hz13 := hb13.size
    have hO13 := Lib.hid (((HO10.out.below (by omega) hb11).below (by omega) hb12).below (by omega) hb13)
    have hB13 := Bt (Bt (Bt hB10 hb11) hb12) hb13
    clear hb11 hb12 hb13 hB10
    go_wp2_with fail
    refine (heldIntS_any _ 1 hO13.out.ints hmn (by omega)).mono ?_
    rintro e w' ⟨rfl, rfl⟩
    go_wp2_with fail
    go_ret
    exact ⟨rfl, hB13⟩

end Go.Proofs.Ytmidpodoapggnaa
namespace Go.Proofs.Ytmidpodoapggnaa.fnExactHeadersBytes
open Go.ChangeShapes Go.WideShapes Go.ChangeAt Go.RowKit
set_option linter.unusedVariables false

theorem own : ownKnob Try.prog.godebug = none := by kernel_rfl
theorem laidOut : laidOutB Try.prog = true := by kernel_rfl

set_option maxRecDepth 100000 in
theorem lifted (os : Os) (started : os.Started) (H : Type) (enc : TypeId × Value → H) :
    ReturnsInHanded {} Try.checked os 13 .any (Rows.fnExactHeadersBytesSpec.pre6 enc Try.prog Try.f13 Rows.fnExactHeadersBytesRow.domain false) (Rows.fnExactHeadersBytesSpec.post enc Try.prog Try.f13 false true false false) := by
  refine returnsInHanded_of_change (C := Try.checked) own started (by kernel_rfl) Try.func13
    (ChangeSpec.witness6 (enc := enc) (C := Try.checked) false ⟨#[], #[.slice none 0 0], []⟩ 8 (by kernel_rfl) (by kernel_rfl) (by kernel_rfl) (by kernel_rfl)) ?_
  intro W base args ds gs before hval0 hW hcnd _
  have hval : ∀ (j : Nat) t v, Try.f13.params[j]? = some t → args[j]? = some v → Value.okWide Try.prog W .any base t v := hval0
  have hW' := hW
  obtain ⟨p, q, hA0, hV, rfl, hfz, hnd⟩ := hW
  have hA : DataW.TrodAll enc Try.prog W 0 (fun _ => true) true Try.f13.params.toList args.toList ds p := hA0
  rw [Try.params13] at hA hval
  obtain ⟨v0, vs0, d0, ds0, p0, q0, hargs, rfl, rfl, h0, r0⟩ := trodAll_cons hA
  obtain ⟨rfl, rfl, rfl⟩ := trodAll_nil r0
  obtain rfl : args = #[v0] := by cases args; simp_all
  obtain ⟨rfl, rfl⟩ := trodVars_none hV
  have k0 := h0
  have lt0 : ∀ x ∈ p0, x.block < W.heap.size := by obtain ⟨m, hm⟩ := k0; exact DataW.trod_lt m _ _ _ hm
  obtain ⟨a0, n0, c0, z0, rfl, w0, l0⟩ := open_packets (hval 0 62 v0 rfl rfl) h0
  clear hA0 hval0
  refine (walk_FnExactHeadersBytes a0 n0 c0 z0 W w0 l0).mono fun e W' ⟨he, bel⟩ => ?_
  subst he
  exact ⟨_, rfl, _, _, _, [], _, [], hW', trodAll_mk1 (shut_bool Try.underlying4 _), (trodAll_cons_mk (Below.trod laidOut (by kernel_rfl) (of_decide_eq_true (by kernel_rfl)) k0 bel lt0) trodAll_mk0), rfl, bel.frame _, fun h => by cases h⟩

theorem over : Rows.fnExactHeadersBytesRow.holds Try.pinned (OpenSpec.ofChange Rows.fnExactHeadersBytesSpec) :=
  OpenClaim.holds_of_wide 13 Try.f13 rfl rfl rfl rfl rfl rfl rfl ⟨rfl, rfl, rfl, rfl, rfl⟩ rfl rfl rfl rfl rfl (by kernel_rfl) Try.func13 (by kernel_rfl)
    (of_decide_eq_true (by kernel_rfl)) (by unfold Func.isWrapper; first | (rw [if_pos (by decide +kernel)]; kernel_rfl) | (rw [if_neg (by decide +kernel)]; exact ⟨rfl, rfl⟩))
    (fun os started H enc _ => lifted os started H enc)

/-- The statement. -/
theorem proved : Rows.FnExactHeadersBytesSaid := over
#print axioms proved
end Go.Proofs.Ytmidpodoapggnaa.fnExactHeadersBytes
