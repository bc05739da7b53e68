/- A buffer: what is put (printed by gen_bup.py). -/
import Derived.Test.YtegdogamenoaiaaBuh
namespace Go.Proofs.Ytegdogamenoaiaa
open Go Go.RowKit
set_option linter.unusedVariables false
set_option linter.unusedSimpArgs false
theorem below_cells {B : Nat} {W w1 : World} (hb : Below B W w1) : (∀ b o, b < B → w1.cell? ⟨b, o, none⟩ = W.cell? ⟨b, o, none⟩) ∧ (∀ b o, b < B → w1.frozen? ⟨b, o, none⟩ = W.frozen? ⟨b, o, none⟩) :=
  ⟨fun b o h => hb.cell (p := ⟨b, o, none⟩) h, fun b o h => hb.frozen (p := ⟨b, o, none⟩) h⟩
theorem RowOwn.none0 (e : TypeId) (w : World) (lo hi sz : Nat) (f : Nat → Value) : RowOwn e w lo hi none 0 0 sz f := ⟨⟨by simp, .inl ⟨rfl, rfl⟩⟩, fun g hg => by cases hg⟩
/-- The place for number v. -/
def ptAt (q : Nat → Hd) (v : Int) : Nat → Nat
  | 0 => 0
  | n + 1 => if (q n).p.w < v then n + 1 else ptAt q v n
theorem ptAt_le (q : Nat → Hd) (v : Int) : ∀ n, ptAt q v n ≤ n
  | 0 => Nat.le_refl _
  | n + 1 => by unfold ptAt; split; exact Nat.le_refl _; exact Nat.le_succ_of_le (ptAt_le q v n)
theorem ptAt_eq {q : Nat → Hd} {v : Int} {a : Nat} : ∀ n, a ≤ n → (∀ i, i < a → (q i).p.w < v) → (∀ i, a ≤ i → i < n → v ≤ (q i).p.w) → ptAt q v n = a
  | 0, h, _, _ => by unfold ptAt; omega
  | n + 1, h, h1, h2 => by
    unfold ptAt
    by_cases e : a = n + 1
    · subst e; rw [if_pos (h1 n (by omega))]
    · rw [if_neg (by have := h2 n (by omega) (by omega); omega)]
      exact ptAt_eq n (by omega) h1 fun i hi hn => h2 i hi (by omega)
theorem ptAt_spec {q : Nat → Hd} {v : Int} : ∀ n, EAsc n q → (∀ i, i < ptAt q v n → (q i).p.w < v) ∧ ∀ i, ptAt q v n ≤ i → i < n → v ≤ (q i).p.w
  | 0, _ => ⟨fun i h => absurd h (by unfold ptAt; omega), fun i _ h => absurd h (by omega)⟩
  | n + 1, h => by
    unfold ptAt
    by_cases e : (q n).p.w < v
    · rw [if_pos e]
      refine ⟨fun i hi => ?_, fun i h1 h2 => absurd h2 (by omega)⟩
      by_cases e2 : i = n
      · subst e2; exact e
      · exact Int.lt_trans (h i n (by omega) (by omega)) e
    · rw [if_neg e]
      obtain ⟨h1, h2⟩ := ptAt_spec n (fun a b hab hb => h a b hab (by omega))
      refine ⟨h1, fun i h3 h4 => ?_⟩
      by_cases e2 : i = n
      · subst e2; omega
      · exact h2 i h3 (by omega)
theorem EAsc.ins {q : Nat → Hd} {n a : Nat} {x : Hd} (h : EAsc n q) (ha : a ≤ n) (h1 : ∀ i, i < a → (q i).p.w < x.p.w) (h2 : ∀ i, a ≤ i → i < n → x.p.w < (q i).p.w) : EAsc (n + 1) (insH q a x) := by
  intro i j hij hj
  unfold insH
  by_cases e1 : i < a
  · rw [if_pos e1]
    by_cases e2 : j < a
    · rw [if_pos e2]; exact h i j hij (by omega)
    · rw [if_neg e2]
      by_cases e3 : j = a
      · rw [if_pos e3]; exact h1 i e1
      · rw [if_neg e3]; exact h i (j - 1) (by omega) (by omega)
  · rw [if_neg e1]
    rw [if_neg (show ¬ j < a by omega), if_neg (show ¬ j = a by omega)]
    by_cases e3 : i = a
    · rw [if_pos e3]; exact h2 (j - 1) (by omega) (by omega)
    · rw [if_neg e3]; exact h (i - 1) (j - 1) (by omega) (by omega)
def ptOk (y d : Int) (n : Nat) (q : Nat → Hd) (x : Pk) (now : Int) : Prop := BfOk y d n q ∧ PkOk x ∧ 0 ≤ now ∧ now ≤ 99999
instance (y d : Int) (n : Nat) (q : Nat → Hd) (x : Pk) (now : Int) : Decidable (ptOk y d n q x now) := inferInstanceAs (Decidable (_ ∧ _ ∧ _ ∧ _))
def ptCode (y d : Int) (n : Nat) (q : Nat → Hd) (x : Pk) (now : Int) : Int :=
  if ptOk y d n q x now then (if x.w < y then 1 else if holdsB n q x.w = true then 2 else if 10 ≤ n then 3 else 0) else 4
def ptY (k y : Int) : Int := if k = 4 then 0 else y
def ptN (k : Int) (n : Nat) : Nat := if k = 4 then 0 else if k = 0 then n + 1 else n
def ptQ (k : Int) (n : Nat) (q : Nat → Hd) (x : Pk) (now : Int) : Nat → Hd := if k = 0 then insH q (ptAt q x.w n) ⟨x, now⟩ else q
def PutRet (y d : Int) (n : Nat) (q : Nat → Hd) (x : Pk) (now : Int) (w : World) (e : Ending) (w' : World) : Prop :=
  ∃ A c, e = .returned (.tuple #[.agg #[.int .i64 (ptY (ptCode y d n q x now) y), .int .i64 (ptY (ptCode y d n q x now) d), .slice A (ptN (ptCode y d n q x now) n) c], .int .i64 (ptCode y d n q x now)]) ∧
    RowOwn 54 w' w.heap.size w'.heap.size A (ptN (ptCode y d n q x now) n) c 7 (HdF (ptQ (ptCode y d n q x now) n q x now)) ∧ Below w.heap.size w w'
theorem pt_bad {y d : Int} {n : Nat} {q : Nat → Hd} {x : Pk} {now : Int} (h : ¬ ptOk y d n q x now) : ptCode y d n q x now = 4 := by unfold ptCode; rw [if_neg h]
theorem pt_late {y d : Int} {n : Nat} {q : Nat → Hd} {x : Pk} {now : Int} (h : ptOk y d n q x now) (h1 : x.w < y) : ptCode y d n q x now = 1 := by unfold ptCode; rw [if_pos h, if_pos h1]
theorem pt_twice {y d : Int} {n : Nat} {q : Nat → Hd} {x : Pk} {now : Int} (h : ptOk y d n q x now) (h1 : ¬ x.w < y) (h2 : holdsB n q x.w = true) : ptCode y d n q x now = 2 := by unfold ptCode; rw [if_pos h, if_neg h1, if_pos h2]
theorem pt_full {y d : Int} {n : Nat} {q : Nat → Hd} {x : Pk} {now : Int} (h : ptOk y d n q x now) (h1 : ¬ x.w < y) (h2 : ¬ holdsB n q x.w = true) (h3 : 10 ≤ n) : ptCode y d n q x now = 3 := by unfold ptCode; rw [if_pos h, if_neg h1, if_neg h2, if_pos h3]
theorem pt_fine {y d : Int} {n : Nat} {q : Nat → Hd} {x : Pk} {now : Int} (h : ptOk y d n q x now) (h1 : ¬ x.w < y) (h2 : ¬ holdsB n q x.w = true) (h3 : ¬ 10 ≤ n) : ptCode y d n q x now = 0 := by unfold ptCode; rw [if_pos h, if_neg h1, if_neg h2, if_neg h3]
theorem PutRet.bad {y d : Int} {n : Nat} {q : Nat → Hd} {x : Pk} {now : Int} {w w' : World} (h : ptCode y d n q x now = 4) (hb : Below w.heap.size w w') :
    PutRet y d n q x now w (.returned (.tuple #[.agg #[.int .i64 0, .int .i64 0, .slice none 0 0], .int .i64 4])) w' := by
  refine ⟨none, 0, ?_, ?_, hb⟩
  · rw [h]; rfl
  · rw [h]; exact RowOwn.none0 _ _ _ _ _ _
theorem PutRet.same {y d : Int} {n : Nat} {q : Nat → Hd} {x : Pk} {now k : Int} {w w' : World} {A : Option Addr} {c : Nat} (h : ptCode y d n q x now = k) (hk : 1 ≤ k ∧ k ≤ 3) (hr : RowOwn 54 w' w.heap.size w'.heap.size A n c 7 (HdF q)) (hb : Below w.heap.size w w') :
    PutRet y d n q x now w (.returned (.tuple #[.agg #[.int .i64 y, .int .i64 d, .slice A n c], .int .i64 k])) w' := by
  refine ⟨A, c, ?_, ?_, hb⟩
  · rw [h]; unfold ptY ptN; rw [if_neg (by omega), if_neg (by omega), if_neg (by omega), if_neg (by omega)]
  · rw [h]; unfold ptN ptQ; rw [if_neg (by omega), if_neg (by omega), if_neg (by omega)]; exact hr
theorem PutRet.fine {y d : Int} {n : Nat} {q : Nat → Hd} {x : Pk} {now : Int} {w w' : World} {A : Option Addr} {c : Nat} (h : ptCode y d n q x now = 0) (hr : RowOwn 54 w' w.heap.size w'.heap.size A (n + 1) c 7 (HdF (insH q (ptAt q x.w n) ⟨x, now⟩))) (hb : Below w.heap.size w w') :
    PutRet y d n q x now w (.returned (.tuple #[.agg #[.int .i64 y, .int .i64 d, .slice A (n + 1) c], .int .i64 0])) w' := by
  refine ⟨A, c, ?_, ?_, hb⟩
  · rw [h]; rfl
  · rw [h]; exact hr
set_option maxRecDepth 100000 in
set_option maxHeartbeats 16000000 in
theorem ibp_any (w : World) (lo hi : Nat) (A : Option Addr) (n c : Nat) (y d now : Int) (q : Nat → Hd) (x : Pk) (h : RowAt w lo hi A n 7 (HdF q)) (hi' : hi ≤ w.heap.size) (hn : n ≤ 1048576) :
    Calls Try.prog 26 #[.agg #[.int .i64 y, .int .i64 d, .slice A n c], PkV x, .int .i64 now] w (PutRet y d n q x now w) := by
  have hv := fun W (hb : Below w.heap.size w W) => ibv_any W lo hi A n c y d q (h.below hi' hb) (Nat.le_trans hi' hb.size) hn
  have hp := fun W : World => ipv_any x.w x.t x.l x.s x.k x.z W
  have ht := fun W : World => timeV_any now W
  have hh := fun W (hb : Below w.heap.size w W) => holds_any W lo hi A n c y d x.w q (h.below hi' hb) (Nat.le_trans hi' hb.size) hn
  have H := Lib.hid h
  clear h
  by_cases hO : BfOk y d n q
  rotate_left
  · rw [show bfB y d n q = false from decide_eq_false hO] at hv
    have HV := Lib.hid hv
    have HK := Lib.hid (pt_bad (x := x) (now := now) (fun h => hO h.1))
    clear hv hp ht hh hO
    go_enter Try.func26, Try.ntmps26
    unfold PkV
    go_wp2_with fail
    refine (HV.out _ ?_).mono ?_
    focus (repeat (first | (with_reducible exact Below.refl _ _) | (with_reducible refine Bal ?_ _) | (with_reducible refine Below.drew ?_) | (with_reducible refine below_drewN ?_ _) | (with_reducible refine Bset ?_ ?_ _; focus (first | (with_reducible exact Nat.le_refl _) | (simp; done) | (simp; omega) | omega)) | (with_reducible refine Bt ?_ (by assumption)) | (with_reducible refine Bp (g := g) ?_ (by assumption) (by assumption))))
    rintro e w1 ⟨rfl, hb1⟩
    obtain ⟨hc1, hf1⟩ := bcell hb1
    have hy1 := hb1.size
    try simp at hy1
    have hg1_0 := fun o => hc1 (w.heap.size) o (by first | (simp; done) | (simp; omega) | omega)
    try simp [go_sem] at hg1_0
    have hg1_1 := fun o => hc1 (w.heap.size + 1) o (by first | (simp; done) | (simp; omega) | omega)
    try simp [go_sem] at hg1_1
    have hg1_2 := fun o => hc1 (w.heap.size + 1 + 1) o (by first | (simp; done) | (simp; omega) | omega)
    try simp [go_sem] at hg1_2
    have hk1_2 := fun o => hf1 (w.heap.size + 1 + 1) o (by first | (simp; done) | (simp; omega) | omega)
    try simp [go_sem] at hk1_2
    go_wp2_with fail
    refine bodyPost_ret (v := .tuple #[.agg #[.int .i64 0, .int .i64 0, .slice none 0 0], .int .i64 4]) ?_ rfl ?_
    · simp only [results, Try.results26]
      go_simp
    refine PutRet.bad HK.out ?_
    repeat (first | (with_reducible exact Below.refl _ _) | (with_reducible refine Bal ?_ _) | (with_reducible refine Below.drew ?_) | (with_reducible refine below_drewN ?_ _) | (with_reducible refine Bset ?_ ?_ _; focus (first | (with_reducible exact Nat.le_refl _) | (simp; done) | (simp; omega) | omega)) | (with_reducible refine Bt ?_ (by assumption)) | (with_reducible refine Bp (g := g) ?_ (by assumption) (by assumption)))
  rw [show bfB y d n q = true from decide_eq_true hO] at hv
  have HV := Lib.hid hv
  clear hv
  by_cases hX : PkOk x
  rotate_left
  · rw [show pkB ⟨x.w, x.t, x.l, x.s, x.k, x.z⟩ = false from decide_eq_false hX] at hp
    have HP := Lib.hid hp
    have HK := Lib.hid (pt_bad (y := y) (d := d) (n := n) (q := q) (now := now) (fun h => hX h.2.1))
    clear hp ht hh hO hX
    go_enter Try.func26, Try.ntmps26
    unfold PkV
    go_wp2_with fail
    refine (HV.out _ ?_).mono ?_
    focus (repeat (first | (with_reducible exact Below.refl _ _) | (with_reducible refine Bal ?_ _) | (with_reducible refine Below.drew ?_) | (with_reducible refine below_drewN ?_ _) | (with_reducible refine Bset ?_ ?_ _; focus (first | (with_reducible exact Nat.le_refl _) | (simp; done) | (simp; omega) | omega)) | (with_reducible refine Bt ?_ (by assumption)) | (with_reducible refine Bp (g := g) ?_ (by assumption) (by assumption))))
    rintro e w1 ⟨rfl, hb1⟩
    obtain ⟨hc1, hf1⟩ := bcell hb1
    have hy1 := hb1.size
    try simp at hy1
    have hg1_0 := fun o => hc1 (w.heap.size) o (by first | (simp; done) | (simp; omega) | omega)
    try simp [go_sem] at hg1_0
    have hg1_1 := fun o => hc1 (w.heap.size + 1) o (by first | (simp; done) | (simp; omega) | omega)
    try simp [go_sem] at hg1_1
    have hg1_2 := fun o => hc1 (w.heap.size + 1 + 1) o (by first | (simp; done) | (simp; omega) | omega)
    try simp [go_sem] at hg1_2
    have hk1_2 := fun o => hf1 (w.heap.size + 1 + 1) o (by first | (simp; done) | (simp; omega) | omega)
    try simp [go_sem] at hk1_2
    go_wp2_with fail
    refine (HP.out _).mono ?_
    rintro e w2 ⟨rfl, hb2⟩
    obtain ⟨hc2, hf2⟩ := bcell hb2
    have hy2 := hb2.size
    try simp at hy2
    have hg2_0 := fun o => hc2 (w.heap.size) o (by first | (simp; done) | (simp; omega) | omega)
    try simp [go_sem] at hg2_0
    have hg2_1 := fun o => hc2 (w.heap.size + 1) o (by first | (simp; done) | (simp; omega) | omega)
    try simp [go_sem] at hg2_1
    have hg2_2 := fun o => hc2 (w.heap.size + 1 + 1) o (by first | (simp; done) | (simp; omega) | omega)
    try simp [go_sem] at hg2_2
    have hk2_2 := fun o => hf2 (w.heap.size + 1 + 1) o (by first | (simp; done) | (simp; omega) | omega)
    try simp [go_sem] at hk2_2
    go_wp2_with fail
    refine bodyPost_ret (v := .tuple #[.agg #[.int .i64 0, .int .i64 0, .slice none 0 0], .int .i64 4]) ?_ rfl ?_
    · simp only [results, Try.results26]
      go_simp
    refine PutRet.bad HK.out ?_
    repeat (first | (with_reducible exact Below.refl _ _) | (with_reducible refine Bal ?_ _) | (with_reducible refine Below.drew ?_) | (with_reducible refine below_drewN ?_ _) | (with_reducible refine Bset ?_ ?_ _; focus (first | (with_reducible exact Nat.le_refl _) | (simp; done) | (simp; omega) | omega)) | (with_reducible refine Bt ?_ (by assumption)) | (with_reducible refine Bp (g := g) ?_ (by assumption) (by assumption)))
  rw [show pkB ⟨x.w, x.t, x.l, x.s, x.k, x.z⟩ = true from decide_eq_true hX] at hp
  have HP := Lib.hid hp
  clear hp
  by_cases hT : 0 ≤ now ∧ now ≤ 99999
  rotate_left
  · rw [show inB now 0 99999 = false by (unfold inB; simp; omega)] at ht
    have HT := Lib.hid ht
    have HK := Lib.hid (pt_bad (y := y) (d := d) (n := n) (q := q) (x := x) (fun h => hT h.2.2))
    clear ht hh hO hX hT
    go_enter Try.func26, Try.ntmps26
    unfold PkV
    go_wp2_with fail
    refine (HV.out _ ?_).mono ?_
    focus (repeat (first | (with_reducible exact Below.refl _ _) | (with_reducible refine Bal ?_ _) | (with_reducible refine Below.drew ?_) | (with_reducible refine below_drewN ?_ _) | (with_reducible refine Bset ?_ ?_ _; focus (first | (with_reducible exact Nat.le_refl _) | (simp; done) | (simp; omega) | omega)) | (with_reducible refine Bt ?_ (by assumption)) | (with_reducible refine Bp (g := g) ?_ (by assumption) (by assumption))))
    rintro e w1 ⟨rfl, hb1⟩
    obtain ⟨hc1, hf1⟩ := bcell hb1
    have hy1 := hb1.size
    try simp at hy1
    have hg1_0 := fun o => hc1 (w.heap.size) o (by first | (simp; done) | (simp; omega) | omega)
    try simp [go_sem] at hg1_0
    have hg1_1 := fun o => hc1 (w.heap.size + 1) o (by first | (simp; done) | (simp; omega) | omega)
    try simp [go_sem] at hg1_1
    have hg1_2 := fun o => hc1 (w.heap.size + 1 + 1) o (by first | (simp; done) | (simp; omega) | omega)
    try simp [go_sem] at hg1_2
    have hk1_2 := fun o => hf1 (w.heap.size + 1 + 1) o (by first | (simp; done) | (simp; omega) | omega)
    try simp [go_sem] at hk1_2
    go_wp2_with fail
    refine (HP.out _).mono ?_
    rintro e w2 ⟨rfl, hb2⟩
    obtain ⟨hc2, hf2⟩ := bcell hb2
    have hy2 := hb2.size
    try simp at hy2
    have hg2_0 := fun o => hc2 (w.heap.size) o (by first | (simp; done) | (simp; omega) | omega)
    try simp [go_sem] at hg2_0
    have hg2_1 := fun o => hc2 (w.heap.size + 1) o (by first | (simp; done) | (simp; omega) | omega)
    try simp [go_sem] at hg2_1
    have hg2_2 := fun o => hc2 (w.heap.size + 1 + 1) o (by first | (simp; done) | (simp; omega) | omega)
    try simp [go_sem] at hg2_2
    have hk2_2 := fun o => hf2 (w.heap.size + 1 + 1) o (by first | (simp; done) | (simp; omega) | omega)
    try simp [go_sem] at hk2_2
    go_wp2_with fail
    refine (HT.out _).mono ?_
    rintro e w' ⟨rfl, rfl⟩
    go_wp2_with fail
    refine bodyPost_ret (v := .tuple #[.agg #[.int .i64 0, .int .i64 0, .slice none 0 0], .int .i64 4]) ?_ rfl ?_
    · simp only [results, Try.results26]
      go_simp
    refine PutRet.bad HK.out ?_
    repeat (first | (with_reducible exact Below.refl _ _) | (with_reducible refine Bal ?_ _) | (with_reducible refine Below.drew ?_) | (with_reducible refine below_drewN ?_ _) | (with_reducible refine Bset ?_ ?_ _; focus (first | (with_reducible exact Nat.le_refl _) | (simp; done) | (simp; omega) | omega)) | (with_reducible refine Bt ?_ (by assumption)) | (with_reducible refine Bp (g := g) ?_ (by assumption) (by assumption)))
  rw [inB_t hT.1 hT.2] at ht
  have HT := Lib.hid ht
  clear ht
  have HOk := Lib.hid (show ptOk y d n q x now from ⟨hO, hX, hT⟩)
  have HA := Lib.hid hO.2.2.2.asc
  have hn10 : n ≤ 10 := hO.2.2.1
  clear hO hX hT hn
  by_cases hl : x.w < y
  · have HK := Lib.hid (pt_late HOk.out hl)
    clear hh
    go_enter Try.func26, Try.ntmps26
    unfold PkV
    go_wp2_with fail
    refine (HV.out _ ?_).mono ?_
    focus (repeat (first | (with_reducible exact Below.refl _ _) | (with_reducible refine Bal ?_ _) | (with_reducible refine Below.drew ?_) | (with_reducible refine below_drewN ?_ _) | (with_reducible refine Bset ?_ ?_ _; focus (first | (with_reducible exact Nat.le_refl _) | (simp; done) | (simp; omega) | omega)) | (with_reducible refine Bt ?_ (by assumption)) | (with_reducible refine Bp (g := g) ?_ (by assumption) (by assumption))))
    rintro e w1 ⟨rfl, hb1⟩
    obtain ⟨hc1, hf1⟩ := bcell hb1
    have hy1 := hb1.size
    try simp at hy1
    have hg1_0 := fun o => hc1 (w.heap.size) o (by first | (simp; done) | (simp; omega) | omega)
    try simp [go_sem] at hg1_0
    have hg1_1 := fun o => hc1 (w.heap.size + 1) o (by first | (simp; done) | (simp; omega) | omega)
    try simp [go_sem] at hg1_1
    have hg1_2 := fun o => hc1 (w.heap.size + 1 + 1) o (by first | (simp; done) | (simp; omega) | omega)
    try simp [go_sem] at hg1_2
    have hk1_2 := fun o => hf1 (w.heap.size + 1 + 1) o (by first | (simp; done) | (simp; omega) | omega)
    try simp [go_sem] at hk1_2
    go_wp2_with fail
    refine (HP.out _).mono ?_
    rintro e w2 ⟨rfl, hb2⟩
    obtain ⟨hc2, hf2⟩ := bcell hb2
    have hy2 := hb2.size
    try simp at hy2
    have hg2_0 := fun o => hc2 (w.heap.size) o (by first | (simp; done) | (simp; omega) | omega)
    try simp [go_sem] at hg2_0
    have hg2_1 := fun o => hc2 (w.heap.size + 1) o (by first | (simp; done) | (simp; omega) | omega)
    try simp [go_sem] at hg2_1
    have hg2_2 := fun o => hc2 (w.heap.size + 1 + 1) o (by first | (simp; done) | (simp; omega) | omega)
    try simp [go_sem] at hg2_2
    have hk2_2 := fun o => hf2 (w.heap.size + 1 + 1) o (by first | (simp; done) | (simp; omega) | omega)
    try simp [go_sem] at hk2_2
    go_wp2_with fail
    refine (HT.out _).mono ?_
    rintro e w' ⟨rfl, rfl⟩
    have hW2 : Below w.heap.size w w2 := by repeat (first | (with_reducible exact Below.refl _ _) | (with_reducible refine Bal ?_ _) | (with_reducible refine Below.drew ?_) | (with_reducible refine below_drewN ?_ _) | (with_reducible refine Bset ?_ ?_ _; focus (first | (with_reducible exact Nat.le_refl _) | (simp; done) | (simp; omega) | omega)) | (with_reducible refine Bt ?_ (by assumption)) | (with_reducible refine Bp (g := g) ?_ (by assumption) (by assumption)))
    have HW2 := Lib.hid hW2
    have hz2 := hW2.size
    clear hW2
    go_wp2_with fail
    refine (nhh_any _ (lo := lo) (hi := hi) (A := A) (n := n) (ca := c) (e := q) ?_ ?_ (by omega) HA.out).mono ?_
    focus (exact H.out.below hi' HW2.out)
    focus (omega)
    rintro e w3 ⟨HB, g, c3, r, rfl, hPr, hCr, hSt, hb3⟩
    obtain ⟨hc3, hf3⟩ := bcell hb3
    have hy3 := hb3.size
    try simp at hy3
    have hg3_0 := fun o => hc3 (w.heap.size) o (by first | (simp; done) | (simp; omega) | omega)
    try simp [go_sem] at hg3_0
    have hg3_1 := fun o => hc3 (w.heap.size + 1) o (by first | (simp; done) | (simp; omega) | omega)
    try simp [go_sem] at hg3_1
    have hg3_2 := fun o => hc3 (w.heap.size + 1 + 1) o (by first | (simp; done) | (simp; omega) | omega)
    try simp [go_sem] at hg3_2
    have hk3_2 := fun o => hf3 (w.heap.size + 1 + 1) o (by first | (simp; done) | (simp; omega) | omega)
    try simp [go_sem] at hk3_2
    have hHB := hSt.lo
    have hHg := hSt.g_lo
    have hHz := hSt.lt
    have hHy := hSt.g_lt
    have HSt := Lib.hid hSt
    have HPr := Lib.hid hPr
    have HCr := Lib.hid hCr
    have HW3 := Lib.hid (HW2.out.trans (Below.mono hb3 (by omega)))
    clear hSt hPr hCr
    go_upto_region 12 with fail
    refine wp_region_mix (Below (w.heap.size+1+1+1) w3) (by kernel_rfl) (by kernel_rfl) (Below.drew (Below.refl _ _)) ?_
    repeat (first
      | (refine mix_skip rfl ?_; have e0 : True := trivial; clear e0; refine mix_putK ?_; intro K hK; go_simp; refine hK _ ?_; clear hK K)
      | (refine mix_readE rfl rfl rfl ?_; apply Exists.intro; refine ⟨fun w' hb' => ?_, ?_⟩; (focus (obtain ⟨hc', hf'⟩ := below_cells hb'; clear hb'; go_simp; try exact rfl)); have e0 : True := trivial; clear e0; refine mix_putK ?_; intro K hK; go_simp; refine hK _ ?_; clear hK K)
      | (refine mix_pureE rfl rfl ?_; apply Exists.intro; refine ⟨fun w' => ?_, ?_⟩; (focus (go_simp; try exact rfl)); have e0 : True := trivial; clear e0; refine mix_putK ?_; intro K hK; go_simp; refine hK _ ?_; clear hK K)
      | (refine mix_eff rfl rfl ?_; go_wp2_with ((go_at_call 49; refine (ino_any _ (n := n) HSt.out.drew (by omega) HA.out HPr.out HCr.out).mono ?_; rintro e w7 ⟨A7, c7, rfl, hO7, hE7⟩; have hB7 : Below (w.heap.size + 1 + 1 + 1) w3 w7 := Below.trans (Below.drew (Below.refl _ _)) (hE7.below (fun k hk => by rcases hk with rfl | rfl <;> omega) (by simp; omega)); obtain ⟨hc7, hf7⟩ := below_cells hB7; have hg7 := fun o => hc7 (w.heap.size + 1 + 1) o (by omega); have hk7 := fun o => hf7 (w.heap.size + 1 + 1) o (by omega); (try simp [go_sem] at hg7); (try simp [go_sem] at hk7))); refine then_mix rfl ?_ ?_; (focus (first | (intro h; have h2 : false = true := h; cases h2) | (intro _; assumption) | (intro _; exact Below.drew (by assumption)) | (intro _; repeat (first | (with_reducible exact Below.refl _ _) | (with_reducible refine Bal ?_ _) | (with_reducible refine Below.drew ?_) | (with_reducible refine below_drewN ?_ _) | (with_reducible refine Bset ?_ ?_ _; focus (first | (with_reducible exact Nat.le_refl _) | (simp; done) | (simp; omega) | omega)) | (with_reducible refine Bt ?_ (by assumption)) | (with_reducible refine Bp (g := g) ?_ (by assumption) (by assumption))))))))
    refine mix_nil ?_
    go_wp2_with fail
    refine bodyPost_ret (v := .tuple #[.agg #[.int .i64 y, .int .i64 d, .slice A7 n c7], .int .i64 1]) ?_ rfl ?_
    · simp only [results, Try.results26]
      go_simp
    have hW7 := HW3.out.trans (Below.mono hB7 (by omega))
    have hs7 := hE7.size
    simp at hs7
    refine PutRet.same HK.out (by decide) ?_ ?_
    · exact RowOwn.wide (RowOwn.setC (Or.inl (by simp; omega)) (RowOwn.setC (Or.inl (by simp; omega)) (RowOwn.setC (Or.inl (by simp; omega)) hO7 _) _) _) (by simp; omega) (by simp)
    · exact Bset (by simp; omega) (Bset (by simp; omega) (Bset (by simp; omega) hW7 _) _) _
  by_cases hD : holdsB n q x.w = true
  · rw [hD] at hh
    have HH := Lib.hid hh
    have HK := Lib.hid (pt_twice HOk.out hl hD)
    clear hh hD
    go_enter Try.func26, Try.ntmps26
    unfold PkV
    go_wp2_with fail
    refine (HV.out _ ?_).mono ?_
    focus (repeat (first | (with_reducible exact Below.refl _ _) | (with_reducible refine Bal ?_ _) | (with_reducible refine Below.drew ?_) | (with_reducible refine below_drewN ?_ _) | (with_reducible refine Bset ?_ ?_ _; focus (first | (with_reducible exact Nat.le_refl _) | (simp; done) | (simp; omega) | omega)) | (with_reducible refine Bt ?_ (by assumption)) | (with_reducible refine Bp (g := g) ?_ (by assumption) (by assumption))))
    rintro e w1 ⟨rfl, hb1⟩
    obtain ⟨hc1, hf1⟩ := bcell hb1
    have hy1 := hb1.size
    try simp at hy1
    have hg1_0 := fun o => hc1 (w.heap.size) o (by first | (simp; done) | (simp; omega) | omega)
    try simp [go_sem] at hg1_0
    have hg1_1 := fun o => hc1 (w.heap.size + 1) o (by first | (simp; done) | (simp; omega) | omega)
    try simp [go_sem] at hg1_1
    have hg1_2 := fun o => hc1 (w.heap.size + 1 + 1) o (by first | (simp; done) | (simp; omega) | omega)
    try simp [go_sem] at hg1_2
    have hk1_2 := fun o => hf1 (w.heap.size + 1 + 1) o (by first | (simp; done) | (simp; omega) | omega)
    try simp [go_sem] at hk1_2
    go_wp2_with fail
    refine (HP.out _).mono ?_
    rintro e w2 ⟨rfl, hb2⟩
    obtain ⟨hc2, hf2⟩ := bcell hb2
    have hy2 := hb2.size
    try simp at hy2
    have hg2_0 := fun o => hc2 (w.heap.size) o (by first | (simp; done) | (simp; omega) | omega)
    try simp [go_sem] at hg2_0
    have hg2_1 := fun o => hc2 (w.heap.size + 1) o (by first | (simp; done) | (simp; omega) | omega)
    try simp [go_sem] at hg2_1
    have hg2_2 := fun o => hc2 (w.heap.size + 1 + 1) o (by first | (simp; done) | (simp; omega) | omega)
    try simp [go_sem] at hg2_2
    have hk2_2 := fun o => hf2 (w.heap.size + 1 + 1) o (by first | (simp; done) | (simp; omega) | omega)
    try simp [go_sem] at hk2_2
    go_wp2_with fail
    refine (HT.out _).mono ?_
    rintro e w' ⟨rfl, rfl⟩
    have hW2 : Below w.heap.size w w2 := by repeat (first | (with_reducible exact Below.refl _ _) | (with_reducible refine Bal ?_ _) | (with_reducible refine Below.drew ?_) | (with_reducible refine below_drewN ?_ _) | (with_reducible refine Bset ?_ ?_ _; focus (first | (with_reducible exact Nat.le_refl _) | (simp; done) | (simp; omega) | omega)) | (with_reducible refine Bt ?_ (by assumption)) | (with_reducible refine Bp (g := g) ?_ (by assumption) (by assumption)))
    have HW2 := Lib.hid hW2
    have hz2 := hW2.size
    clear hW2
    go_wp2_with fail
    refine (nhh_any _ (lo := lo) (hi := hi) (A := A) (n := n) (ca := c) (e := q) ?_ ?_ (by omega) HA.out).mono ?_
    focus (exact H.out.below hi' HW2.out)
    focus (omega)
    rintro e w3 ⟨HB, g, c3, r, rfl, hPr, hCr, hSt, hb3⟩
    obtain ⟨hc3, hf3⟩ := bcell hb3
    have hy3 := hb3.size
    try simp at hy3
    have hg3_0 := fun o => hc3 (w.heap.size) o (by first | (simp; done) | (simp; omega) | omega)
    try simp [go_sem] at hg3_0
    have hg3_1 := fun o => hc3 (w.heap.size + 1) o (by first | (simp; done) | (simp; omega) | omega)
    try simp [go_sem] at hg3_1
    have hg3_2 := fun o => hc3 (w.heap.size + 1 + 1) o (by first | (simp; done) | (simp; omega) | omega)
    try simp [go_sem] at hg3_2
    have hk3_2 := fun o => hf3 (w.heap.size + 1 + 1) o (by first | (simp; done) | (simp; omega) | omega)
    try simp [go_sem] at hk3_2
    have hHB := hSt.lo
    have hHg := hSt.g_lo
    have hHz := hSt.lt
    have hHy := hSt.g_lt
    have HSt := Lib.hid hSt
    have HPr := Lib.hid hPr
    have HCr := Lib.hid hCr
    have HW3 := Lib.hid (HW2.out.trans (Below.mono hb3 (by omega)))
    clear hSt hPr hCr
    go_wp2_with fail
    refine (HH.out _ HW3.out).mono ?_
    rintro e w4 ⟨rfl, hb4⟩
    obtain ⟨hc4, hf4⟩ := bcell hb4
    have hy4 := hb4.size
    try simp at hy4
    have hg4_0 := fun o => hc4 (w.heap.size) o (by first | (simp; done) | (simp; omega) | omega)
    try simp [go_sem] at hg4_0
    have hg4_1 := fun o => hc4 (w.heap.size + 1) o (by first | (simp; done) | (simp; omega) | omega)
    try simp [go_sem] at hg4_1
    have hg4_2 := fun o => hc4 (w.heap.size + 1 + 1) o (by first | (simp; done) | (simp; omega) | omega)
    try simp [go_sem] at hg4_2
    have hk4_2 := fun o => hf4 (w.heap.size + 1 + 1) o (by first | (simp; done) | (simp; omega) | omega)
    try simp [go_sem] at hk4_2
    have HSt4 := Lib.hid (HSt.out.keep hb4.size (hb4.block _ hHz) (hb4.block _ hHy))
    have HW4 := Lib.hid (HW3.out.trans (Below.mono hb4 (by omega)))
    go_upto_region 12 with fail
    refine wp_region_mix (Below (w.heap.size+1+1+1) w4) (by kernel_rfl) (by kernel_rfl) (Below.drew (Below.refl _ _)) ?_
    repeat (first
      | (refine mix_skip rfl ?_; have e0 : True := trivial; clear e0; refine mix_putK ?_; intro K hK; go_simp; refine hK _ ?_; clear hK K)
      | (refine mix_readE rfl rfl rfl ?_; apply Exists.intro; refine ⟨fun w' hb' => ?_, ?_⟩; (focus (obtain ⟨hc', hf'⟩ := below_cells hb'; clear hb'; go_simp; try exact rfl)); have e0 : True := trivial; clear e0; refine mix_putK ?_; intro K hK; go_simp; refine hK _ ?_; clear hK K)
      | (refine mix_pureE rfl rfl ?_; apply Exists.intro; refine ⟨fun w' => ?_, ?_⟩; (focus (go_simp; try exact rfl)); have e0 : True := trivial; clear e0; refine mix_putK ?_; intro K hK; go_simp; refine hK _ ?_; clear hK K)
      | (refine mix_eff rfl rfl ?_; go_wp2_with ((go_at_call 49; refine (ino_any _ (n := n) HSt4.out.drew (by omega) HA.out HPr.out HCr.out).mono ?_; rintro e w7 ⟨A7, c7, rfl, hO7, hE7⟩; have hB7 : Below (w.heap.size + 1 + 1 + 1) w4 w7 := Below.trans (Below.drew (Below.refl _ _)) (hE7.below (fun k hk => by rcases hk with rfl | rfl <;> omega) (by simp; omega)); obtain ⟨hc7, hf7⟩ := below_cells hB7; have hg7 := fun o => hc7 (w.heap.size + 1 + 1) o (by omega); have hk7 := fun o => hf7 (w.heap.size + 1 + 1) o (by omega); (try simp [go_sem] at hg7); (try simp [go_sem] at hk7))); refine then_mix rfl ?_ ?_; (focus (first | (intro h; have h2 : false = true := h; cases h2) | (intro _; assumption) | (intro _; exact Below.drew (by assumption)) | (intro _; repeat (first | (with_reducible exact Below.refl _ _) | (with_reducible refine Bal ?_ _) | (with_reducible refine Below.drew ?_) | (with_reducible refine below_drewN ?_ _) | (with_reducible refine Bset ?_ ?_ _; focus (first | (with_reducible exact Nat.le_refl _) | (simp; done) | (simp; omega) | omega)) | (with_reducible refine Bt ?_ (by assumption)) | (with_reducible refine Bp (g := g) ?_ (by assumption) (by assumption))))))))
    refine mix_nil ?_
    go_wp2_with fail
    refine bodyPost_ret (v := .tuple #[.agg #[.int .i64 y, .int .i64 d, .slice A7 n c7], .int .i64 2]) ?_ rfl ?_
    · simp only [results, Try.results26]
      go_simp
    have hW7 := HW4.out.trans (Below.mono hB7 (by omega))
    have hs7 := hE7.size
    simp at hs7
    refine PutRet.same HK.out (by decide) ?_ ?_
    · exact RowOwn.wide (RowOwn.setC (Or.inl (by simp; omega)) (RowOwn.setC (Or.inl (by simp; omega)) (RowOwn.setC (Or.inl (by simp; omega)) hO7 _) _) _) (by simp; omega) (by simp)
    · exact Bset (by simp; omega) (Bset (by simp; omega) (Bset (by simp; omega) hW7 _) _) _
  rw [show holdsB n q x.w = false by simpa using hD] at hh
  have HH := Lib.hid hh
  clear hh
  by_cases hF : 10 ≤ n
  · have HK := Lib.hid (pt_full HOk.out hl hD hF)
    clear hD
    go_enter Try.func26, Try.ntmps26
    unfold PkV
    go_wp2_with fail
    refine (HV.out _ ?_).mono ?_
    focus (repeat (first | (with_reducible exact Below.refl _ _) | (with_reducible refine Bal ?_ _) | (with_reducible refine Below.drew ?_) | (with_reducible refine below_drewN ?_ _) | (with_reducible refine Bset ?_ ?_ _; focus (first | (with_reducible exact Nat.le_refl _) | (simp; done) | (simp; omega) | omega)) | (with_reducible refine Bt ?_ (by assumption)) | (with_reducible refine Bp (g := g) ?_ (by assumption) (by assumption))))
    rintro e w1 ⟨rfl, hb1⟩
    obtain ⟨hc1, hf1⟩ := bcell hb1
    have hy1 := hb1.size
    try simp at hy1
    have hg1_0 := fun o => hc1 (w.heap.size) o (by first | (simp; done) | (simp; omega) | omega)
    try simp [go_sem] at hg1_0
    have hg1_1 := fun o => hc1 (w.heap.size + 1) o (by first | (simp; done) | (simp; omega) | omega)
    try simp [go_sem] at hg1_1
    have hg1_2 := fun o => hc1 (w.heap.size + 1 + 1) o (by first | (simp; done) | (simp; omega) | omega)
    try simp [go_sem] at hg1_2
    have hk1_2 := fun o => hf1 (w.heap.size + 1 + 1) o (by first | (simp; done) | (simp; omega) | omega)
    try simp [go_sem] at hk1_2
    go_wp2_with fail
    refine (HP.out _).mono ?_
    rintro e w2 ⟨rfl, hb2⟩
    obtain ⟨hc2, hf2⟩ := bcell hb2
    have hy2 := hb2.size
    try simp at hy2
    have hg2_0 := fun o => hc2 (w.heap.size) o (by first | (simp; done) | (simp; omega) | omega)
    try simp [go_sem] at hg2_0
    have hg2_1 := fun o => hc2 (w.heap.size + 1) o (by first | (simp; done) | (simp; omega) | omega)
    try simp [go_sem] at hg2_1
    have hg2_2 := fun o => hc2 (w.heap.size + 1 + 1) o (by first | (simp; done) | (simp; omega) | omega)
    try simp [go_sem] at hg2_2
    have hk2_2 := fun o => hf2 (w.heap.size + 1 + 1) o (by first | (simp; done) | (simp; omega) | omega)
    try simp [go_sem] at hk2_2
    go_wp2_with fail
    refine (HT.out _).mono ?_
    rintro e w' ⟨rfl, rfl⟩
    have hW2 : Below w.heap.size w w2 := by repeat (first | (with_reducible exact Below.refl _ _) | (with_reducible refine Bal ?_ _) | (with_reducible refine Below.drew ?_) | (with_reducible refine below_drewN ?_ _) | (with_reducible refine Bset ?_ ?_ _; focus (first | (with_reducible exact Nat.le_refl _) | (simp; done) | (simp; omega) | omega)) | (with_reducible refine Bt ?_ (by assumption)) | (with_reducible refine Bp (g := g) ?_ (by assumption) (by assumption)))
    have HW2 := Lib.hid hW2
    have hz2 := hW2.size
    clear hW2
    go_wp2_with fail
    refine (nhh_any _ (lo := lo) (hi := hi) (A := A) (n := n) (ca := c) (e := q) ?_ ?_ (by omega) HA.out).mono ?_
    focus (exact H.out.below hi' HW2.out)
    focus (omega)
    rintro e w3 ⟨HB, g, c3, r, rfl, hPr, hCr, hSt, hb3⟩
    obtain ⟨hc3, hf3⟩ := bcell hb3
    have hy3 := hb3.size
    try simp at hy3
    have hg3_0 := fun o => hc3 (w.heap.size) o (by first | (simp; done) | (simp; omega) | omega)
    try simp [go_sem] at hg3_0
    have hg3_1 := fun o => hc3 (w.heap.size + 1) o (by first | (simp; done) | (simp; omega) | omega)
    try simp [go_sem] at hg3_1
    have hg3_2 := fun o => hc3 (w.heap.size + 1 + 1) o (by first | (simp; done) | (simp; omega) | omega)
    try simp [go_sem] at hg3_2
    have hk3_2 := fun o => hf3 (w.heap.size + 1 + 1) o (by first | (simp; done) | (simp; omega) | omega)
    try simp [go_sem] at hk3_2
    have hHB := hSt.lo
    have hHg := hSt.g_lo
    have hHz := hSt.lt
    have hHy := hSt.g_lt
    have HSt := Lib.hid hSt
    have HPr := Lib.hid hPr
    have HCr := Lib.hid hCr
    have HW3 := Lib.hid (HW2.out.trans (Below.mono hb3 (by omega)))
    clear hSt hPr hCr
    go_wp2_with fail
    refine (HH.out _ HW3.out).mono ?_
    rintro e w4 ⟨rfl, hb4⟩
    obtain ⟨hc4, hf4⟩ := bcell hb4
    have hy4 := hb4.size
    try simp at hy4
    have hg4_0 := fun o => hc4 (w.heap.size) o (by first | (simp; done) | (simp; omega) | omega)
    try simp [go_sem] at hg4_0
    have hg4_1 := fun o => hc4 (w.heap.size + 1) o (by first | (simp; done) | (simp; omega) | omega)
    try simp [go_sem] at hg4_1
    have hg4_2 := fun o => hc4 (w.heap.size + 1 + 1) o (by first | (simp; done) | (simp; omega) | omega)
    try simp [go_sem] at hg4_2
    have hk4_2 := fun o => hf4 (w.heap.size + 1 + 1) o (by first | (simp; done) | (simp; omega) | omega)
    try simp [go_sem] at hk4_2
    have HSt4 := Lib.hid (HSt.out.keep hb4.size (hb4.block _ hHz) (hb4.block _ hHy))
    have HW4 := Lib.hid (HW3.out.trans (Below.mono hb4 (by omega)))
    go_upto_region 12 with fail
    refine wp_region_mix (Below (w.heap.size+1+1+1) w4) (by kernel_rfl) (by kernel_rfl) (Below.drew (Below.refl _ _)) ?_
    repeat (first
      | (refine mix_skip rfl ?_; have e0 : True := trivial; clear e0; refine mix_putK ?_; intro K hK; go_simp; refine hK _ ?_; clear hK K)
      | (refine mix_readE rfl rfl rfl ?_; apply Exists.intro; refine ⟨fun w' hb' => ?_, ?_⟩; (focus (obtain ⟨hc', hf'⟩ := below_cells hb'; clear hb'; go_simp; try exact rfl)); have e0 : True := trivial; clear e0; refine mix_putK ?_; intro K hK; go_simp; refine hK _ ?_; clear hK K)
      | (refine mix_pureE rfl rfl ?_; apply Exists.intro; refine ⟨fun w' => ?_, ?_⟩; (focus (go_simp; try exact rfl)); have e0 : True := trivial; clear e0; refine mix_putK ?_; intro K hK; go_simp; refine hK _ ?_; clear hK K)
      | (refine mix_eff rfl rfl ?_; go_wp2_with ((go_at_call 49; refine (ino_any _ (n := n) HSt4.out.drew (by omega) HA.out HPr.out HCr.out).mono ?_; rintro e w7 ⟨A7, c7, rfl, hO7, hE7⟩; have hB7 : Below (w.heap.size + 1 + 1 + 1) w4 w7 := Below.trans (Below.drew (Below.refl _ _)) (hE7.below (fun k hk => by rcases hk with rfl | rfl <;> omega) (by simp; omega)); obtain ⟨hc7, hf7⟩ := below_cells hB7; have hg7 := fun o => hc7 (w.heap.size + 1 + 1) o (by omega); have hk7 := fun o => hf7 (w.heap.size + 1 + 1) o (by omega); (try simp [go_sem] at hg7); (try simp [go_sem] at hk7))); refine then_mix rfl ?_ ?_; (focus (first | (intro h; have h2 : false = true := h; cases h2) | (intro _; assumption) | (intro _; exact Below.drew (by assumption)) | (intro _; repeat (first | (with_reducible exact Below.refl _ _) | (with_reducible refine Bal ?_ _) | (with_reducible refine Below.drew ?_) | (with_reducible refine below_drewN ?_ _) | (with_reducible refine Bset ?_ ?_ _; focus (first | (with_reducible exact Nat.le_refl _) | (simp; done) | (simp; omega) | omega)) | (with_reducible refine Bt ?_ (by assumption)) | (with_reducible refine Bp (g := g) ?_ (by assumption) (by assumption))))))))
    refine mix_nil ?_
    go_wp2_with fail
    refine bodyPost_ret (v := .tuple #[.agg #[.int .i64 y, .int .i64 d, .slice A7 n c7], .int .i64 3]) ?_ rfl ?_
    · simp only [results, Try.results26]
      go_simp
    have hW7 := HW4.out.trans (Below.mono hB7 (by omega))
    have hs7 := hE7.size
    simp at hs7
    refine PutRet.same HK.out (by decide) ?_ ?_
    · exact RowOwn.wide (RowOwn.setC (Or.inl (by simp; omega)) (RowOwn.setC (Or.inl (by simp; omega)) (RowOwn.setC (Or.inl (by simp; omega)) hO7 _) _) _) (by simp; omega) (by simp)
    · exact Bset (by simp; omega) (Bset (by simp; omega) (Bset (by simp; omega) hW7 _) _) _
  have HK := Lib.hid (pt_fine HOk.out hl hD hF)
  have hle := ptAt_le q x.w n
  have HA2 := Lib.hid (show EAsc (n + 1) (insH q (ptAt q x.w n) ⟨x, now⟩) from HA.out.ins hle (ptAt_spec n HA.out).1 fun i h1 h2 => by
    have h3 := (ptAt_spec (v := x.w) n HA.out).2 i h1 h2
    have h4 : (q i).p.w ≠ x.w := fun e => hD (decide_eq_true ⟨i, h2, e⟩)
    show x.w < (q i).p.w
    omega)
  clear hD
  go_enter Try.func26, Try.ntmps26
  unfold PkV
  go_wp2_with fail
  refine (HV.out _ ?_).mono ?_
  focus (repeat (first | (with_reducible exact Below.refl _ _) | (with_reducible refine Bal ?_ _) | (with_reducible refine Below.drew ?_) | (with_reducible refine below_drewN ?_ _) | (with_reducible refine Bset ?_ ?_ _; focus (first | (with_reducible exact Nat.le_refl _) | (simp; done) | (simp; omega) | omega)) | (with_reducible refine Bt ?_ (by assumption)) | (with_reducible refine Bp (g := g) ?_ (by assumption) (by assumption))))
  rintro e w1 ⟨rfl, hb1⟩
  obtain ⟨hc1, hf1⟩ := bcell hb1
  have hy1 := hb1.size
  try simp at hy1
  have hg1_0 := fun o => hc1 (w.heap.size) o (by first | (simp; done) | (simp; omega) | omega)
  try simp [go_sem] at hg1_0
  have hg1_1 := fun o => hc1 (w.heap.size + 1) o (by first | (simp; done) | (simp; omega) | omega)
  try simp [go_sem] at hg1_1
  have hg1_2 := fun o => hc1 (w.heap.size + 1 + 1) o (by first | (simp; done) | (simp; omega) | omega)
  try simp [go_sem] at hg1_2
  have hk1_2 := fun o => hf1 (w.heap.size + 1 + 1) o (by first | (simp; done) | (simp; omega) | omega)
  try simp [go_sem] at hk1_2
  go_wp2_with fail
  refine (HP.out _).mono ?_
  rintro e w2 ⟨rfl, hb2⟩
  obtain ⟨hc2, hf2⟩ := bcell hb2
  have hy2 := hb2.size
  try simp at hy2
  have hg2_0 := fun o => hc2 (w.heap.size) o (by first | (simp; done) | (simp; omega) | omega)
  try simp [go_sem] at hg2_0
  have hg2_1 := fun o => hc2 (w.heap.size + 1) o (by first | (simp; done) | (simp; omega) | omega)
  try simp [go_sem] at hg2_1
  have hg2_2 := fun o => hc2 (w.heap.size + 1 + 1) o (by first | (simp; done) | (simp; omega) | omega)
  try simp [go_sem] at hg2_2
  have hk2_2 := fun o => hf2 (w.heap.size + 1 + 1) o (by first | (simp; done) | (simp; omega) | omega)
  try simp [go_sem] at hk2_2
  go_wp2_with fail
  refine (HT.out _).mono ?_
  rintro e w' ⟨rfl, rfl⟩
  have hW2 : Below w.heap.size w w2 := by repeat (first | (with_reducible exact Below.refl _ _) | (with_reducible refine Bal ?_ _) | (with_reducible refine Below.drew ?_) | (with_reducible refine below_drewN ?_ _) | (with_reducible refine Bset ?_ ?_ _; focus (first | (with_reducible exact Nat.le_refl _) | (simp; done) | (simp; omega) | omega)) | (with_reducible refine Bt ?_ (by assumption)) | (with_reducible refine Bp (g := g) ?_ (by assumption) (by assumption)))
  have HW2 := Lib.hid hW2
  have hz2 := hW2.size
  clear hW2
  go_wp2_with fail
  refine (nhh_any _ (lo := lo) (hi := hi) (A := A) (n := n) (ca := c) (e := q) ?_ ?_ (by omega) HA.out).mono ?_
  focus (exact H.out.below hi' HW2.out)
  focus (omega)
  rintro e w3 ⟨HB, g, c3, r, rfl, hPr, hCr, hSt, hb3⟩
  obtain ⟨hc3, hf3⟩ := bcell hb3
  have hy3 := hb3.size
  try simp at hy3
  have hg3_0 := fun o => hc3 (w.heap.size) o (by first | (simp; done) | (simp; omega) | omega)
  try simp [go_sem] at hg3_0
  have hg3_1 := fun o => hc3 (w.heap.size + 1) o (by first | (simp; done) | (simp; omega) | omega)
  try simp [go_sem] at hg3_1
  have hg3_2 := fun o => hc3 (w.heap.size + 1 + 1) o (by first | (simp; done) | (simp; omega) | omega)
  try simp [go_sem] at hg3_2
  have hk3_2 := fun o => hf3 (w.heap.size + 1 + 1) o (by first | (simp; done) | (simp; omega) | omega)
  try simp [go_sem] at hk3_2
  have hHB := hSt.lo
  have hHg := hSt.g_lo
  have hHz := hSt.lt
  have hHy := hSt.g_lt
  have HSt := Lib.hid hSt
  have HPr := Lib.hid hPr
  have HCr := Lib.hid hCr
  have HW3 := Lib.hid (HW2.out.trans (Below.mono hb3 (by omega)))
  clear hSt hPr hCr
  go_wp2_with fail
  refine (HH.out _ HW3.out).mono ?_
  rintro e w4 ⟨rfl, hb4⟩
  obtain ⟨hc4, hf4⟩ := bcell hb4
  have hy4 := hb4.size
  try simp at hy4
  have hg4_0 := fun o => hc4 (w.heap.size) o (by first | (simp; done) | (simp; omega) | omega)
  try simp [go_sem] at hg4_0
  have hg4_1 := fun o => hc4 (w.heap.size + 1) o (by first | (simp; done) | (simp; omega) | omega)
  try simp [go_sem] at hg4_1
  have hg4_2 := fun o => hc4 (w.heap.size + 1 + 1) o (by first | (simp; done) | (simp; omega) | omega)
  try simp [go_sem] at hg4_2
  have hk4_2 := fun o => hf4 (w.heap.size + 1 + 1) o (by first | (simp; done) | (simp; omega) | omega)
  try simp [go_sem] at hk4_2
  have HSt4 := Lib.hid (HSt.out.keep hb4.size (hb4.block _ hHz) (hb4.block _ hHy))
  have HW4 := Lib.hid (HW3.out.trans (Below.mono hb4 (by omega)))
  go_wp2_with fail
  refine (push_any w4 (at_ := ptAt q x.w n) (e := q) (r := r) ⟨x, now⟩ HSt4.out (by omega) hle HA2.out HPr.out HCr.out).mono ?_
  rintro e w5 ⟨⟨v5, rfl⟩, r5, g5, c5, hP5, hC5, hS5, hE5⟩
  have hB5 : Below (w.heap.size + 1 + 1 + 1) w4 w5 := hE5.below (fun k hk => by rcases hk with rfl | rfl <;> omega) (by omega)
  obtain ⟨hc5, hf5⟩ := below_cells hB5
  have hg5_0 := fun o => hc5 (w.heap.size) o (by first | (simp; done) | (simp; omega) | omega)
  try simp [go_sem] at hg5_0
  have hg5_1 := fun o => hc5 (w.heap.size + 1) o (by first | (simp; done) | (simp; omega) | omega)
  try simp [go_sem] at hg5_1
  have hg5_2 := fun o => hc5 (w.heap.size + 1 + 1) o (by first | (simp; done) | (simp; omega) | omega)
  try simp [go_sem] at hg5_2
  have hk5_2 := fun o => hf5 (w.heap.size + 1 + 1) o (by first | (simp; done) | (simp; omega) | omega)
  try simp [go_sem] at hk5_2
  have hz5 := hE5.size
  have hg5 := hS5.g_lo
  have hHz5 := hS5.lt
  have HSt5 := Lib.hid hS5
  have HPr5 := Lib.hid hP5
  have HCr5 := Lib.hid hC5
  have HW5 := Lib.hid (HW4.out.trans (Below.mono hB5 (by omega)))
  clear hS5 hP5 hC5 hE5
  go_upto_region 12 with fail
  refine wp_region_mix (Below (w.heap.size+1+1+1) w5) (by kernel_rfl) (by kernel_rfl) (Below.drew (Below.refl _ _)) ?_
  repeat (first
    | (refine mix_skip rfl ?_; have e0 : True := trivial; clear e0; refine mix_putK ?_; intro K hK; go_simp; refine hK _ ?_; clear hK K)
    | (refine mix_readE rfl rfl rfl ?_; apply Exists.intro; refine ⟨fun w' hb' => ?_, ?_⟩; (focus (obtain ⟨hc', hf'⟩ := below_cells hb'; clear hb'; go_simp; try exact rfl)); have e0 : True := trivial; clear e0; refine mix_putK ?_; intro K hK; go_simp; refine hK _ ?_; clear hK K)
    | (refine mix_pureE rfl rfl ?_; apply Exists.intro; refine ⟨fun w' => ?_, ?_⟩; (focus (go_simp; try exact rfl)); have e0 : True := trivial; clear e0; refine mix_putK ?_; intro K hK; go_simp; refine hK _ ?_; clear hK K)
    | (refine mix_eff rfl rfl ?_; go_wp2_with ((go_at_call 49; refine (ino_any _ (n := n + 1) HSt5.out.drew (by omega) HA2.out HPr5.out HCr5.out).mono ?_; rintro e w7 ⟨A7, c7, rfl, hO7, hE7⟩; have hB7 : Below (w.heap.size + 1 + 1 + 1) w5 w7 := Below.trans (Below.drew (Below.refl _ _)) (hE7.below (fun k hk => by rcases hk with rfl | rfl <;> omega) (by simp; omega)); obtain ⟨hc7, hf7⟩ := below_cells hB7; have hg7 := fun o => hc7 (w.heap.size + 1 + 1) o (by omega); have hk7 := fun o => hf7 (w.heap.size + 1 + 1) o (by omega); (try simp [go_sem] at hg7); (try simp [go_sem] at hk7))); refine then_mix rfl ?_ ?_; (focus (first | (intro h; have h2 : false = true := h; cases h2) | (intro _; assumption) | (intro _; exact Below.drew (by assumption)) | (intro _; repeat (first | (with_reducible exact Below.refl _ _) | (with_reducible refine Bal ?_ _) | (with_reducible refine Below.drew ?_) | (with_reducible refine below_drewN ?_ _) | (with_reducible refine Bset ?_ ?_ _; focus (first | (with_reducible exact Nat.le_refl _) | (simp; done) | (simp; omega) | omega)) | (with_reducible refine Bt ?_ (by assumption)) | (with_reducible refine Bp (g := g) ?_ (by assumption) (by assumption))))))))
  refine mix_nil ?_
  go_wp2_with fail
  refine bodyPost_ret (v := .tuple #[.agg #[.int .i64 y, .int .i64 d, .slice A7 (n + 1) c7], .int .i64 0]) ?_ rfl ?_
  · simp only [results, Try.results26]
    go_simp
  have hW7 := HW5.out.trans (Below.mono hB7 (by omega))
  have hs7 := hE7.size
  simp at hs7
  refine PutRet.fine HK.out ?_ ?_
  · exact RowOwn.wide (RowOwn.setC (Or.inl (by simp; omega)) (RowOwn.setC (Or.inl (by simp; omega)) (RowOwn.setC (Or.inl (by simp; omega)) hO7 _) _) _) (by simp; omega) (by simp)
  · exact Bset (by simp; omega) (Bset (by simp; omega) (Bset (by simp; omega) hW7 _) _) _
end Go.Proofs.Ytegdogamenoaiaa
