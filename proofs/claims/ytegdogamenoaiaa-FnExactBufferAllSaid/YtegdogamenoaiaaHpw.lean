/- The heap of packets that are held: its methods behind the interface, and container/heap over it. -/
import Derived.Test.YtegdogamenoaiaaHdr7
import Derived.Test.YtegdogamenoaiaaHpT
import Derived.Deep.DeepCutAuto
namespace Go.Proofs.Ytegdogamenoaiaa
open Go Go.RowKit
set_option linter.unusedVariables false
set_option linter.unusedSimpArgs false
theorem my_ti {P : Program} {w : World} {t : TypeId} {i : TypeInfo} (h : P.info? t = some i) : (typeInfo t).run P w = .ok i w := by
  simp [typeInfo, h]
theorem wrap_nil {P : Program} {w : World} (ts : Array TypeId) (t : TypeId) (a : Addr) (x y : String) : (Builtin.ssaWrapNilChk_ ts t #[.pointer (some a), strVal x, strVal y]).run P w = .ok (.pointer (some a)) w := rfl
theorem run_method_val {P : Program} {w : World} {t elem : TypeId} {name : String} {i : TypeInfo} {m : Method} {f : FuncId} {a : Addr} {x : Value} (fuel : Nat)
    (hi : P.info? t = some i) (hm : i.methods.find? (·.name == name) = some m) (hp : m.path = #[]) (hf : m.func = some (f, false)) (hu : P.underlying t = some (.pointer elem))
    (hg : (isAgg elem).run P w = .ok false w) (hc : w.cell? a = some x) : (method (fuel + 1) t (.pointer (some a)) name).run P w = .ok (f, x) w := by
  unfold method
  simp only [Sem.run_bind, my_ti hi, Result.andThen_ok]
  simp [hm, hp, follow, Place.get, hf, receiverAt, run_underlying hu, wrap_nil, asAddr, loadVar, hg, hc]
theorem run_method_ptr {P : Program} {w : World} {t elem : TypeId} {name : String} {i : TypeInfo} {m : Method} {f : FuncId} {a : Addr} (fuel : Nat)
    (hi : P.info? t = some i) (hm : i.methods.find? (·.name == name) = some m) (hp : m.path = #[]) (hf : m.func = some (f, true)) (hu : P.underlying t = some (.pointer elem)) :
    (method (fuel + 1) t (.pointer (some a)) name).run P w = .ok (f, .pointer (some a)) w := by
  unfold method
  simp only [Sem.run_bind, my_ti hi, Result.andThen_ok]
  simp [hm, hp, follow, Place.get, hf, receiverAt, run_underlying hu]
theorem find_of {P : Program} {t : TypeId} {name : String} {f : FuncId} {b : Bool} (h : ((P.info? t).bind fun i => (i.methods.find? (·.name == name)).map fun m => (m.path, m.func)) = some (#[], some (f, b))) :
    ∃ i m, P.info? t = some i ∧ i.methods.find? (·.name == name) = some m ∧ m.path = #[] ∧ m.func = some (f, b) := by
  obtain ⟨i, h1, h2⟩ := Option.bind_eq_some_iff.1 h
  obtain ⟨m, h3, h4⟩ := Option.map_eq_some_iff.1 h2
  simp at h4
  exact ⟨i, m, h1, h3, h4.1, h4.2⟩
theorem agg66 (w : World) : (isAgg 66).run Try.prog w = .ok false w := by kernel_rfl
theorem m_len (w : World) (HB : Nat) (x : Value) (h : w.cell? ⟨HB, 0, none⟩ = some x) : (method 212 64 (.pointer (some ⟨HB, 0, none⟩)) "Len").run Try.prog w = .ok (87, x) w := by
  obtain ⟨i, m, h1, h2, h3, h4⟩ := find_of (P := Try.prog) (t := 64) (name := "Len") (f := 87) (b := false) (by kernel_rfl)
  exact run_method_val (212 - 1) h1 h2 h3 h4 Try.underlying64 (agg66 w) h
theorem m_less (w : World) (HB : Nat) (x : Value) (h : w.cell? ⟨HB, 0, none⟩ = some x) : (method 212 64 (.pointer (some ⟨HB, 0, none⟩)) "Less").run Try.prog w = .ok (88, x) w := by
  obtain ⟨i, m, h1, h2, h3, h4⟩ := find_of (P := Try.prog) (t := 64) (name := "Less") (f := 88) (b := false) (by kernel_rfl)
  exact run_method_val (212 - 1) h1 h2 h3 h4 Try.underlying64 (agg66 w) h
theorem m_swap (w : World) (HB : Nat) (x : Value) (h : w.cell? ⟨HB, 0, none⟩ = some x) : (method 212 64 (.pointer (some ⟨HB, 0, none⟩)) "Swap").run Try.prog w = .ok (91, x) w := by
  obtain ⟨i, m, h1, h2, h3, h4⟩ := find_of (P := Try.prog) (t := 64) (name := "Swap") (f := 91) (b := false) (by kernel_rfl)
  exact run_method_val (212 - 1) h1 h2 h3 h4 Try.underlying64 (agg66 w) h
theorem m_pop (w : World) (HB : Nat) : (method 212 64 (.pointer (some ⟨HB, 0, none⟩)) "Pop").run Try.prog w = .ok (89, .pointer (some ⟨HB, 0, none⟩)) w := by
  obtain ⟨i, m, h1, h2, h3, h4⟩ := find_of (P := Try.prog) (t := 64) (name := "Pop") (f := 89) (b := true) (by kernel_rfl)
  exact run_method_ptr (212 - 1) h1 h2 h3 h4 Try.underlying64
theorem m_push (w : World) (HB : Nat) : (method 212 64 (.pointer (some ⟨HB, 0, none⟩)) "Push").run Try.prog w = .ok (90, .pointer (some ⟨HB, 0, none⟩)) w := by
  obtain ⟨i, m, h1, h2, h3, h4⟩ := find_of (P := Try.prog) (t := 64) (name := "Push") (f := 90) (b := true) (by kernel_rfl)
  exact run_method_ptr (212 - 1) h1 h2 h3 h4 Try.underlying64

/-- The heap lies in HB; its n packets, q, in a row of the call's own, in block g. -/
structure HpSt (lo HB g n c : Nat) (q : Nat → Hd) (w : World) : Prop where
  cell : w.cell? ⟨HB, 0, none⟩ = some (.slice (some ⟨g, 0, none⟩) n c)
  free : w.frozen? ⟨HB, 0, none⟩ = false
  row : RowOwn 54 w lo w.heap.size (some ⟨g, 0, none⟩) n c 7 (HdF q)
  ne : HB ≠ g
  lt : HB < w.heap.size
  lo : lo ≤ HB
theorem HpSt.g_lt {lo HB g n c : Nat} {q : Nat → Hd} {w : World} (h : HpSt lo HB g n c q w) : g < w.heap.size := by
  rcases RowOwn.cases h.row with ⟨e', _⟩ | ⟨g', e', _, _, h, _⟩
  · cases e'
  · cases e'; exact h
theorem HpSt.g_lo {lo HB g n c : Nat} {q : Nat → Hd} {w : World} (h : HpSt lo HB g n c q w) : lo ≤ g := by
  rcases RowOwn.cases h.row with ⟨e', _⟩ | ⟨g', e', h, _⟩
  · cases e'
  · cases e'; exact h
theorem HpSt.drew {lo HB g n c : Nat} {q : Nat → Hd} {w : World} (h : HpSt lo HB g n c q w) : HpSt lo HB g n c q w.drew := ⟨h.cell, h.free, h.row, h.ne, h.lt, h.lo⟩
theorem HpSt.congr {lo HB g n c : Nat} {q q' : Nat → Hd} {w : World} (h : HpSt lo HB g n c q w) (e : ∀ k, k < n → q k = q' k) : HpSt lo HB g n c q' w :=
  ⟨h.cell, h.free, h.row.congr (RowF_congr (by decide) e), h.ne, h.lt, h.lo⟩
theorem HpSt.turn {lo HB g n c : Nat} {q q' : Nat → Hd} {w w' : World} (h : HpSt lo HB g n c q w) {hh : Nat} (hr : RowOwn 54 w' lo hh (some ⟨g, 0, none⟩) n c 7 (HdF q')) (hG : w.grownBy w' (some g)) (hs : w'.heap.size = w.heap.size) : HpSt lo HB g n c q' w' := by
  have hb := hG.block HB h.lt (fun e => h.ne (by cases e; rfl))
  exact ⟨by simp only [World.cell?, hb]; exact h.cell, by simp only [World.frozen?, hb]; exact h.free, RowOwn.made hr.1, h.ne, by have := h.lt; omega, h.lo⟩
theorem grown_drew {w w' : World} {r : Option Nat} (h : w.grownBy w' r) : w.grownBy w'.drew r := ⟨h.os, h.tape, h.output, h.size, h.block⟩
theorem kids {m i j : Nat} {r : Nat → Nat} (h1 : r j ≤ r (2 * i + 1)) (h2 : 2 * i + 2 < m → r j ≤ r (2 * i + 2)) : ∀ k, 0 < k → k < m → (k - 1) / 2 = i → r j ≤ r k := by
  intro k h3 h4 h5
  rcases (by omega : k = 2 * i + 1 ∨ k = 2 * i + 2) with rfl | rfl
  · exact h1
  · exact h2 h4
def EAsc (N : Nat) (e : Nat → Hd) : Prop := ∀ a b, a < b → b < N → (e a).p.w < (e b).p.w
theorem EAsc.lt {N : Nat} {e : Nat → Hd} (h : EAsc N e) {a b : Nat} (ha : a < N) (hb : b < N) (hab : a < b) : (e a).p.w < (e b).p.w := h a b hab hb
theorem EAsc.le {N : Nat} {e : Nat → Hd} (h : EAsc N e) {a b : Nat} (ha : a < N) (hb : b < N) (hab : ¬ a < b) : (e b).p.w ≤ (e a).p.w := by
  rcases Nat.lt_or_ge b a with h1 | h1
  · have := h b a h1 ha; omega
  · obtain rfl : a = b := by omega
    exact Int.le_refl _
theorem swap_e (e : Nat → Hd) (r : Nat → Nat) (i j k : Nat) : updE (updE (fun k => e (r k)) i (e (r j))) j (e (r i)) k = e (swapR r i j k) := by
  unfold updE swapR
  by_cases h1 : k = j
  · by_cases h2 : k = i
    · subst h1; subst h2; simp
    · simp [h1, h2]
      have : ¬ j = i := fun e => h2 (h1.trans e)
      simp [this]
  · simp [h1]
    split <;> rfl
theorem HP.dn {m : Nat} {r : Nat → Nat} (h : HP m r) (i : Nat) : HDn m r i := by
  refine ⟨fun k h1 h2 _ => h k h1 h2, fun hi k h1 h2 e => ?_⟩
  have a := h k h1 h2
  rw [e] at a
  exact Nat.le_trans (h i hi (by omega)) a
theorem less_t (w : World) {g n c i j : Nat} {x y : Int} (hi : i < n) (hj : j < n) (hn : n ≤ 1000) (ci : w.cell? ⟨g, i * 7, none⟩ = some (.int .i64 x)) (cj : w.cell? ⟨g, j * 7, none⟩ = some (.int .i64 y)) (hg : g < w.heap.size) (h : x < y) :
    Calls Try.prog 88 #[.slice (some ⟨g, 0, none⟩) n c, .int .i64 i, .int .i64 j] w fun e w' => e = .returned (.bool true) ∧ w.drew = w' :=
  (less_any w hi hj hn ci cj hg).mono fun e w' ⟨h1, h2⟩ => ⟨h1.trans (by rw [decide_eq_true h]), h2.symm⟩
theorem less_f (w : World) {g n c i j : Nat} {x y : Int} (hi : i < n) (hj : j < n) (hn : n ≤ 1000) (ci : w.cell? ⟨g, i * 7, none⟩ = some (.int .i64 x)) (cj : w.cell? ⟨g, j * 7, none⟩ = some (.int .i64 y)) (hg : g < w.heap.size) (h : y ≤ x) :
    Calls Try.prog 88 #[.slice (some ⟨g, 0, none⟩) n c, .int .i64 i, .int .i64 j] w fun e w' => e = .returned (.bool false) ∧ w.drew = w' :=
  (less_any w hi hj hn ci cj hg).mono fun e w' ⟨h1, h2⟩ => ⟨h1.trans (by rw [decide_eq_false (by omega)]), h2.symm⟩
theorem len_any (w : World) (A : Option Addr) (n c : Nat) : Calls Try.prog 87 #[.slice A n c] w fun e w' => e = .returned (.int .i64 n) ∧ w = w' := by
  go_enter Try.func87, Try.ntmps87
  go_wp2
  go_ret
  exact ⟨rfl, rfl⟩
def Sifted (lo HB g n c t N m : Nat) (e : Nat → Hd) (r : Nat → Nat) (w : World) (en : Ending) (w' : World) : Prop :=
  (∃ v, en = .returned v) ∧ ∃ r', HP m r' ∧ Cov t N m r' ∧ (∀ k, m ≤ k → r' k = r k) ∧ HpSt lo HB g n c (fun k => e (r' k)) w' ∧ w.grownBy w' (some g) ∧ w'.heap.size = w.heap.size
set_option maxHeartbeats 2000000 in
theorem down_any (w : World) {lo HB g n c m i0 t N : Nat} {e : Nat → Hd} {r0 : Nat → Nat} (h : HpSt lo HB g n c (fun k => e (r0 k)) w) (hm : m ≤ n) (hn : n ≤ 100) (hi0 : i0 ≤ 100) (he : EAsc N e) (hD : HDn m r0 i0) (hC : Cov t N m r0) :
    Calls Try.prog 70 #[.iface 64 (.pointer (some ⟨HB, 0, none⟩)), .int .i64 i0, .int .i64 m] w (Sifted lo HB g n c t N m e r0 w) := by
  have H := Lib.hid h
  have HD0 := Lib.hid hD
  have HC0 := Lib.hid hC
  have HE := Lib.hid he
  clear h hD hC he
  go_enter Try.func70, Try.ntmps70
  go_wp2_with fail
  go_loopw [7] (fun s wr => ∃ (i : Nat) (r : Nat → Nat), i ≤ 100 ∧ s = .int .i64 i ∧ Hid (HDn m r i) ∧ Hid (Cov t N m r) ∧ Hid (∀ k, m ≤ k → r k = r0 k) ∧ Hid (HpSt lo HB g n c (fun k => e (r k)) wr) ∧ Hid (w.grownBy wr (some g)) ∧ wr.heap.size = w.heap.size) (fun s _ => 100 - (intOf s).toNat)
  case atStart => exact ⟨i0, r0, hi0, rfl, HD0, HC0, Lib.hid (fun _ _ => rfl), H, Lib.hid (World.grownBy.refl _ _), rfl⟩
  case round =>
    obtain ⟨i, r, hi, rfl, HD, HC, HR, HSt, HG, hsz⟩ := hrel
    have HSZ := Lib.hid hsz
    clear hsz
    have hRow := HSt.out.row
    have hgl := HSt.out.g_lt
    obtain ⟨J, hJ⟩ : ∃ J : Nat, J = 2 * i + 1 := ⟨_, rfl⟩
    obtain ⟨J2, hJ2⟩ : ∃ J2 : Nat, J2 = 2 * i + 2 := ⟨_, rfl⟩
    have eJ1 : 2 * (i : Int) + 1 = (J : Int) := by omega
    have eJ2 : (J : Int) + 1 = (J2 : Int) := by omega
    have HJ := Lib.hid hJ
    have HJ2 := Lib.hid hJ2
    have ml0 := m_less wr HB _ HSt.out.cell
    by_cases hA : m ≤ J
    · as_aux_lemma =>
      clear ml0 hJ hJ2
      go_wp2_with fail
      go_ret
      exact ⟨⟨_, rfl⟩, r, HD.out.done1 (by rw [← HJ.out]; exact hA), HC.out, HR.out, HSt.out, HG.out, HSZ.out⟩
    · clear hJ hJ2
      have hBb : J ≤ 100 := by omega
      go_upto_region 6 with fail
      have FJn := Lib.hid (show J < n by omega)
      have Fin := Lib.hid (show i < n by have := HJ.out; omega)
      have Fim := Lib.hid (show i < m by have := HJ.out; omega)
      have FLmJ := Lib.hid (show J < m by omega)
      have Fn := Lib.hid (show n ≤ 1000 by omega)
      have RJ := Lib.hid (HC.out.lo J FLmJ.out).2
      have Ri := Lib.hid (HC.out.lo i Fim.out).2
      have cJ := Lib.hid (show wr.cell? ⟨g, J * 7, none⟩ = some (.int .i64 (e (r J)).p.w) from (Hd_own hRow FJn.out).1)
      have ci := Lib.hid (show wr.cell? ⟨g, i * 7, none⟩ = some (.int .i64 (e (r i)).p.w) from (Hd_own hRow Fin.out).1)
      have HROW := Lib.hid hRow
      have HGL := Lib.hid hgl
      clear eJ1 eJ2 hRow hgl hA hBb
      rcases Nat.lt_or_ge J2 m with hB | hB
      · have FJ2n := Lib.hid (show J2 < n by omega)
        have FLmJ2 := Lib.hid hB
        have RJ2 := Lib.hid (HC.out.lo J2 hB).2
        have cJ2 := Lib.hid (show wr.cell? ⟨g, J2 * 7, none⟩ = some (.int .i64 (e (r J2)).p.w) from (Hd_own HROW.out FJ2n.out).1)
        rcases Nat.lt_or_ge (r J2) (r J) with hq | hq
        · have HJ2J := Lib.hid hq
          clear hq
          go_wp2_with fail
          refine (less_t (wr) (i := J2) (j := J) FJ2n.out FJn.out Fn.out cJ2.out cJ.out HGL.out (HE.out.lt RJ2.out RJ.out HJ2J.out)).mono ?_
          rintro en w' ⟨rfl, rfl⟩
          clear ml0
          have mlx := m_less wr.drew HB _ HSt.out.cell
          rcases Nat.lt_or_ge (r J2) (r i) with hq | hq
          · have HJ2i := Lib.hid hq
            clear hq
            go_wp2_with fail
            refine (less_t (wr.drew) (i := J2) (j := i) FJ2n.out Fin.out Fn.out cJ2.out ci.out HGL.out (HE.out.lt RJ2.out Ri.out HJ2i.out)).mono ?_
            rintro en w' ⟨rfl, rfl⟩
            clear mlx
            have msx := m_swap wr.drew.drew HB _ HSt.out.cell
            go_wp2_with fail
            refine (swap_any (wr.drew.drew) (i := i) (j := J2) (q := fun k => e (r k)) Fin.out FJ2n.out Fn.out (RowOwn.wide HROW.out (Nat.le_refl _) (Nat.le_refl _))).mono ?_
            rintro en w3 ⟨⟨v3, rfl⟩, hO3, hG3, hs3⟩
            have hG3' : wr.grownBy w3 (some g) := ⟨hG3.os, hG3.tape, hG3.output, hG3.size, hG3.block⟩
            have hs3' : w3.heap.size = wr.heap.size := hs3
            have hSt3 := Lib.hid ((HpSt.turn HSt.out hO3 hG3' hs3').congr fun k _ => swap_e e r i J2 k)
            have HS3 := Lib.hid (hs3'.trans HSZ.out)
            have HG3 := Lib.hid (HG.out.trans hG3')
            clear hO3 hG3 hs3 hG3' hs3' msx
            go_wp2_with fail
            go_roundw
            case rel => exact ⟨J2, _, by have := FJ2n.out; omega, rfl, Lib.hid (HD.out.step (.inr HJ2.out) FLmJ2.out HJ2i.out (kids (by rw [← HJ.out]; exact Nat.le_of_lt HJ2J.out) (fun _ => by rw [← HJ2.out]; exact Nat.le_refl _))), Lib.hid (HC.out.swap Fim.out FLmJ2.out), Lib.hid (fun k hk => (swapR_o r (by have := Fim.out; omega) (by have := FLmJ2.out; omega)).trans (HR.out k hk)), hSt3, HG3, HS3.out⟩
            case measure => simp [intOf]; have := HJ.out; have := HJ2.out; have := FJ2n.out; omega
          · have HJ2i := Lib.hid (show ¬ r J2 < r i by omega)
            clear hq
            go_wp2_with fail
            refine (less_f (wr.drew) (i := J2) (j := i) FJ2n.out Fin.out Fn.out cJ2.out ci.out HGL.out (HE.out.le RJ2.out Ri.out HJ2i.out)).mono ?_
            rintro en w' ⟨rfl, rfl⟩
            clear mlx
            go_wp2_with fail
            go_ret
            exact ⟨⟨_, rfl⟩, r, (HD.out.done (by rw [← HJ.out]; have := HJ2i.out; have := HJ2J.out; omega) (fun _ => by rw [← HJ2.out]; have := HJ2i.out; omega)), HC.out, HR.out, HSt.out.drew.drew, (grown_drew (grown_drew HG.out)), HSZ.out⟩
        · have HJ2J := Lib.hid (show ¬ r J2 < r J by omega)
          clear hq
          go_wp2_with fail
          refine (less_f (wr) (i := J2) (j := J) FJ2n.out FJn.out Fn.out cJ2.out cJ.out HGL.out (HE.out.le RJ2.out RJ.out HJ2J.out)).mono ?_
          rintro en w' ⟨rfl, rfl⟩
          clear ml0
          have mlx := m_less wr.drew HB _ HSt.out.cell
          rcases Nat.lt_or_ge (r J) (r i) with hq | hq
          · have HJi := Lib.hid hq
            clear hq
            go_wp2_with fail
            refine (less_t (wr.drew) (i := J) (j := i) FJn.out Fin.out Fn.out cJ.out ci.out HGL.out (HE.out.lt RJ.out Ri.out HJi.out)).mono ?_
            rintro en w' ⟨rfl, rfl⟩
            clear mlx
            have msx := m_swap wr.drew.drew HB _ HSt.out.cell
            go_wp2_with fail
            refine (swap_any (wr.drew.drew) (i := i) (j := J) (q := fun k => e (r k)) Fin.out FJn.out Fn.out (RowOwn.wide HROW.out (Nat.le_refl _) (Nat.le_refl _))).mono ?_
            rintro en w3 ⟨⟨v3, rfl⟩, hO3, hG3, hs3⟩
            have hG3' : wr.grownBy w3 (some g) := ⟨hG3.os, hG3.tape, hG3.output, hG3.size, hG3.block⟩
            have hs3' : w3.heap.size = wr.heap.size := hs3
            have hSt3 := Lib.hid ((HpSt.turn HSt.out hO3 hG3' hs3').congr fun k _ => swap_e e r i J k)
            have HS3 := Lib.hid (hs3'.trans HSZ.out)
            have HG3 := Lib.hid (HG.out.trans hG3')
            clear hO3 hG3 hs3 hG3' hs3' msx
            go_wp2_with fail
            go_roundw
            case rel => exact ⟨J, _, by have := FJn.out; omega, rfl, Lib.hid (HD.out.step (.inl HJ.out) FLmJ.out HJi.out (kids (by rw [← HJ.out]; exact Nat.le_refl _) (fun _ => by rw [← HJ2.out]; exact Nat.not_lt.1 HJ2J.out))), Lib.hid (HC.out.swap Fim.out FLmJ.out), Lib.hid (fun k hk => (swapR_o r (by have := Fim.out; omega) (by have := FLmJ.out; omega)).trans (HR.out k hk)), hSt3, HG3, HS3.out⟩
            case measure => simp [intOf]; have := HJ.out; have := HJ2.out; have := FJn.out; omega
          · have HJi := Lib.hid (show ¬ r J < r i by omega)
            clear hq
            go_wp2_with fail
            refine (less_f (wr.drew) (i := J) (j := i) FJn.out Fin.out Fn.out cJ.out ci.out HGL.out (HE.out.le RJ.out Ri.out HJi.out)).mono ?_
            rintro en w' ⟨rfl, rfl⟩
            clear mlx
            go_wp2_with fail
            go_ret
            exact ⟨⟨_, rfl⟩, r, (HD.out.done (by rw [← HJ.out]; have := HJi.out; omega) (fun _ => by rw [← HJ2.out]; have := HJi.out; have := HJ2J.out; omega)), HC.out, HR.out, HSt.out.drew.drew, (grown_drew (grown_drew HG.out)), HSZ.out⟩
      · have hBl : m ≤ J2 := hB
        have hBd : decide (J2 < m) = false := decide_eq_false (by omega)
        clear hB
        have FBl := Lib.hid hBl
        have mlx := ml0
        clear ml0
        rcases Nat.lt_or_ge (r J) (r i) with hq | hq
        · have HJi := Lib.hid hq
          clear hq
          go_wp2_with fail
          refine (less_t (wr) (i := J) (j := i) FJn.out Fin.out Fn.out cJ.out ci.out HGL.out (HE.out.lt RJ.out Ri.out HJi.out)).mono ?_
          rintro en w' ⟨rfl, rfl⟩
          clear mlx
          have msx := m_swap wr.drew HB _ HSt.out.cell
          go_wp2_with fail
          refine (swap_any (wr.drew) (i := i) (j := J) (q := fun k => e (r k)) Fin.out FJn.out Fn.out (RowOwn.wide HROW.out (Nat.le_refl _) (Nat.le_refl _))).mono ?_
          rintro en w3 ⟨⟨v3, rfl⟩, hO3, hG3, hs3⟩
          have hG3' : wr.grownBy w3 (some g) := ⟨hG3.os, hG3.tape, hG3.output, hG3.size, hG3.block⟩
          have hs3' : w3.heap.size = wr.heap.size := hs3
          have hSt3 := Lib.hid ((HpSt.turn HSt.out hO3 hG3' hs3').congr fun k _ => swap_e e r i J k)
          have HS3 := Lib.hid (hs3'.trans HSZ.out)
          have HG3 := Lib.hid (HG.out.trans hG3')
          clear hO3 hG3 hs3 hG3' hs3' msx
          go_wp2_with fail
          go_roundw
          case rel => exact ⟨J, _, by have := FJn.out; omega, rfl, Lib.hid (HD.out.step (.inl HJ.out) FLmJ.out HJi.out (kids (by rw [← HJ.out]; exact Nat.le_refl _) (fun hq => by have := HJ2.out; have := FBl.out; omega))), Lib.hid (HC.out.swap Fim.out FLmJ.out), Lib.hid (fun k hk => (swapR_o r (by have := Fim.out; omega) (by have := FLmJ.out; omega)).trans (HR.out k hk)), hSt3, HG3, HS3.out⟩
          case measure => simp [intOf]; have := HJ.out; have := HJ2.out; have := FJn.out; omega
        · have HJi := Lib.hid (show ¬ r J < r i by omega)
          clear hq
          go_wp2_with fail
          refine (less_f (wr) (i := J) (j := i) FJn.out Fin.out Fn.out cJ.out ci.out HGL.out (HE.out.le RJ.out Ri.out HJi.out)).mono ?_
          rintro en w' ⟨rfl, rfl⟩
          clear mlx
          go_wp2_with fail
          go_ret
          exact ⟨⟨_, rfl⟩, r, (HD.out.done (by rw [← HJ.out]; have := HJi.out; omega) (fun hq => by have := HJ2.out; have := FBl.out; omega)), HC.out, HR.out, HSt.out.drew, (grown_drew HG.out), HSZ.out⟩
end Go.Proofs.Ytegdogamenoaiaa
