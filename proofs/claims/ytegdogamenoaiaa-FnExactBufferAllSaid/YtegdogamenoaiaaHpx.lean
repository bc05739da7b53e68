/- container/heap over the program's heap of packets: Init, up, Pop; what the heap's own Pop leaves. -/
import Derived.Test.YtegdogamenoaiaaHpw
namespace Go.Proofs.Ytegdogamenoaiaa
open Go Go.RowKit
set_option linter.unusedVariables false
set_option linter.unusedSimpArgs false
theorem RowOwn.cut {e : TypeId} {w : World} {lo hi n m c sz g : Nat} {f : Nat → Value} (h : RowOwn e w lo hi (some ⟨g, 0, none⟩) n c sz f) (hm : m ≤ n) : RowOwn e w lo hi (some ⟨g, 0, none⟩) m c sz f := by
  refine ⟨⟨by simp, ?_⟩, fun q hq => h.2 q hq⟩
  rcases h.1.2 with ⟨h3, _⟩ | ⟨g', cap, cur, hv, hlo, hg, hnc, hcap, hsz, ht⟩
  · cases h3
  · simp only [Value.slice.injEq, true_and, Option.some.injEq] at hv
    obtain ⟨hv1, rfl⟩ := hv
    cases hv1
    refine .inr ⟨g, _, cur, rfl, hlo, hg, by omega, hcap, hsz, ?_⟩
    have h1 : m * sz ≤ n * sz := Nat.mul_le_mul_right _ hm
    have h2 : cur.toList.take (m * sz) = (cur.toList.take (n * sz)).take (m * sz) := by rw [List.take_take, Nat.min_eq_left h1]
    rw [h2, ht]
    apply List.ext_getElem?
    intro i
    by_cases hi : i < m * sz
    · simp [List.getElem?_take, hi, show i < n * sz by omega]
    · simp [List.getElem?_take, hi]
theorem RowOwn.other {e : TypeId} {w : World} {lo hi n c sz g : Nat} {f : Nat → Value} {p : Addr} (hp : p.block ≠ g) (h : RowOwn e w lo hi (some ⟨g, 0, none⟩) n c sz f) (u : Value) : RowOwn e (w.setCell p u) lo hi (some ⟨g, 0, none⟩) n c sz f :=
  ⟨h.1.kept (grown_setCell w p u) (.inr (by intro e; simp [Value.ownBlock] at e; first | exact hp e | exact hp e.symm)), h.2⟩
theorem Exc.alloc {X : Nat → Prop} {w w' : World} (h : Exc X w w') (o : Obj) : Exc X w (w'.alloc o) :=
  h.trans ⟨rfl, rfl, rfl, by simp, fun k hk _ => Below.heap_alloc _ _ _ hk⟩
theorem Exc.grown {X : Nat → Prop} {w w' w2 : World} {g : Nat} (h : Exc X w w') (hX : X g) (hG : w'.grownBy w2 (some g)) : Exc X w w2 :=
  h.trans ⟨hG.os, hG.tape, hG.output, hG.size, fun k hk hx => hG.block k hk (fun e => hx (by cases e; exact hX))⟩
theorem Exc.drew {X : Nat → Prop} {w w' : World} (h : Exc X w w') : Exc X w w'.drew := ⟨h.os, h.tape, h.output, h.size, h.block⟩
set_option maxHeartbeats 2000000 in
theorem up_any (w : World) {lo HB g n c j0 t N : Nat} {e : Nat → Hd} {r0 : Nat → Nat} (h : HpSt lo HB g n c (fun k => e (r0 k)) w) (hn : n ≤ 100) (hj0 : j0 < n) (he : EAsc N e) (hD : HUp n r0 j0) (hC : Cov t N n r0) :
    Calls Try.prog 69 #[.iface 64 (.pointer (some ⟨HB, 0, none⟩)), .int .i64 j0] w (Sifted lo HB g n c t N n e r0 w) := by
  have H := Lib.hid h
  have HD0 := Lib.hid hD
  have HC0 := Lib.hid hC
  have HE := Lib.hid he
  clear h hD hC he
  go_enter Try.func69, Try.ntmps69
  go_wp2_with fail
  go_loopw [1] (fun s wr => ∃ (j : Nat) (r : Nat → Nat), j < n ∧ s = .int .i64 j ∧ Hid (HUp n r j) ∧ Hid (Cov t N n r) ∧ Hid (∀ k, n ≤ k → r k = r0 k) ∧ Hid (HpSt lo HB g n c (fun k => e (r k)) wr) ∧ Hid (w.grownBy wr (some g)) ∧ wr.heap.size = w.heap.size) (fun s _ => (intOf s).toNat)
  case atStart => exact ⟨j0, r0, hj0, rfl, HD0, HC0, Lib.hid (fun _ _ => rfl), H, Lib.hid (World.grownBy.refl _ _), rfl⟩
  case round =>
    obtain ⟨j, r, hj, rfl, HD, HC, HR, HSt, HG, hsz⟩ := hrel
    have HSZ := Lib.hid hsz
    clear hsz
    rcases Nat.eq_zero_or_pos j with rfl | hjp
    · go_wp2_with fail
      exact bodyPost_end (v := .tuple #[]) (by simp [results, Try.results69, go_sem]) rfl ⟨⟨_, rfl⟩, r, HD.out.done0, HC.out, HR.out, HSt.out, HG.out, HSZ.out⟩
    · obtain ⟨I, hI⟩ : ∃ I : Nat, I = (j - 1) / 2 := ⟨_, rfl⟩
      have eI : ((j : Int) - 1) / 2 = (I : Int) := by omega
      have HI := Lib.hid hI
      have FIj := Lib.hid (show I < j by omega)
      have HJP := Lib.hid hjp
      clear hI
      have ml0 := m_less wr HB _ HSt.out.cell
      go_upto_region 1 with fail
      rw [eI]
      clear eI hjp
      have hne1 : ((I : Int) == (j : Int)) = false := by have := FIj.out; simp; omega
      have hne2 : (I == j) = false := by have := FIj.out; simp; omega
      have hne3 : ¬ (I = j) := by have := FIj.out; omega
      have hne4 : decide (I = j) = false := decide_eq_false hne3
      have hne5 : ¬ ((I : Int) = (j : Int)) := by have := FIj.out; omega
      have hne6 : decide ((I : Int) = (j : Int)) = false := decide_eq_false hne5
      have Fjn := Lib.hid hj
      have FIn := Lib.hid (show I < n by have := FIj.out; omega)
      have Fn := Lib.hid (show n ≤ 1000 by omega)
      have Rj := Lib.hid (HC.out.lo j hj).2
      have RI := Lib.hid (HC.out.lo I FIn.out).2
      have cj := Lib.hid (show wr.cell? ⟨g, j * 7, none⟩ = some (.int .i64 (e (r j)).p.w) from (Hd_own HSt.out.row hj).1)
      have cI := Lib.hid (show wr.cell? ⟨g, I * 7, none⟩ = some (.int .i64 (e (r I)).p.w) from (Hd_own HSt.out.row FIn.out).1)
      have HROW := Lib.hid HSt.out.row
      have HGL := Lib.hid HSt.out.g_lt
      rcases Nat.lt_or_ge (r j) (r I) with hq | hq
      · have HjI := Lib.hid hq
        clear hq
        go_wp2_with fail
        refine (less_t (wr) (i := j) (j := I) Fjn.out FIn.out Fn.out cj.out cI.out HGL.out (HE.out.lt Rj.out RI.out HjI.out)).mono ?_
        rintro en w' ⟨rfl, rfl⟩
        clear ml0
        have msx := m_swap wr.drew HB _ HSt.out.cell
        go_wp2_with fail
        refine (swap_any (wr.drew) (i := I) (j := j) (q := fun k => e (r k)) FIn.out Fjn.out Fn.out (RowOwn.wide HROW.out (Nat.le_refl _) (Nat.le_refl _))).mono ?_
        rintro en w3 ⟨⟨v3, rfl⟩, hO3, hG3, hs3⟩
        have hG3' : wr.grownBy w3 (some g) := ⟨hG3.os, hG3.tape, hG3.output, hG3.size, hG3.block⟩
        have hs3' : w3.heap.size = wr.heap.size := hs3
        have hSt3 := Lib.hid ((HpSt.turn HSt.out hO3 hG3' hs3').congr fun k _ => swap_e e r I j k)
        have HS3 := Lib.hid (hs3'.trans HSZ.out)
        have HG3 := Lib.hid (HG.out.trans hG3')
        clear hO3 hG3 hs3 hG3' hs3' msx
        go_wp2_with fail
        go_roundw
        case rel =>
          have hst := HD.out.step HJP.out hj (by rw [← HI.out]; exact HjI.out)
          rw [← HI.out] at hst
          exact ⟨I, _, FIn.out, rfl, Lib.hid hst, Lib.hid (HC.out.swap FIn.out hj), Lib.hid (fun k hk => (swapR_o r (by have := FIn.out; omega) (by omega)).trans (HR.out k hk)), hSt3, HG3, HS3.out⟩
        case measure => simp [intOf]; have := FIj.out; omega
      · have HjI := Lib.hid (show ¬ r j < r I by omega)
        clear hq
        go_wp2_with fail
        refine (less_f (wr) (i := j) (j := I) Fjn.out FIn.out Fn.out cj.out cI.out HGL.out (HE.out.le Rj.out RI.out HjI.out)).mono ?_
        rintro en w' ⟨rfl, rfl⟩
        clear ml0
        go_wp2_with fail
        exact bodyPost_end (v := .tuple #[]) (by simp [results, Try.results69, go_sem]) rfl ⟨⟨_, rfl⟩, r, HD.out.done (by rw [← HI.out]; exact Nat.not_lt.1 HjI.out), HC.out, HR.out, HSt.out.drew, grown_drew HG.out, HSZ.out⟩
def Heaped (lo HB g n c t N : Nat) (e : Nat → Hd) (w : World) (en : Ending) (w' : World) : Prop :=
  (∃ v, en = .returned v) ∧ ∃ r', HP n r' ∧ Cov t N n r' ∧ HpSt lo HB g n c (fun k => e (r' k)) w' ∧ w.grownBy w' (some g) ∧ w'.heap.size = w.heap.size
set_option maxHeartbeats 2000000 in
theorem init_any (w : World) {lo HB g n c t N : Nat} {e : Nat → Hd} {r0 : Nat → Nat} (h : HpSt lo HB g n c (fun k => e (r0 k)) w) (hn : n ≤ 100) (he : EAsc N e) (hP : HP n r0) (hC : Cov t N n r0) :
    Calls Try.prog 65 #[.iface 64 (.pointer (some ⟨HB, 0, none⟩))] w (Heaped lo HB g n c t N e w) := by
  have H := Lib.hid h
  have HP0 := Lib.hid hP
  have HC0 := Lib.hid hC
  have HE := Lib.hid he
  clear h hP hC he
  have ml := m_len w HB _ H.out.cell
  go_enter Try.func65, Try.ntmps65
  go_wp2_with fail
  refine (len_any _ _ _ _).mono ?_
  rintro en w' ⟨rfl, rfl⟩
  clear ml
  obtain ⟨K, hK⟩ : ∃ K : Nat, K = n / 2 := ⟨_, rfl⟩
  have eK : (n : Int) / 2 = (K : Int) := by omega
  have FK := Lib.hid (show K ≤ n by omega)
  have hKb : K ≤ 100 := by omega
  clear hK
  go_wp2_with fail
  clear eK
  go_loopw [3] (fun s wr => ∃ (k : Nat) (r : Nat → Nat), k ≤ 100 ∧ s = .int .i64 ((k : Int) - 1) ∧ Hid (HP n r) ∧ Hid (Cov t N n r) ∧ Hid (HpSt lo HB g n c (fun k => e (r k)) wr) ∧ Hid (w.grownBy wr (some g)) ∧ wr.heap.size = w.heap.size) (fun s _ => (intOf s + 1).toNat)
  case atStart => exact ⟨K, r0, hKb, rfl, HP0, HC0, H, Lib.hid (World.grownBy.refl _ _), rfl⟩
  case round =>
    obtain ⟨k, r, hk, rfl, HPr, HC, HSt, HG, hsz⟩ := hrel
    have HSZ := Lib.hid hsz
    clear hsz
    rcases k with _ | k
    · go_wp2_with fail
      exact bodyPost_end (v := .tuple #[]) (by simp [results, Try.results65, go_sem]) rfl ⟨⟨_, rfl⟩, r, HPr.out, HC.out, HSt.out, HG.out, HSZ.out⟩
    · go_wp2_with fail
      refine (down_any _ HSt.out (Nat.le_refl _) hn (by omega) HE.out (HPr.out.dn k) HC.out).mono ?_
      rintro en w2 ⟨⟨v2, rfl⟩, r', hp', hc', hr', hst', hg', hs'⟩
      have A1 := Lib.hid hp'
      have A2 := Lib.hid hc'
      have A3 := Lib.hid hst'
      have A4 := Lib.hid (HG.out.trans hg')
      have A5 := Lib.hid (hs'.trans HSZ.out)
      clear hp' hc' hr' hst' hg' hs'
      go_wp2_with fail
      go_roundw
      case rel => exact ⟨k, r', by omega, rfl, A1, A2, A3, A4, A5.out⟩
      case measure => (simp [intOf]; try omega)
set_option maxHeartbeats 2000000 in
theorem mpop_any (w : World) {lo HB g m c : Nat} {q : Nat → Hd} (h : HpSt lo HB g (m + 1) c q w) (hm : m ≤ 100) :
    Calls Try.prog 89 #[.pointer (some ⟨HB, 0, none⟩)] w fun en w' => (∃ v, en = .returned v) ∧ HpSt lo HB g m c q w' ∧ Exc (fun k => k = HB ∨ k = g) w w' := by
  have hc := h.cell
  have hf := h.free
  obtain ⟨a0, a1, a2, a3, a4, a5, a6⟩ := Hd_own h.row (show m < m + 1 by omega)
  have hmc : m + 1 ≤ c := by
    rcases RowOwn.cases h.row with ⟨e', _⟩ | ⟨g', e', _, _, _, h, _⟩
    · cases e'
    · exact h
  have hmc' : m ≤ c := by omega
  have hgl := h.g_lt
  have hl := h.lt
  have hne := h.ne
  have H := Lib.hid h
  clear h
  go_enter Try.func89, Try.ntmps89
  go_wp2_with fail
  refine bodyPost_retE rfl ?_
  apply Exists.intro
  refine ⟨?_, ?_⟩
  · simp only [results, Try.results89]
    go_simp
    first | done | rfl
  go_light
  have h1 := ((H.out.row.cut (m := m) (by omega)).other (p := ⟨HB, 0, none⟩) H.out.ne (.slice (some ⟨g, 0, none⟩) m c)).alloc (.cells #[.int .i64 (q m).p.w, .int .i64 (q m).p.t, .int .i64 (q m).p.l, .int .i64 (q m).p.s, .bool (q m).p.k, .bool (q m).p.z, .int .i64 (q m).c] 54)
  exact ⟨⟨_, rfl⟩, ⟨by go_simp, by go_simp, RowOwn.made h1.1, H.out.ne, by simp [World.setCell]; omega, H.out.lo⟩, ((Exc.refl _ w).setC (p := ⟨HB, 0, none⟩) (Or.inl rfl) _).alloc _⟩
/-- The least is taken away. -/
def Popped (lo HB g m c t N : Nat) (e : Nat → Hd) (w : World) (en : Ending) (w' : World) : Prop :=
  (∃ v, en = .returned v) ∧ ∃ r', HP m r' ∧ Cov (t + 1) N m r' ∧ HpSt lo HB g m c (fun k => e (r' k)) w' ∧ Exc (fun k => k = HB ∨ k = g) w w'
set_option maxHeartbeats 2000000 in
theorem pop_any' (w : World) {lo HB g m c t N : Nat} {e : Nat → Hd} {r : Nat → Nat} (h : HpSt lo HB g (m + 1) c (fun k => e (r k)) w) (hm : m + 1 ≤ 100) (he : EAsc N e) (hP : HP (m + 1) r) (hC : Cov t N (m + 1) r) :
    Calls Try.prog 66 #[.iface 64 (.pointer (some ⟨HB, 0, none⟩))] w (Popped lo HB g m c t N e w) := by
  have H := Lib.hid h
  have htN : t < N := by have := hC.lo 0 (by omega); omega
  have HC1 := Lib.hid (hC.pop (hC.root hP htN))
  have HD1 := Lib.hid hP.pop
  have HE := Lib.hid he
  clear h hP hC he htN
  have ml := m_len w HB _ H.out.cell
  go_enter Try.func66, Try.ntmps66
  go_wp2_with fail
  refine (len_any _ _ _ _).mono ?_
  rintro en w' ⟨rfl, rfl⟩
  clear ml
  have ms := m_swap w HB _ H.out.cell
  go_wp2_with fail
  refine (swap_any w (i := 0) (j := m) (q := fun k => e (r k)) (by omega) (by omega) (by omega) (RowOwn.wide H.out.row (Nat.le_refl _) (Nat.le_refl _))).mono ?_
  rintro en w3 ⟨⟨v3, rfl⟩, hO3, hG3, hs3⟩
  have hSt3 := Lib.hid ((HpSt.turn H.out hO3 hG3 hs3).congr fun k _ => swap_e e r 0 m k)
  have E3 := Lib.hid (Exc.grown (X := fun k => k = HB ∨ k = g) (Exc.refl _ w) (Or.inr rfl) hG3)
  clear hO3 hG3 hs3 ms
  go_wp2_with fail
  refine (down_any w3 (r0 := swapR r 0 m) hSt3.out (Nat.le_succ m) (by omega) (by omega) HE.out HD1.out HC1.out).mono ?_
  rintro en w4 ⟨⟨v4, rfl⟩, r', hp', hc', hr', hst', hg', hs'⟩
  have A1 := Lib.hid hp'
  have A2 := Lib.hid hc'
  have A3 := Lib.hid hst'
  have E4 := Lib.hid (E3.out.grown (Or.inr rfl) hg')
  clear hp' hc' hr' hst' hg' hs'
  have mp := m_pop w4 HB
  go_wp2_with fail
  refine (mpop_any w4 A3.out (by omega)).mono ?_
  rintro en w5 ⟨⟨v5, rfl⟩, hst5, he5⟩
  have A5 := Lib.hid hst5
  have E5 := Lib.hid (E4.out.trans he5)
  clear mp hst5 he5
  go_wp2_with fail
  go_ret
  exact ⟨⟨_, rfl⟩, r', A1.out, A2.out, A5.out, E5.out⟩
set_option maxHeartbeats 1000000 in
theorem drop_any (w : World) {lo HB g m c t N : Nat} {e : Nat → Hd} {r : Nat → Nat} (h : HpSt lo HB g (m + 1) c (fun k => e (r k)) w) (hm : m + 1 ≤ 100) (he : EAsc N e) (hP : HP (m + 1) r) (hC : Cov t N (m + 1) r) :
    Calls Try.prog 48 #[.pointer (some ⟨HB, 0, none⟩)] w (Popped lo HB g m c t N e w) := by
  have HQ := Lib.hid fun W h => @pop_any' W lo HB g m c t N e r h hm he hP hC
  have H := Lib.hid h
  clear h hP hC he
  go_enter Try.func48, Try.ntmps48
  go_wp2_with fail
  refine (HQ.out w H.out).mono ?_
  rintro en w1 ⟨⟨v1, rfl⟩, r', h1, h2, h3, h4⟩
  have A1 := Lib.hid h1
  have A2 := Lib.hid h2
  have A3 := Lib.hid h3
  have A4 := Lib.hid h4
  clear h1 h2 h3 h4
  go_wp2_with fail
  exact bodyPost_end (v := .tuple #[]) (by simp [results, Try.results48, go_sem]) rfl ⟨⟨_, rfl⟩, r', A1.out, A2.out, A3.out, A4.out⟩
end Go.Proofs.Ytegdogamenoaiaa
