/- A region whose order of evaluation is open, any order of its effects: what only reads is taken as soon as it can be, and the effects that can come are all followed. -/
import Derived.Test.YtcdpalpoanlbmaaMix
import Derived.Test.YtcdpalpoanlbmaaDraw
namespace Go.Proofs.Ytcdpalpoanlbmaa
open Go
set_option linter.unusedVariables false
set_option linter.unusedSimpArgs false

section
variable {P : Program} {ops : Array Oper} {md : Region.Mode} {R : World → World → Prop} {Q : Exit → Act → World → Prop}

/-- A reader may come behind this operation: it does not wait for every reader. -/
def looseR (md : Region.Mode) (ops : Array Oper) (o : Oper) : Bool :=
  (List.range ops.size).any fun m => match ops[m]? with
    | some om => (opRead om && !opEff0 om) && !waitsT md ops 3 o m
    | none => false

/-- A reader has not come up yet. -/
def quietLeftR (ops : Array Oper) (listed : Array Bool) : Prop := ∃ m om, ops[m]? = some om ∧ (opRead om = true ∧ opEff0 om = false) ∧ listed.getD m true = false

/-- Behind an operation that waits for every reader no reader is left. -/
theorem not_leftR {listed : Array Bool} {j : Nat} {oj : Oper} (hC : Shut md ops listed) (hj : j ∈ Region.ready md ops listed) (ho : ops[j]? = some oj) (hl : looseR md ops oj = false) : ¬ quietLeftR ops listed := by
  rintro ⟨m, om, h1, h2, h3⟩
  obtain ⟨_, o', ho', hall⟩ := mem_ready.1 hj
  obtain rfl : o' = oj := Option.some.inj (ho'.symm.trans ho)
  have hlt : m < ops.size := (Array.getElem?_eq_some_iff.1 h1).1
  simp only [looseR, List.any_eq_false, List.mem_range] at hl
  have h4 := hl m hlt
  rw [h1] at h4
  simp only [h2, Bool.not_false, Bool.true_and] at h4
  cases h6 : waitsT md ops 3 o' m with
  | false => rw [h6] at h4; exact h4 rfl
  | true =>
    have h7 := hC.waits 3 o' m hall h6
    rw [getD_both' h3] at h7
    cases h7


def mixOpR (P : Program) (md : Region.Mode) (ops : Array Oper) (R : World → World → Prop) (i : Nat) (K : Act → World → Prop) (a : Act) (w : World) : Prop :=
  match ops[i]? with
  | none => K a w
  | some o => if Region.wanted o (yielded ops a.tmps) = true then
      (if opEff0 o = true then effAt P o a w (fun v w' => (looseR md ops o = true → R w w') ∧ K (a.put o.dst v) w') else ∃ v, QuietAt P (Cls (R w) o) o v a ∧ K (a.put o.dst v) w)
    else K (a.put o.dst undef) w
def wpAnyR (P : Program) (md : Region.Mode) (ops : Array Oper) (Q : Exit → Act → World → Prop) (R : World → World → Prop) : Nat → Array Bool → Act → World → Prop
  | 0, listed, a, w => Region.ready md ops listed = [] ∧ Q .normal a w
  | fuel + 1, listed, a, w =>
    (Region.ready md ops listed = [] → Q .normal a w) ∧
    ∀ i ∈ Region.ready md ops listed, mixOpR P md ops R i (wpAnyR P md ops Q R fuel (listed.setIfInBounds i true)) a w

theorem wpAny_of_R (hrefl : ∀ w, R w w) : ∀ (fuel : Nat) (listed : Array Bool) (a : Act) (w : World), wpAnyR P md ops Q R fuel listed a w → wpAny P md ops Q fuel listed a w
  | 0, _, _, _, h => h
  | fuel + 1, listed, a, w, h => by
    refine ⟨h.1, fun i hi => ?_⟩
    have h1 := h.2 i hi
    obtain ⟨hun, o, ho, _⟩ := mem_ready.1 hi
    unfold mixOpR at h1
    unfold wpOp
    simp only [ho] at h1 ⊢
    split
    · rename_i hw
      simp only [hw, if_true] at h1
      by_cases he : opEff0 o = true
      · simp only [he, if_true] at h1
        exact .inl (effAt_wp (effAt_mono (fun v w' ⟨h2, h3⟩ => wpAny_of_R hrefl fuel _ _ _ h3) h1))
      · simp only [he] at h1
        obtain ⟨v, h2, h3⟩ := h1
        refine .inl ?_
        unfold Oper.wp
        rcases h2 w (fun _ => hrefl w) with e | ⟨e, rfl⟩
        · rw [e]; exact wpAny_of_R hrefl fuel _ _ _ h3
        · rw [e]; exact wpAny_of_R hrefl fuel _ _ _ h3
    · rename_i hw
      simp only [hw] at h1
      exact wpAny_of_R hrefl fuel _ _ _ h1

theorem QuietAt.sub {S S' : World → Prop} {o : Oper} {v : Value} {a : Act} (h : ∀ w, S' w → S w) (q : QuietAt P S o v a) : QuietAt P S' o v a := fun w hw => q w (h w hw)

/-- What only reads, and is apart from all that may come besides, may be taken first. -/
theorem firstR_quiet (htr : ∀ a b c, R a b → R b c → R a c) {i : Nat} {oi : Oper} (hi : ops[i]? = some oi) (hei : opEff0 oi = false) (hsel : ∀ (j : Nat) (o : Oper) cs b, ops[j]? = some o → o.op ≠ .select cs b) :
    ∀ (fuel : Nat) (listed : Array Bool) (a : Act) (w : World) (v : Value),
      (∀ j oj, ops[j]? = some oj → j ≠ i → listed.getD j true = false → waitsT md ops 3 oj i = false → oi.apart ops oj = true) →
      i ∈ Region.ready md ops listed → Shut md ops listed → Region.wanted oi (yielded ops a.tmps) = true → QuietAt P (Cls (R w) oi) oi v a →
      wpAnyR P md ops Q R fuel (listed.setIfInBounds i true) (a.put oi.dst v) w → wpAnyR P md ops Q R (fuel + 1) listed a w := by
  intro fuel
  induction fuel with
  | zero =>
    intro listed a w v _ hr hC hwi q H
    refine ⟨fun h => (by rw [h] at hr; cases hr), fun j hj => ?_⟩
    by_cases hji : j = i
    · subst hji
      unfold mixOpR
      simp only [hi, hwi, hei, if_true]
      exact ⟨v, q, H⟩
    · exfalso
      have hne := ready_mono hj hji
      rw [H.1] at hne; cases hne
  | succ fuel ih =>
    intro listed a w v hfree hr hC hwi q H
    refine ⟨fun h => (by rw [h] at hr; cases hr), fun j hj => ?_⟩
    by_cases hji : j = i
    · subst hji
      unfold mixOpR
      simp only [hi, hwi, hei, if_true]
      exact ⟨v, q, H⟩
    · obtain ⟨hjun, oj, hoj, hall⟩ := mem_ready.1 hj
      obtain ⟨hiun, _⟩ := mem_ready.1 hr
      have hnot : waitsT md ops 3 oj i = false := by
        cases hw : waitsT md ops 3 oj i with
        | false => rfl
        | true =>
          have h1 := hC.waits 3 oj i hall hw
          rw [getD_both' hiun] at h1
          cases h1
      obtain ⟨p1, p2, p3⟩ := Oper.apart_spec (hfree j oj hoj hji hjun hnot)
      have hsi := fun cs b => hsel i oi cs b hi
      have hsj := fun cs b => hsel j oj cs b hoj
      have hfree' : ∀ k ok, ops[k]? = some ok → k ≠ i → (listed.setIfInBounds j true).getD k true = false →
          waitsT md ops 3 ok i = false → oi.apart ops ok = true := fun k ok hk hki hun hno => by
        refine hfree k ok hk hki ?_ hno
        by_cases hjk : j = k
        · subst hjk; exact hjun
        · rw [getD_set_ne true hjk] at hun; exact hun
      have hr' := ready_mono hr (Ne.symm hji)
      have hj' := ready_mono hj hji
      have hC' := hC.set hj
      have hcomm : (listed.setIfInBounds j true).setIfInBounds i true = (listed.setIfInBounds i true).setIfInBounds j true := Array.setIfInBounds_comm _ _ hji
      have ej : ∀ u : Value, execOp (a.put oi.dst u).eval oj = execOp a.eval oj := fun u => execOp_put oj hsj a oi.dst u p1
      have wj : ∀ u : Value, Region.wanted oj (yielded ops (a.put oi.dst u).tmps) = Region.wanted oj (yielded ops a.tmps) := fun u => wanted_put oj a oi.dst u p1
      have ei : ∀ u : Value, execOp (a.put oj.dst u).eval oi = execOp a.eval oi := fun u => execOp_put oi hsi a oj.dst u p3
      have wi : ∀ u : Value, Region.wanted oi (yielded ops (a.put oj.dst u).tmps) = Region.wanted oi (yielded ops a.tmps) := fun u => wanted_put oi a oj.dst u p3
      have pc : ∀ u v : Value, (a.put oi.dst u).put oj.dst v = (a.put oj.dst v).put oi.dst u := fun u v => Act.put_comm a u v p2
      have h1 := H.2 j hj'
      have back : ∀ u w', wpAnyR P md ops Q R fuel ((listed.setIfInBounds i true).setIfInBounds j true) ((a.put oi.dst v).put oj.dst u) w' →
          (opRead oi = true → R w w') → wpAnyR P md ops Q R (fuel + 1) (listed.setIfInBounds j true) (a.put oj.dst u) w' := fun u w' h hq => by
        refine ih _ _ _ v hfree' hr' hC' ((wi u).trans hwi) ((q.of_same (ei u)).sub fun w2 h2 hr2 => htr _ _ _ (hq hr2) (h2 hr2)) ?_
        rw [hcomm, ← pc]
        exact h
      have hleft : looseR md ops oj = false → opRead oi = false := fun hl => by
        cases hrd : opRead oi with
        | false => rfl
        | true => exact absurd ⟨i, oi, hi, ⟨hrd, hei⟩, hiun⟩ (not_leftR hC hj hoj hl)
      unfold mixOpR at h1 ⊢
      simp only [hoj, wj] at h1 ⊢
      split
      · rename_i hwj
        simp only [hwj, if_true] at h1
        split
        · rename_i hej
          simp only [hej, if_true] at h1
          unfold effAt at h1 ⊢
          rw [ej] at h1
          refine effAt_mono (o := oj) (a := a) (fun u w' ⟨hl, h⟩ => ⟨hl, back u w' h fun hrd => ?_⟩) h1
          cases hll : looseR md ops oj with
          | true => exact hl hll
          | false => rw [hleft hll] at hrd; cases hrd
        · rename_i hej
          simp only [hej] at h1
          obtain ⟨u, q1, h⟩ := h1
          refine ⟨u, q1.of_same (ej v).symm, ?_⟩
          refine ih _ _ _ v hfree' hr' hC' ((wi u).trans hwi) (q.of_same (ei u)) ?_
          rw [hcomm, ← pc]
          exact h
      · rename_i hwj
        simp only [hwj] at h1
        refine ih _ _ _ v hfree' hr' hC' ((wi undef).trans hwi) (q.of_same (ei undef)) ?_
        rw [hcomm]
        show wpAnyR P md ops Q R fuel _ ((a.put oj.dst undef).put oi.dst v) w
        rw [← pc]
        exact h1

/-- The next that only reads, is ready, and is apart from all that may come besides. -/
def quietOk (md : Region.Mode) (ops : Array Oper) (listed : Array Bool) (i : Nat) : Bool :=
  match ops[i]? with
  | none => false
  | some oi => !opEff0 oi && (Region.ready md ops listed).contains i && (List.range ops.size).all fun j => j == i || listed.getD j true || match ops[j]? with
      | some oj => waitsT md ops 3 oj i || oi.apart ops oj
      | none => true

theorem quietOk_spec {i : Nat} {oi : Oper} {listed : Array Bool} (hi : ops[i]? = some oi) (h : quietOk md ops listed i = true) : opEff0 oi = false ∧ i ∈ Region.ready md ops listed ∧
    ∀ (j : Nat) (oj : Oper), ops[j]? = some oj → j ≠ i → listed.getD j true = false → waitsT md ops 3 oj i = false → oi.apart ops oj = true := by
  simp only [quietOk, hi, Bool.and_eq_true, Bool.not_eq_true', List.all_eq_true, List.mem_range] at h
  obtain ⟨⟨h1, h2⟩, h3⟩ := h
  refine ⟨h1, by simpa using h2, fun j oj hj hne hun hno => ?_⟩
  have h4 := h3 j (Array.getElem?_eq_some_iff.1 hj).1
  simp only [hj, Bool.or_eq_true, beq_iff_eq, hne, false_or, hun, Bool.false_eq_true] at h4
  rcases h4 with h4 | h4
  · rw [hno] at h4; cases h4
  · exact h4

/-- The state of a walk through such a region. -/
def AnyAt (P : Program) (md : Region.Mode) (ops : Array Oper) (Q : Exit → Act → World → Prop) (R : World → World → Prop) (n : Nat) (listed : Array Bool) (a : Act) (w : World) : Prop :=
  (∀ a b c, R a b → R b c → R a c) → Region.noSelect ops = true → Shut md ops listed → wpAnyR P md ops Q R n listed a w
variable {n : Nat} {listed : Array Bool} {a : Act} {w : World} {i : Nat} {o : Oper}
theorem any_end (h : (Region.ready md ops listed).isEmpty = true) (hQ : Q .normal a w) : AnyAt P md ops Q R 0 listed a w := fun _ _ _ => ⟨by simpa using h, hQ⟩
theorem any_quiet (i : Nat) (hk : quietOk md ops listed i = true) (hi0 : ops.toList[i]? = some o) (hw : Region.wanted o (yielded ops a.tmps) = true)
    (h : ∃ v : Value, (∀ w', (opRead o = true → R w w') → (execOp a.eval o).run P w' = .ok (.value v) w') ∧ AnyAt P md ops Q R n (listed.setIfInBounds i true) (a.put o.dst v) w) : AnyAt P md ops Q R (n + 1) listed a w := by
  intro htr hs hC
  have hi : ops[i]? = some o := by rw [← hi0]; simp
  obtain ⟨v, hq, h⟩ := h
  obtain ⟨h1, h2, h3⟩ := quietOk_spec hi hk
  exact firstR_quiet htr hi h1 (Region.noSelect_spec hs) n listed a w v h3 h2 hC hw (fun w' hw' => .inl (hq w' hw')) (h htr hs (hC.set h2))
theorem any_read (i : Nat) (hk : quietOk md ops listed i = true) (hi0 : ops.toList[i]? = some o) (hw : Region.wanted o (yielded ops a.tmps) = true) (hr : opRead o = true)
    (h : ∃ v : Value, (∀ w', R w w' → (execOp a.eval o).run P w' = .ok (.value v) w') ∧ AnyAt P md ops Q R n (listed.setIfInBounds i true) (a.put o.dst v) w) : AnyAt P md ops Q R (n + 1) listed a w :=
  any_quiet i hk hi0 hw (let ⟨v, hq, h⟩ := h; ⟨v, fun w' hw' => hq w' (hw' hr), h⟩)
theorem any_pure (i : Nat) (hk : quietOk md ops listed i = true) (hi0 : ops.toList[i]? = some o) (hw : Region.wanted o (yielded ops a.tmps) = true)
    (h : ∃ v : Value, (∀ w', (execOp a.eval o).run P w' = .ok (.value v) w') ∧ AnyAt P md ops Q R n (listed.setIfInBounds i true) (a.put o.dst v) w) : AnyAt P md ops Q R (n + 1) listed a w :=
  any_quiet i hk hi0 hw (let ⟨v, hq, h⟩ := h; ⟨v, fun w' _ => hq w', h⟩)

/-- One of the effects that can come next. -/
def AnyOne (P : Program) (md : Region.Mode) (ops : Array Oper) (Q : Exit → Act → World → Prop) (R : World → World → Prop) (n : Nat) (listed : Array Bool) (i : Nat) (a : Act) (w : World) : Prop :=
  (∀ a b c, R a b → R b c → R a c) → Region.noSelect ops = true → Shut md ops listed → i ∈ Region.ready md ops listed → mixOpR P md ops R i (wpAnyR P md ops Q R n (listed.setIfInBounds i true)) a w
theorem any_branch (hl : (Region.ready md ops listed).isEmpty = false) (h : ∀ i, i < ops.size → AnyOne P md ops Q R n listed i a w) : AnyAt P md ops Q R (n + 1) listed a w := by
  intro htr hs hC
  refine ⟨fun h0 => (by rw [h0] at hl; cases hl), fun i hi => h i ?_ htr hs hC hi⟩
  obtain ⟨_, o, ho, _⟩ := mem_ready.1 hi
  exact (Array.getElem?_eq_some_iff.1 ho).1
theorem any_none (h : (Region.ready md ops listed).contains i = false) : AnyOne P md ops Q R n listed i a w := fun _ _ _ hr => by simp at h; exact absurd hr h
theorem any_one (hi0 : ops.toList[i]? = some o) (hw : Region.wanted o (yielded ops a.tmps) = true) (he : opEff0 o = true)
    (h : wpList P ops (ThenQ fun a' w' => a'.defers = a.defers ∧ (looseR md ops o = true → R w w') ∧ AnyAt P md ops Q R n (listed.setIfInBounds i true) a' w') [o] a w) : AnyOne P md ops Q R n listed i a w := by
  intro htr hs hC hr
  have hi : ops[i]? = some o := by rw [← hi0]; simp
  unfold mixOpR
  simp only [hi, hw, he, if_true]
  exact effAt_mono (fun v w' ⟨h1, h2⟩ => ⟨h1, h2 htr hs (hC.set hr)⟩) (effAt_of_wpList hw h)
theorem any_skip (hi0 : ops.toList[i]? = some o) (hw : Region.wanted o (yielded ops a.tmps) = false) (h : AnyAt P md ops Q R n (listed.setIfInBounds i true) (a.put o.dst undef) w) : AnyOne P md ops Q R n listed i a w := by
  intro htr hs hC hr
  have hi : ops[i]? = some o := by rw [← hi0]; simp
  unfold mixOpR
  simp only [hi, hw]
  exact h htr hs (hC.set hr)
theorem lt_zero {p : Nat → Prop} : ∀ i, i < 0 → p i := fun i h => absurd h (Nat.not_lt_zero i)
theorem lt_succ {p : Nat → Prop} {m : Nat} (h1 : p m) (h2 : ∀ i, i < m → p i) : ∀ i, i < m + 1 → p i := fun i h => by
  rcases Nat.lt_or_ge i m with h3 | h3
  · exact h2 i h3
  · exact (show i = m by omega) ▸ h1
theorem any_putK {a : Act} (h : ∀ K : Act → Prop, (∀ a, AnyAt P md ops Q R n listed a w → K a) → K a) : AnyAt P md ops Q R n listed a w := h _ (fun _ h => h)
theorem then_any {d : List Deferred} {w0 : World} (hd : a.defers = d) (hS : looseR md ops o = true → R w0 w) (h : AnyAt P md ops Q R n listed a w) :
    ThenQ (fun a' w' => a'.defers = d ∧ (looseR md ops o = true → R w0 w') ∧ AnyAt P md ops Q R n listed a' w') .normal a w := ⟨hd, hS, h⟩
theorem wp_region_anyR {id : Nat} {l : List Oper} (hm : P.follows .mixedOrders = true) (hrefl : ∀ w, R w w) (htr : ∀ a b c, R a b → R b c → R a c) (hs : Region.noSelect l.toArray = true)
    (h : AnyAt P .any l.toArray Q R l.toArray.size (Array.replicate l.toArray.size false) a w.drew) : (Code.region id l.toArray true).wp P Q a w := by
  have hC : Shut .any l.toArray (Array.replicate l.toArray.size false) := fun k ok _ hl => by
    rcases Nat.lt_or_ge k (Array.replicate l.toArray.size false).size with h' | h'
    · simp at h'; simp [h'] at hl
    · rw [Array.getD_eq_getD_getElem?, Array.getElem?_eq_none h'] at hl; cases hl
  exact wp_region_any hm (wpAny_of_R hrefl _ _ _ _ (h htr hs hC))
theorem OldG.trans {g r : Nat} {a b c : World} (h : OldG g r a b) (k : OldG g r b c) : OldG g r a c :=
  ⟨Nat.le_trans h.size k.size, fun i h1 h2 h3 => (k.block i (Nat.lt_of_lt_of_le h1 h.size) h2 h3).trans (h.block i h1 h2 h3)⟩
theorem wp_region_anyG {id : Nat} {l : List Oper} (g r : Nat) (hm : P.follows .mixedOrders = true) (hs : Region.noSelect l.toArray = true)
    (h : AnyAt P .any l.toArray Q (OldG g r) l.toArray.size (Array.replicate l.toArray.size false) a w.drew) : (Code.region id l.toArray true).wp P Q a w :=
  wp_region_anyR hm (fun w => OldG.refl _ _ _) (fun _ _ _ => OldG.trans) hs h
end
attribute [irreducible] AnyAt AnyOne
theorem lit_at (l : List Int) (v : Int) (h0 : 0 ≤ v) (h1 : v < l.length) : ∃ R : Int, (l.map (Value.int .i64))[v.toNat]? = some (.int .i64 R) := by
  refine ⟨l[v.toNat]'(by omega), ?_⟩
  rw [List.getElem?_map, List.getElem?_eq_getElem (by omega)]
  rfl
end Go.Proofs.Ytcdpalpoanlbmaa
