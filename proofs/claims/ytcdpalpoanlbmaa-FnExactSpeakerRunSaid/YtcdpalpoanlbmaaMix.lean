/- A region whose order of evaluation is open: where its effectful operations stand in one forced order, and all others yield one value in every world of a class, one walk in the order of the text serves every order. -/
import Derived.Orders
import Derived.Tactics
import Derived.Laws.World
import Derived.KernelRfl
import Derived.Below
namespace Go.Proofs.Ytcdpalpoanlbmaa
open Go
set_option linter.unusedVariables false
set_option linter.unusedSimpArgs false

def opEff0 (o : Oper) : Bool := match o.op with
  | .move _ => false | .assign _ => false | .pick _ _ _ => false | .build _ _ => false | .load _ _ => false | .nilCheck _ => false | .binOp _ _ _ _ _ => false
  | .unOp _ _ _ => false | .convert _ _ _ => false | .fieldAddr _ _ _ => false | .field _ _ _ => false | .indexAddr _ _ _ => false | .index _ _ _ => false
  | .extract _ _ => false | .lookup _ _ _ _ => false | .slice _ _ _ _ _ => false | .ready _ => false | .makeInterface _ _ => false
  | .call c => (match c.callee with | .builtin .len => false | .builtin .cap => false | .builtin .max => false | .builtin .min => false | _ => true)
  | _ => true

/-- The address of a place in a literal that the region itself lays: what is loaded there is taken in the order of the effects. -/
def litAddr (ops : Array Oper) (x : Operand) : Bool := match x with
  | .tmp t => ops.toList.any fun p => p.dst == some t && (match p.op with
    | .indexAddr _ (.tmp b) _ => ops.toList.any fun q => q.dst == some b && (match q.op with | .buildSlice _ _ _ => true | _ => false)
    | _ => false)
  | _ => false
def opEff (ops : Array Oper) (o : Oper) : Bool := match o.op with
  | .load _ x => litAddr ops x
  | _ => opEff0 o

/-- The operations that yield their value but look at memory: the others of the quiet kind yield it in whatever world. -/
def opRead (o : Oper) : Bool := match o.op with
  | .load _ _ => true | .convert _ _ _ => true | .index _ _ _ => true | .lookup _ _ _ _ => true
  | .call _ => true
  | _ => false
def Cls (S : World → Prop) (o : Oper) : World → Prop := fun w => opRead o = true → S w

section
variable {P : Program} {ops : Array Oper} {md : Region.Mode} {S : World → Prop} {Q : Exit → Act → World → Prop}

/-- The operation leaves v, in every world of the class, and turns nothing. -/
def QuietAt (P : Program) (S : World → Prop) (o : Oper) (v : Value) (a : Act) : Prop :=
  ∀ w, S w → ((execOp a.eval o).run P w = .ok (.value v) w ∨ ((execOp a.eval o).run P w = .ok .skip w ∧ v = undef))

/-- What an effectful operation leaves. -/
def effUpon (P : Program) (R : Value → World → Prop) : Result Next → Prop
  | .ok (.value v) w' => R v w'
  | .ok .skip w' => R undef w'
  | .ok (.enter f args) w' => Calls P f args w' (fun e w'' => ∃ v, e = .returned v ∧ R v w'')
  | .ok (.row row args) w' => Rows P row args w' R
  | _ => False
def effAt (P : Program) (o : Oper) (a : Act) (w : World) (R : Value → World → Prop) : Prop := effUpon P R ((execOp a.eval o).run P w)

theorem effAt_mono {o : Oper} {a : Act} {w : World} {R R' : Value → World → Prop} (h : ∀ v w', R v w' → R' v w') (hh : effAt P o a w R) : effAt P o a w R' := by
  unfold effAt at *
  generalize (execOp a.eval o).run P w = r at *
  cases r with
  | ok n w' =>
    cases n <;> simp only [effUpon] at hh ⊢ <;>
      first
        | exact h _ _ hh
        | exact Calls.mono hh (fun e w'' ⟨v, he, hr⟩ => ⟨v, he, h _ _ hr⟩)
        | exact Rows.mono hh (fun _ _ he => h _ _ he)
  | halt x w' => simp only [effUpon] at hh

theorem effAt_some {o : Oper} {a : Act} {w : World} {R : Value → World → Prop} (hh : effAt P o a w R) : ∃ v w', R v w' := by
  unfold effAt at hh
  generalize (execOp a.eval o).run P w = r at *
  cases r with
  | ok n w' =>
    cases n <;> simp only [effUpon] at hh
    case value v => exact ⟨v, w', hh⟩
    case skip => exact ⟨undef, w', hh⟩
    case enter f args => obtain ⟨e, w'', fr, ⟨v, _, hr⟩, _⟩ := hh []; exact ⟨v, w'', hr⟩
    case row row args => obtain ⟨v, w'', hr, _⟩ := hh (Frame.enter P 0 #[] .normal) []; exact ⟨v, w'', hr⟩
  | halt x w' => simp only [effUpon] at hh

theorem effAt_wp {o : Oper} {a : Act} {w : World} {K : Act → World → Prop} (hh : effAt P o a w (fun v w' => K (a.put o.dst v) w')) : o.wp P a w K Q := by
  unfold effAt at hh
  unfold Oper.wp
  generalize (execOp a.eval o).run P w = r at *
  cases r with
  | ok n w' =>
    cases n <;> simp only [effUpon] at hh <;> simp only [Oper.upon]
    case value v => exact hh
    case skip => exact hh
    case enter f args =>
      refine hh.mono fun e w'' ⟨v, he, hr⟩ => ?_
      subst he
      exact hr
    case row row args => exact hh
  | halt x w' => simp only [effUpon] at hh

/-- The post that asks for a normal end. -/
def ThenQ (K : Act → World → Prop) : Exit → Act → World → Prop
  | .normal, a, w => K a w
  | _, _, _ => False

theorem effAt_of_wpList {o : Oper} {a : Act} {w : World} {R : Act → World → Prop} (hw : Region.wanted o (yielded ops a.tmps) = true)
    (h : wpList P ops (ThenQ fun a' w' => a'.defers = a.defers ∧ R a' w') [o] a w) : effAt P o a w (fun v w' => R (a.put o.dst v) w') := by
  have hno : ¬ LetsOut (ThenQ fun a' w' => a'.defers = a.defers ∧ R a' w') := fun ⟨_, _, h⟩ => h
  simp only [wpList, hw, if_true] at h
  rcases h with h | ⟨_, h⟩
  · unfold Oper.wp at h
    unfold effAt
    generalize (execOp a.eval o).run P w = r at *
    cases r with
    | ok n w' =>
      cases n <;> simp only [Oper.upon] at h <;> simp only [effUpon]
      case value v => exact h.2
      case skip => exact h.2
      case defer d =>
        have h1 : ({ a with defers := d :: a.defers }.put o.dst undef : Act).defers = a.defers := h.1
        have h2 : ({ a with defers := d :: a.defers }.put o.dst undef : Act).defers = d :: a.defers := by cases o.dst <;> rfl
        rw [h2] at h1
        exact absurd h1 (by simp)
      case enter f args =>
        refine h.mono fun e w'' he => ?_
        cases e with
        | returned v => exact ⟨v, rfl, he.2⟩
        | panicked c => exact he.elim
        | outgrown => exact absurd he hno
      case row row args => exact Rows.mono h fun v w'' he => he.2
    | halt x w' =>
      cases x <;> simp only [Oper.upon] at h
      case panic u => exact h.elim
  · exact absurd h hno

/-- It waits for number m, by few steps. -/
def waitsT (md : Region.Mode) (ops : Array Oper) : Nat → Oper → Nat → Bool
  | 0, _, _ => false
  | n + 1, o, m => o.after.toList.any fun e => Region.binds md e && (e.on == m || match ops[e.on]? with
      | some oe => waitsT md ops n oe m
      | none => false)

/-- A reader may come behind this operation: it does not wait for every reader. -/
def loose (md : Region.Mode) (ops : Array Oper) (o : Oper) : Bool :=
  (List.range ops.size).any fun m => match ops[m]? with
    | some om => (opRead om && !opEff ops om) && !waitsT md ops 6 o m
    | none => false

/-- A reader has not come up yet. -/
def quietLeft (ops : Array Oper) (listed : Array Bool) : Prop := ∃ m om, ops[m]? = some om ∧ (opRead om = true ∧ opEff ops om = false) ∧ listed.getD m true = false

/-- Whoever has come up: all for whom it waits have. -/
def Shut (md : Region.Mode) (ops : Array Oper) (listed : Array Bool) : Prop :=
  ∀ k ok, ops[k]? = some ok → listed.getD k false = true → ∀ e ∈ ok.after, Region.binds md e = true → listed.getD e.on false = true
theorem Shut.set {listed : Array Bool} {j : Nat} (h : Shut md ops listed) (hj : j ∈ Region.ready md ops listed) : Shut md ops (listed.setIfInBounds j true) := by
  intro k ok hk hl e he hb
  refine getD_set_true ?_
  by_cases hjk : j = k
  · subst hjk
    obtain ⟨_, o', ho', hall⟩ := mem_ready.1 hj
    obtain rfl : o' = ok := Option.some.inj (ho'.symm.trans hk)
    exact hall e he hb
  · rw [getD_set_ne false hjk] at hl
    exact h k ok hk hl e he hb
theorem Shut.waits {listed : Array Bool} (h : Shut md ops listed) : ∀ (n : Nat) (o : Oper) (m : Nat), (∀ e ∈ o.after, Region.binds md e = true → listed.getD e.on false = true) → waitsT md ops n o m = true → listed.getD m false = true
  | 0, _, _, _, hw => by cases hw
  | n + 1, o, m, ho, hw => by
    unfold waitsT at hw
    rw [List.any_eq_true] at hw
    obtain ⟨e, he, hb⟩ := hw
    rw [Array.mem_toList_iff] at he
    simp only [Bool.and_eq_true, Bool.or_eq_true, beq_iff_eq] at hb
    have hl := ho e he hb.1
    rcases hb.2 with h2 | h2
    · rw [← h2]; exact hl
    · cases hoe : ops[e.on]? with
      | none => rw [hoe] at h2; cases h2
      | some oe => rw [hoe] at h2; exact Shut.waits h n oe m (h e.on oe hoe hl) h2

def mixOp (P : Program) (md : Region.Mode) (ops : Array Oper) (S : World → Prop) (i : Nat) (K : Act → World → Prop) (a : Act) (w : World) : Prop :=
  match ops[i]? with
  | none => K a w
  | some o => if Region.wanted o (yielded ops a.tmps) = true then
      (if opEff ops o = true then effAt P o a w (fun v w' => (loose md ops o = true → S w') ∧ K (a.put o.dst v) w') else ∃ v, QuietAt P (Cls S o) o v a ∧ K (a.put o.dst v) w)
    else K (a.put o.dst undef) w

def wpAnyM (P : Program) (md : Region.Mode) (ops : Array Oper) (Q : Exit → Act → World → Prop) (S : World → Prop) : Nat → Array Bool → Act → World → Prop
  | 0, listed, a, w => Region.ready md ops listed = [] ∧ Q .normal a w
  | fuel + 1, listed, a, w =>
    (Region.ready md ops listed = [] → Q .normal a w) ∧
    ∀ i ∈ Region.ready md ops listed, mixOp P md ops S i (wpAnyM P md ops Q S fuel (listed.setIfInBounds i true)) a w

theorem getD_both' {listed : Array Bool} {i : Nat} (h : listed.getD i true = false) : listed.getD i false = false := by
  rcases Nat.lt_or_ge i listed.size with h' | h'
  · simp [h'] at h ⊢; exact h
  · simp [Array.getElem?_eq_none h'] at h

theorem quietLeft_set {listed : Array Bool} {j : Nat} (h : quietLeft ops (listed.setIfInBounds j true)) : quietLeft ops listed := by
  obtain ⟨m, om, h1, h2, h3⟩ := h
  refine ⟨m, om, h1, h2, ?_⟩
  by_cases hjm : j = m
  · subst hjm
    rcases Nat.lt_or_ge j listed.size with h' | h'
    · simp [h'] at h3
    · simp [Array.getElem?_eq_none h', Array.getElem?_eq_none (show (listed.setIfInBounds j true).size ≤ j by simpa using h')] at h3
  · rw [getD_set_ne true hjm] at h3; exact h3

/-- Behind an operation that waits for every reader no reader is left. -/
theorem not_left {listed : Array Bool} {j : Nat} {oj : Oper} (hC : Shut md ops listed) (hj : j ∈ Region.ready md ops listed) (ho : ops[j]? = some oj) (hl : loose md ops oj = false) : ¬ quietLeft ops listed := by
  rintro ⟨m, om, h1, h2, h3⟩
  obtain ⟨_, o', ho', hall⟩ := mem_ready.1 hj
  obtain rfl : o' = oj := Option.some.inj (ho'.symm.trans ho)
  have hlt : m < ops.size := (Array.getElem?_eq_some_iff.1 h1).1
  simp only [loose, List.any_eq_false, List.mem_range] at hl
  have h4 := hl m hlt
  rw [h1] at h4
  simp only [h2, Bool.not_false, Bool.true_and] at h4
  cases h6 : waitsT md ops 6 o' m with
  | false => rw [h6] at h4; exact h4 rfl
  | true =>
    have h7 := hC.waits 6 o' m hall h6
    rw [getD_both' h3] at h7
    cases h7

theorem left_after {listed : Array Bool} {w w' : World} {j : Nat} {oj : Oper} (hC : Shut md ops listed) (hS : quietLeft ops listed → S w) (hj : j ∈ Region.ready md ops listed) (ho : ops[j]? = some oj) (h : loose md ops oj = true → S w') :
    quietLeft ops (listed.setIfInBounds j true) → S w' := fun hq => by
  cases hl : loose md ops oj with
  | true => exact h hl
  | false => exact absurd (quietLeft_set hq) (not_left hC hj ho hl)

theorem mixOp_mono {i : Nat} {a : Act} {w : World} {K K' : Act → World → Prop} (h : ∀ a w, K a w → K' a w) (hh : mixOp P md ops S i K a w) : mixOp P md ops S i K' a w := by
  unfold mixOp at *
  split
  · exact h _ _ (by simpa [*] using hh)
  · rename_i o ho
    simp only [ho] at hh
    split
    · rename_i hw
      simp only [hw, if_true] at hh
      split
      · rename_i he
        simp only [he, if_true] at hh
        exact effAt_mono (fun v w' ⟨h1, h2⟩ => ⟨h1, h _ _ h2⟩) hh
      · rename_i he
        simp only [he] at hh
        obtain ⟨v, h1, h2⟩ := hh
        exact ⟨v, h1, h _ _ h2⟩
    · rename_i hw
      simp only [hw] at hh
      exact h _ _ hh

/-- It is a 'wpAny'. -/
theorem wpAny_of_mix : ∀ (fuel : Nat) (listed : Array Bool) (a : Act) (w : World), Shut md ops listed → (quietLeft ops listed → S w) → wpAnyM P md ops Q S fuel listed a w → wpAny P md ops Q fuel listed a w
  | 0, _, _, _, _, _, h => h
  | fuel + 1, listed, a, w, hC, hS, h => by
    refine ⟨h.1, fun i hi => ?_⟩
    have h1 := h.2 i hi
    obtain ⟨hun, o, ho, _⟩ := mem_ready.1 hi
    unfold mixOp at h1
    unfold wpOp
    simp only [ho] at h1 ⊢
    split
    · rename_i hw
      simp only [hw, if_true] at h1
      by_cases he : opEff ops o = true
      · simp only [he, if_true] at h1
        exact .inl (effAt_wp (effAt_mono (fun v w' ⟨h2, h3⟩ => wpAny_of_mix fuel _ _ _ (hC.set hi) (left_after hC hS hi ho h2) h3) h1))
      · simp only [he] at h1
        obtain ⟨v, h2, h3⟩ := h1
        have hSw : Cls S o w := fun hr => hS ⟨i, o, ho, ⟨hr, by simpa using he⟩, hun⟩
        refine .inl ?_
        unfold Oper.wp
        rcases h2 w hSw with e | ⟨e, rfl⟩
        · rw [e]; exact wpAny_of_mix fuel _ _ _ (hC.set hi) (fun hq => hS (quietLeft_set hq)) h3
        · rw [e]; exact wpAny_of_mix fuel _ _ _ (hC.set hi) (fun hq => hS (quietLeft_set hq)) h3
    · rename_i hw
      simp only [hw] at h1
      exact wpAny_of_mix fuel _ _ _ (hC.set hi) (fun hq => hS (quietLeft_set hq)) h1

theorem QuietAt.of_same {o : Oper} {v : Value} {a a' : Act} (hy : QuietAt P S o v a) (he : execOp a'.eval o = execOp a.eval o) : QuietAt P S o v a' := by
  unfold QuietAt at *
  rw [he]
  exact hy
theorem QuietAt.one {o : Oper} {v u : Value} {a : Act} {w : World} (hS : S w) (h1 : QuietAt P S o v a) (h2 : QuietAt P S o u a) : u = v := by
  rcases h1 w hS with e1 | ⟨e1, rfl⟩ <;> rcases h2 w hS with e2 | ⟨e2, rfl⟩
  · rw [e1] at e2; injection e2 with e2; injection e2 with e2; exact e2.symm
  · rw [e1] at e2; injection e2 with e2; cases e2
  · rw [e1] at e2; injection e2 with e2; cases e2
  · rfl

/-- The next operation of the text may be taken first. -/
theorem wpAnyM_first {i : Nat} {oi : Oper} (hi : ops[i]? = some oi) (hsel : ∀ (j : Nat) (o : Oper) cs b, ops[j]? = some o → o.op ≠ .select cs b) :
    ∀ (fuel : Nat) (listed : Array Bool) (a : Act) (w : World),
      (∀ j oj, ops[j]? = some oj → j ≠ i → listed.getD j true = false → waitsT md ops 6 oj i = false → oi.apart ops oj = true ∧ (opEff ops oi = true → opEff ops oj = false)) →
      i ∈ Region.ready md ops listed → Shut md ops listed → (quietLeft ops listed → S w) →
      mixOp P md ops S i (wpAnyM P md ops Q S fuel (listed.setIfInBounds i true)) a w → wpAnyM P md ops Q S (fuel + 1) listed a w := by
  intro fuel
  induction fuel with
  | zero =>
    intro listed a w _ hr hC hS H
    refine ⟨fun h => (by rw [h] at hr; cases hr), fun j hj => ?_⟩
    by_cases hji : j = i
    · subst hji; exact H
    · exfalso
      have hne := ready_mono hj hji
      unfold mixOp at H
      simp only [hi] at H
      have nope : ∀ a' w', wpAnyM P md ops Q S 0 (listed.setIfInBounds i true) a' w' → False := fun a' w' h => by rw [h.1] at hne; cases hne
      split at H
      · split at H
        · obtain ⟨v, w', _, h⟩ := effAt_some H; exact nope _ _ h
        · obtain ⟨v, _, h⟩ := H; exact nope _ _ h
      · exact nope _ _ H
  | succ fuel ih =>
    intro listed a w hfree hr hC hS H
    refine ⟨fun h => (by rw [h] at hr; cases hr), fun j hj => ?_⟩
    by_cases hji : j = i
    · subst hji; exact H
    · obtain ⟨hjun, oj, hoj, hall⟩ := mem_ready.1 hj
      obtain ⟨hiun, _⟩ := mem_ready.1 hr
      have hnot : waitsT md ops 6 oj i = false := by
        cases hw : waitsT md ops 6 oj i with
        | false => rfl
        | true =>
          have h1 := hC.waits 6 oj i hall hw
          rw [getD_both' hiun] at h1
          cases h1
      obtain ⟨hap, heff⟩ := hfree j oj hoj hji hjun hnot
      obtain ⟨p1, p2, p3⟩ := Oper.apart_spec hap
      have hsi := fun cs b => hsel i oi cs b hi
      have hsj := fun cs b => hsel j oj cs b hoj
      have hfree' : ∀ k ok, ops[k]? = some ok → k ≠ i → (listed.setIfInBounds j true).getD k true = false →
          waitsT md ops 6 ok i = false → oi.apart ops ok = true ∧ (opEff ops oi = true → opEff ops ok = false) := fun k ok hk hki hun hno => by
        refine hfree k ok hk hki ?_ hno
        by_cases hjk : j = k
        · subst hjk; exact hjun
        · rw [getD_set_ne true hjk] at hun; exact hun
      have hr' := ready_mono hr (Ne.symm hji)
      have hj' := ready_mono hj hji
      have hC' := hC.set hj
      have hSs : quietLeft ops (listed.setIfInBounds j true) → S w := fun hq => hS (quietLeft_set hq)
      have hcomm : (listed.setIfInBounds j true).setIfInBounds i true = (listed.setIfInBounds i true).setIfInBounds j true := Array.setIfInBounds_comm _ _ hji
      -- what looks at nothing of the other
      have ej : ∀ u : Value, execOp (a.put oi.dst u).eval oj = execOp a.eval oj := fun u => execOp_put oj hsj a oi.dst u p1
      have wj : ∀ u : Value, Region.wanted oj (yielded ops (a.put oi.dst u).tmps) = Region.wanted oj (yielded ops a.tmps) := fun u => wanted_put oj a oi.dst u p1
      have ei : ∀ u : Value, execOp (a.put oj.dst u).eval oi = execOp a.eval oi := fun u => execOp_put oi hsi a oj.dst u p3
      have wi : ∀ u : Value, Region.wanted oi (yielded ops (a.put oj.dst u).tmps) = Region.wanted oi (yielded ops a.tmps) := fun u => wanted_put oi a oj.dst u p3
      have pc : ∀ u v : Value, (a.put oi.dst u).put oj.dst v = (a.put oj.dst v).put oi.dst u := fun u v => Act.put_comm a u v p2
      by_cases hwi : Region.wanted oi (yielded ops a.tmps) = true
      · by_cases hei : opEff ops oi = true
        · -- i is effectful: j is quiet
          have hej := heff hei
          have H0 := H
          unfold mixOp at H
          simp only [hi, hwi, hei, if_true] at H
          have hSw : Cls S oj w := fun hr => hS ⟨j, oj, hoj, ⟨hr, hej⟩, hjun⟩
          have step : ∀ v w', wpAnyM P md ops Q S (fuel + 1) (listed.setIfInBounds i true) (a.put oi.dst v) w' →
              (Region.wanted oj (yielded ops a.tmps) = true → ∃ u, QuietAt P (Cls S oj) oj u a ∧ wpAnyM P md ops Q S fuel ((listed.setIfInBounds i true).setIfInBounds j true) ((a.put oi.dst v).put oj.dst u) w') ∧
              (¬ Region.wanted oj (yielded ops a.tmps) = true → wpAnyM P md ops Q S fuel ((listed.setIfInBounds i true).setIfInBounds j true) ((a.put oi.dst v).put oj.dst undef) w') := fun v w' h => by
            have h1 := h.2 j hj'
            unfold mixOp at h1
            simp only [hoj, wj, hej] at h1
            refine ⟨fun hw => ?_, fun hw => ?_⟩
            · simp only [hw, if_true] at h1
              obtain ⟨u, q1, q2⟩ := h1
              exact ⟨u, q1.of_same (ej v).symm, q2⟩
            · simp only [hw] at h1
              exact h1
          obtain ⟨v0, w0, hl0, h0⟩ := effAt_some H
          have s0 := step v0 w0 h0
          unfold mixOp
          simp only [hoj, hej]
          by_cases hwj : Region.wanted oj (yielded ops a.tmps) = true
          · simp only [hwj, if_true]
            obtain ⟨u, q1, _⟩ := s0.1 hwj
            refine ⟨u, q1, ih _ _ _ hfree' hr' hC' hSs ?_⟩
            unfold mixOp
            simp only [hi, wi, hwi, hei, if_true]
            unfold effAt
            rw [ei]
            refine effAt_mono (o := oi) (a := a) (fun v w' ⟨hl, h⟩ => ⟨hl, ?_⟩) H
            obtain ⟨u', q1', q2'⟩ := (step v w' h).1 hwj
            obtain rfl := QuietAt.one hSw q1 q1'
            rw [hcomm, ← pc]
            exact q2'
          · simp only [hwj]
            refine ih _ _ _ hfree' hr' hC' hSs ?_
            unfold mixOp
            simp only [hi, wi, hwi, hei, if_true]
            unfold effAt
            rw [ei]
            refine effAt_mono (o := oi) (a := a) (fun v w' ⟨hl, h⟩ => ⟨hl, ?_⟩) H
            rw [hcomm, ← pc]
            exact (step v w' h).2 hwj
        · -- i is quiet
          unfold mixOp at H
          simp only [hi, hwi, hei, if_true] at H
          obtain ⟨v, q, H⟩ := H
          have hei' : opEff ops oi = false := by simpa using hei
          have h1 := H.2 j hj'
          have back : ∀ u w', wpAnyM P md ops Q S fuel ((listed.setIfInBounds i true).setIfInBounds j true) ((a.put oi.dst v).put oj.dst u) w' →
              (quietLeft ops (listed.setIfInBounds j true) → S w') → wpAnyM P md ops Q S (fuel + 1) (listed.setIfInBounds j true) (a.put oj.dst u) w' := fun u w' h hq => by
            refine ih _ _ _ hfree' hr' hC' hq ?_
            unfold mixOp
            simp only [hi, wi, hwi, hei, if_true]
            refine ⟨v, q.of_same (ei u), ?_⟩
            rw [hcomm, ← pc]
            exact h
          unfold mixOp at h1 ⊢
          simp only [hoj, wj] at h1 ⊢
          split
          · rename_i hwj
            simp only [hwj, if_true] at h1
            split
            · rename_i hej
              simp only [hej, if_true] at h1
              unfold effAt at h1 ⊢
              rw [ej] at h1
              refine effAt_mono (o := oj) (a := a) (fun u w' ⟨hl, h⟩ => ⟨hl, ?_⟩) h1
              exact back u w' h (left_after hC hS hj hoj hl)
            · rename_i hej
              simp only [hej] at h1
              obtain ⟨u, q1, h⟩ := h1
              exact ⟨u, q1.of_same (ej v).symm, back u w h hSs⟩
          · rename_i hwj
            simp only [hwj] at h1
            exact back undef w h1 hSs
      · -- i's guard says no
        unfold mixOp at H
        simp only [hi, hwi] at H
        have h1 := H.2 j hj'
        have back : ∀ u w', wpAnyM P md ops Q S fuel ((listed.setIfInBounds i true).setIfInBounds j true) ((a.put oi.dst undef).put oj.dst u) w' →
            (quietLeft ops (listed.setIfInBounds j true) → S w') → wpAnyM P md ops Q S (fuel + 1) (listed.setIfInBounds j true) (a.put oj.dst u) w' := fun u w' h hq => by
          refine ih _ _ _ hfree' hr' hC' hq ?_
          unfold mixOp
          simp only [hi, wi, hwi]
          rw [hcomm]
          show wpAnyM P md ops Q S fuel _ ((a.put oj.dst u).put oi.dst undef) w'
          rw [← pc]
          exact h
        unfold mixOp at h1 ⊢
        simp only [hoj, wj] at h1 ⊢
        split
        · rename_i hwj
          simp only [hwj, if_true] at h1
          split
          · rename_i hej
            simp only [hej, if_true] at h1
            unfold effAt at h1 ⊢
            rw [ej] at h1
            exact effAt_mono (o := oj) (a := a) (fun u w' ⟨hl, h⟩ => ⟨hl, back u w' h (left_after hC hS hj hoj hl)⟩) h1
          · rename_i hej
            simp only [hej] at h1
            obtain ⟨u, q1, h⟩ := h1
            exact ⟨u, q1.of_same (ej undef).symm, back u w h (fun hq => hS (quietLeft_set hq))⟩
        · rename_i hwj
          simp only [hwj] at h1
          exact back undef w h1 (fun hq => hS (quietLeft_set hq))

/-! ### the walk in the order of the text -/
def wpMix (P : Program) (md : Region.Mode) (ops : Array Oper) (S : World → Prop) (Q : Exit → Act → World → Prop) : List Oper → Act → World → Prop
  | [], a, w => Q .normal a w
  | o :: rest, a, w => if Region.wanted o (yielded ops a.tmps) = true then
      (if opEff ops o = true then effAt P o a w (fun v w' => (loose md ops o = true → S w') ∧ wpMix P md ops S Q rest (a.put o.dst v) w') else ∃ v, QuietAt P (Cls S o) o v a ∧ wpMix P md ops S Q rest (a.put o.dst v) w)
    else wpMix P md ops S Q rest (a.put o.dst undef) w

def mixFree (md : Region.Mode) (ops : Array Oper) (listed : Array Bool) (i : Nat) : Bool :=
  match ops[i]? with
  | none => false
  | some oi => (List.range ops.size).all fun j => j == i || listed.getD j true || match ops[j]? with
      | some oj => waitsT md ops 6 oj i || (oi.apart ops oj && (!opEff ops oi || !opEff ops oj))
      | none => true
def mixFrom (md : Region.Mode) (ops : Array Oper) : Nat → Nat → Array Bool → Bool
  | 0, _, listed => (Region.ready md ops listed).isEmpty
  | fuel + 1, k, listed => (Region.ready md ops listed).contains k && mixFree md ops listed k && mixFrom md ops fuel (k + 1) (listed.setIfInBounds k true)
def mixB (md : Region.Mode) (ops : Array Oper) : Bool := Region.noSelect ops && mixFrom md ops ops.size 0 (Array.replicate ops.size false)

theorem mixFree_spec {i : Nat} {oi : Oper} {listed : Array Bool} (hi : ops[i]? = some oi) (h : mixFree md ops listed i = true) (j : Nat) (oj : Oper)
    (hj : ops[j]? = some oj) (hne : j ≠ i) (hun : listed.getD j true = false) (hno : waitsT md ops 6 oj i = false) :
    oi.apart ops oj = true ∧ (opEff ops oi = true → opEff ops oj = false) := by
  simp only [mixFree, hi, List.all_eq_true, List.mem_range] at h
  have h1 := h j (Array.getElem?_eq_some_iff.1 hj).1
  simp only [hj, Bool.or_eq_true, beq_iff_eq, hne, false_or, hun, Bool.false_eq_true, Bool.and_eq_true, Bool.not_eq_true'] at h1
  rcases h1 with h1 | ⟨h1, h2⟩
  · rw [hno] at h1; cases h1
  · refine ⟨h1, fun he => ?_⟩
    rcases h2 with h2 | h2
    · rw [he] at h2; cases h2
    · exact h2

theorem wpAnyM_lex (hs : Region.noSelect ops = true) : ∀ (l : List Oper) (k : Nat) (listed : Array Bool) (a : Act) (w : World), (∀ j, l[j]? = ops[k + j]?) →
    mixFrom md ops l.length k listed = true → Shut md ops listed → (quietLeft ops listed → S w) → wpMix P md ops S Q l a w → wpAnyM P md ops Q S l.length listed a w
  | [], _, _, _, _, _, hB, _, _, h => ⟨by simpa [mixFrom] using hB, h⟩
  | o :: l, k, listed, a, w, hl, hB, hC, hS, h => by
    have h0 : ops[k]? = some o := by simpa using (hl 0).symm
    simp only [List.length_cons, mixFrom, Bool.and_eq_true] at hB
    obtain ⟨⟨hr, hf⟩, hB'⟩ := hB
    have hr' : k ∈ Region.ready md ops listed := by simpa using hr
    have hl' : ∀ j, l[j]? = ops[k + 1 + j]? := fun j => by have := hl (j + 1); simpa [Nat.add_assoc, Nat.add_comm 1 j] using this
    refine wpAnyM_first h0 (Region.noSelect_spec hs) l.length listed a w (mixFree_spec h0 hf) hr' hC hS ?_
    unfold mixOp
    unfold wpMix at h
    simp only [h0]
    split
    · rename_i hw
      simp only [hw, if_true] at h
      split
      · rename_i he
        simp only [he, if_true] at h
        exact effAt_mono (fun v w' ⟨hl2, h2⟩ => ⟨hl2, wpAnyM_lex hs l (k + 1) _ _ _ hl' hB' (hC.set hr') (left_after hC hS hr' h0 hl2) h2⟩) h
      · rename_i he
        simp only [he] at h
        obtain ⟨v, q, h2⟩ := h
        have he' : opEff ops o = false := by simpa using he
        exact ⟨v, q, wpAnyM_lex hs l (k + 1) _ _ _ hl' hB' (hC.set hr') (fun hq => hS (quietLeft_set hq)) h2⟩
    · rename_i hw
      simp only [hw] at h
      exact wpAnyM_lex hs l (k + 1) _ _ _ hl' hB' (hC.set hr') (fun hq => hS (quietLeft_set hq)) h

/-- One walk in the order of the text serves every order. -/
theorem wp_region_mix {id : Nat} {a : Act} {w : World} {l : List Oper} (S : World → Prop) (hm : P.follows .mixedOrders = true) (hB : mixB .any l.toArray = true) (hS : S w.drew)
    (h : wpMix P .any l.toArray S Q l a w.drew) : (Code.region id l.toArray true).wp P Q a w := by
  simp only [mixB, Bool.and_eq_true] at hB
  have hC : Shut .any l.toArray (Array.replicate l.toArray.size false) := fun k ok _ hl => by
    rcases Nat.lt_or_ge k (Array.replicate l.toArray.size false).size with h' | h'
    · simp at h'; simp [h'] at hl
    · rw [Array.getD_eq_getD_getElem?, Array.getElem?_eq_none h'] at hl; cases hl
  refine wp_region_any hm (wpAny_of_mix (S := S) _ _ _ _ hC (fun _ => hS) ?_)
  have := wpAnyM_lex (P := P) (Q := Q) (S := S) (md := .any) hB.1 l 0 (Array.replicate l.toArray.size false) a w.drew (by simp) (by simpa using hB.2) hC (fun _ => hS) h
  exact this

variable {a : Act} {w : World} {o : Oper} {rest : List Oper}
theorem mix_nil (h : Q .normal a w) : wpMix P md ops S Q [] a w := h
theorem mix_skip (hw : Region.wanted o (yielded ops a.tmps) = false) (h : wpMix P md ops S Q rest (a.put o.dst undef) w) : wpMix P md ops S Q (o :: rest) a w := by
  unfold wpMix; simp only [hw]; exact h
theorem mix_quiet (hw : Region.wanted o (yielded ops a.tmps) = true) (he : opEff ops o = false) (v : Value) (hq : ∀ w', Cls S o w' → (execOp a.eval o).run P w' = .ok (.value v) w')
    (h : wpMix P md ops S Q rest (a.put o.dst v) w) : wpMix P md ops S Q (o :: rest) a w := by
  unfold wpMix; simp only [hw, he, if_true]; exact ⟨v, fun w' hS => .inl (hq w' hS), h⟩
theorem mix_quietE (hw : Region.wanted o (yielded ops a.tmps) = true) (he : opEff ops o = false) (h : ∃ v : Value, (∀ w', Cls S o w' → (execOp a.eval o).run P w' = .ok (.value v) w') ∧ wpMix P md ops S Q rest (a.put o.dst v) w) :
    wpMix P md ops S Q (o :: rest) a w := let ⟨v, hq, h⟩ := h; mix_quiet hw he v hq h
theorem mix_pureE (hw : Region.wanted o (yielded ops a.tmps) = true) (he : opEff ops o = false) (h : ∃ v : Value, (∀ w', (execOp a.eval o).run P w' = .ok (.value v) w') ∧ wpMix P md ops S Q rest (a.put o.dst v) w) :
    wpMix P md ops S Q (o :: rest) a w := let ⟨v, hq, h⟩ := h; mix_quiet hw he v (fun w' _ => hq w') h
theorem mix_readE (hw : Region.wanted o (yielded ops a.tmps) = true) (he : opEff ops o = false) (hr : opRead o = true) (h : ∃ v : Value, (∀ w', S w' → (execOp a.eval o).run P w' = .ok (.value v) w') ∧ wpMix P md ops S Q rest (a.put o.dst v) w) :
    wpMix P md ops S Q (o :: rest) a w := let ⟨v, hq, h⟩ := h; mix_quiet hw he v (fun w' hS => hq w' (hS hr)) h
theorem mix_nop (hw : Region.wanted o (yielded ops a.tmps) = true) (he : opEff ops o = false) (hq : ∀ w', Cls S o w' → (execOp a.eval o).run P w' = .ok .skip w')
    (h : wpMix P md ops S Q rest (a.put o.dst undef) w) : wpMix P md ops S Q (o :: rest) a w := by
  unfold wpMix; simp only [hw, he, if_true]; exact ⟨undef, fun w' hS => .inr ⟨hq w' hS, rfl⟩, h⟩
theorem mix_eff (hw : Region.wanted o (yielded ops a.tmps) = true) (he : opEff ops o = true)
    (h : wpList P ops (ThenQ fun a' w' => a'.defers = a.defers ∧ (loose md ops o = true → S w') ∧ wpMix P md ops S Q rest a' w') [o] a w) : wpMix P md ops S Q (o :: rest) a w := by
  have := effAt_of_wpList hw h
  unfold wpMix; simp only [hw, he, if_true]; exact this
theorem then_mix {d : List Deferred} (hd : a.defers = d) (hS : loose md ops o = true → S w) (h : wpMix P md ops S Q rest a w) :
    ThenQ (fun a' w' => a'.defers = d ∧ (loose md ops o = true → S w') ∧ wpMix P md ops S Q rest a' w') .normal a w := ⟨hd, hS, h⟩
theorem mix_putK {a : Act} (h : ∀ K : Act → Prop, (∀ a, wpMix P md ops S Q rest a w → K a) → K a) : wpMix P md ops S Q rest a w := h _ (fun _ h => h)
/-- All that was there is as it was. -/
def Old (w w' : World) : Prop := RowKit.Below w.heap.size w w'
theorem Old.mk {w w' : World} (h : RowKit.Below w.heap.size w w') : Old w w' := h
theorem Old.cells {W w1 : World} (hb : Old W w1) : (∀ b o, b < W.heap.size → w1.cell? ⟨b, o, none⟩ = W.cell? ⟨b, o, none⟩) ∧ (∀ b o, b < W.heap.size → w1.frozen? ⟨b, o, none⟩ = W.frozen? ⟨b, o, none⟩) :=
  ⟨fun b o h => RowKit.Below.cell hb (p := ⟨b, o, none⟩) h, fun b o h => RowKit.Below.frozen hb (p := ⟨b, o, none⟩) h⟩
theorem wp_region_mixB {id : Nat} {a : Act} {w : World} {l : List Oper} (hm : P.follows .mixedOrders = true) (hB : mixB .any l.toArray = true)
    (h : wpMix P .any l.toArray (Old w) Q l a w.drew) : (Code.region id l.toArray true).wp P Q a w :=
  wp_region_mix _ hm hB (Old.mk (RowKit.Below.refl _ _).drew) h
end
attribute [irreducible] wpMix
end Go.Proofs.Ytcdpalpoanlbmaa
