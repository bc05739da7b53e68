/- A region whose order of evaluation is open, by facts: each operation, whenever it comes, leaves a value of its kind; no order is walked. -/
import Derived.Test.YtcdpalpoanlbmaaMix
namespace Go.Proofs.Ytcdpalpoanlbmaa
open Go
set_option linter.unusedVariables false
set_option linter.unusedSimpArgs false

section
variable {P : Program} {ops : Array Oper} {Q : Exit → Act → World → Prop} {J : Bool → Nat → World → Prop} {L : List Nat} {S : World → World → Prop} {T : Nat → Value → World → Prop} {a0 : Act}

/-- The operations whose values this one looks at, and where these lie. -/
def facDeps (ops : Array Oper) (o : Oper) : List (Nat × Tmp) :=
  (o.looksAt ops).filterMap fun t => (ops.toList.findIdx? fun p => p.dst == some t).map fun j => (j, t)
def facDsts (ops : Array Oper) : List (Nat × Tmp) := ops.toList.zipIdx.filterMap fun p => p.1.dst.map fun t => (p.2, t)
/-- Whatever values of their kinds lie there. -/
def Served (T : Nat → Value → World → Prop) (w : World) : List (Nat × Tmp) → Act → (Act → Prop) → Prop
  | [], a, K => K a
  | d :: r, a, K => ∀ v, T d.1 v w → Served T w r (a.put (some d.2) v) K
def putAll (a : Act) : List (Nat × Tmp) → Act → Act
  | [], b => b
  | d :: r, b => putAll a r (b.put (some d.2) (a.tmps.getD d.2 undef))
theorem Served.use {w : World} {K : Act → Prop} (a : Act) : ∀ (ds : List (Nat × Tmp)) (b : Act), Served T w ds b K → (∀ d ∈ ds, T d.1 (a.tmps.getD d.2 undef) w) → K (putAll a ds b)
  | [], b, h, _ => h
  | d :: r, b, h, hT => Served.use a r _ (h _ (hT d (List.mem_cons_self ..))) fun e he => hT e (List.mem_cons_of_mem _ he)
theorem putAll_defers (a : Act) : ∀ (ds : List (Nat × Tmp)) (b : Act), (putAll a ds b).defers = b.defers
  | [], _ => rfl
  | d :: r, b => putAll_defers a r _
theorem putAll_size (a : Act) : ∀ (ds : List (Nat × Tmp)) (b : Act), (putAll a ds b).tmps.size = b.tmps.size
  | [], _ => rfl
  | d :: r, b => (putAll_size a r _).trans (by simp [Act.put])
theorem put_getD {b : Act} {t u : Tmp} {v : Value} : (b.put (some t) v).tmps.getD u undef = if u = t ∧ t < b.tmps.size then v else b.tmps.getD u undef := by
  simp only [Act.put, Array.getD_eq_getD_getElem?, Array.getElem?_setIfInBounds]
  by_cases h : t = u
  · subst h
    by_cases h2 : t < b.tmps.size <;> simp [h2]
  · simp [h, Ne.symm h]
theorem putAll_get (a : Act) (t : Tmp) : ∀ (ds : List (Nat × Tmp)) (b : Act), (putAll a ds b).tmps.getD t undef = if (∃ d ∈ ds, d.2 = t) ∧ t < b.tmps.size then a.tmps.getD t undef else b.tmps.getD t undef
  | [], b => by simp [putAll]
  | d :: r, b => by
    rw [putAll, putAll_get a t r, put_getD]
    have hs : (b.put (some d.2) (a.tmps.getD d.2 undef)).tmps.size = b.tmps.size := by simp [Act.put]
    rw [hs]
    by_cases h1 : t < b.tmps.size
    · by_cases h2 : ∃ e ∈ r, e.2 = t
      · rw [if_pos ⟨h2, h1⟩, if_pos ⟨let ⟨e, h3, h4⟩ := h2; ⟨e, List.mem_cons_of_mem _ h3, h4⟩, h1⟩]
      · rw [if_neg (fun (h : (∃ e ∈ r, e.2 = t) ∧ _) => h2 h.1)]
        by_cases h3 : t = d.2
        · rw [if_pos ⟨h3, h3 ▸ h1⟩, if_pos ⟨⟨d, List.mem_cons_self .., h3.symm⟩, h1⟩, h3]
        · rw [if_neg (fun (h : t = d.2 ∧ _) => h3 h.1), if_neg]
          rintro ⟨⟨e, h4, h5⟩, _⟩
          rcases List.mem_cons.1 h4 with rfl | h4
          · exact h3 h5.symm
          · exact h2 ⟨e, h4, h5⟩
    · rw [if_neg (fun (h : (∃ e ∈ r, e.2 = t) ∧ _) => h1 h.2), if_neg (fun (h : t = d.2 ∧ _) => h1 (h.1 ▸ h.2)), if_neg (fun (h : (∃ e ∈ d :: r, e.2 = t) ∧ _) => h1 h.2)]

/-- What the region has to be like. -/
def facB (ops : Array Oper) (n : Nat) : Bool :=
  Region.noSelect ops && (List.range ops.size).all fun i => match ops[i]? with
    | none => true
    | some o => o.after.all (fun e => !Region.binds .any e || decide (e.on < i)) && (facDeps ops o).all (fun d => waitsT .any ops 5 o d.1) &&
      (match o.dst with
        | none => true
        | some t => decide (t < n) && (List.range ops.size).all fun k => k == i || (match ops[k]? with | some ok => ok.dst != some t | none => true))
theorem facB_spec {n : Nat} (h : facB ops n = true) : Region.noSelect ops = true ∧ ∀ i o, ops[i]? = some o →
    (∀ e ∈ o.after, Region.binds .any e = true → e.on < i) ∧ (∀ d ∈ facDeps ops o, waitsT .any ops 5 o d.1 = true) ∧
    ∀ t, o.dst = some t → t < n ∧ ∀ k ok, ops[k]? = some ok → k ≠ i → ok.dst ≠ some t := by
  unfold facB at h
  rw [Bool.and_eq_true, List.all_eq_true] at h
  refine ⟨h.1, fun i o ho => ?_⟩
  have hlt := (Array.getElem?_eq_some_iff.1 ho).1
  have h2 := h.2 i (List.mem_range.2 hlt)
  simp only [ho, Bool.and_eq_true] at h2
  obtain ⟨⟨h3, h4⟩, h5⟩ := h2
  refine ⟨fun e he hb => ?_, fun d hd => List.all_eq_true.1 h4 d hd, fun t ht => ?_⟩
  · have := Array.all_eq_true_iff_forall_mem.1 h3 e he
    simpa [hb] using this
  · simp only [ht, Bool.and_eq_true, List.all_eq_true, decide_eq_true_eq] at h5
    refine ⟨h5.1, fun k ok hk hne => ?_⟩
    have := h5.2 k (List.mem_range.2 (Array.getElem?_eq_some_iff.1 hk).1)
    simp only [hk] at this
    simpa [hne] using this
theorem facDeps_mem {o : Oper} {d : Nat × Tmp} (h : d ∈ facDeps ops o) : d.2 ∈ o.looksAt ops ∧ ∃ oj, ops[d.1]? = some oj ∧ oj.dst = some d.2 := by
  unfold facDeps at h
  obtain ⟨t, ht, h2⟩ := List.mem_filterMap.1 h
  obtain ⟨j, hj, rfl⟩ := Option.map_eq_some_iff.1 h2
  refine ⟨ht, ?_⟩
  obtain ⟨hlt, hp, _⟩ := List.findIdx?_eq_some_iff_getElem.1 hj
  refine ⟨ops.toList[j], ?_, by simpa using hp⟩
  rw [← Array.getElem?_toList]
  exact List.getElem?_eq_getElem hlt
theorem facDeps_of {o ok : Oper} {k : Nat} {t : Tmp} (ht : t ∈ o.looksAt ops) (hk : ops[k]? = some ok) (hd : ok.dst = some t) : ∃ d ∈ facDeps ops o, d.2 = t := by
  have hm : ok ∈ ops.toList := List.mem_of_getElem? (by rw [Array.getElem?_toList]; exact hk)
  cases hf : ops.toList.findIdx? (fun p => p.dst == some t) with
  | none =>
    have := List.findIdx?_eq_none_iff.1 hf ok hm
    simp [hd] at this
  | some j => exact ⟨(j, t), List.mem_filterMap.2 ⟨t, ht, by rw [hf]; rfl⟩, rfl⟩
theorem facDsts_mem {d : Nat × Tmp} (h : d ∈ facDsts ops) : ∃ oj, ops[d.1]? = some oj ∧ oj.dst = some d.2 := by
  unfold facDsts at h
  obtain ⟨p, hp, h2⟩ := List.mem_filterMap.1 h
  obtain ⟨t, ht, rfl⟩ := Option.map_eq_some_iff.1 h2
  have := List.mem_zipIdx_iff_getElem?.1 hp
  exact ⟨p.1, by rw [← Array.getElem?_toList]; exact this, ht⟩
theorem facDsts_of {ok : Oper} {k : Nat} {t : Tmp} (hk : ops[k]? = some ok) (hd : ok.dst = some t) : ∃ d ∈ facDsts ops, d.2 = t :=
  ⟨(k, t), List.mem_filterMap.2 ⟨(ok, k), List.mem_zipIdx_iff_getElem?.2 (by rw [Array.getElem?_toList]; exact hk), by rw [hd]; rfl⟩, rfl⟩

/-- How many have not come up. -/
def leftN (listed : Array Bool) : Nat → Nat
  | 0 => 0
  | k + 1 => leftN listed k + if listed.getD k true = true then 0 else 1
theorem leftN_past {listed : Array Bool} {i : Nat} : ∀ k, k ≤ i → leftN (listed.setIfInBounds i true) k = leftN listed k
  | 0, _ => rfl
  | k + 1, h => by rw [leftN, leftN, leftN_past k (by omega), getD_set_ne true (by omega)]
theorem leftN_set {listed : Array Bool} {i : Nat} (hi : listed.getD i true = false) : ∀ k, i < k → leftN (listed.setIfInBounds i true) k + 1 = leftN listed k
  | 0, h => absurd h (Nat.not_lt_zero _)
  | k + 1, h => by
    by_cases e : i = k
    · subst e
      rw [leftN, leftN, leftN_past i (Nat.le_refl _), hi]
      have hlt : i < listed.size := by
        rcases Nat.lt_or_ge i listed.size with h' | h'
        · exact h'
        · simp [Array.getElem?_eq_none h'] at hi
      simp [hlt]
    · have := leftN_set hi k (by omega)
      rw [leftN, leftN, getD_set_ne true e]
      omega
theorem leftN_zero {listed : Array Bool} : ∀ k, leftN listed k = 0 → ∀ i, i < k → listed.getD i true = true
  | 0, _, i, h => absurd h (Nat.not_lt_zero _)
  | k + 1, h, i, hi => by
    rw [leftN] at h
    by_cases e : i = k
    · subst e
      cases hl : listed.getD i true with
      | true => rfl
      | false => rw [hl] at h; simp at h
    · exact leftN_zero k (by omega) i (by omega)
theorem leftN_all {listed : Array Bool} : ∀ k, (∀ i, i < k → listed.getD i true = true) → leftN listed k = 0
  | 0, _ => rfl
  | k + 1, h => by rw [leftN, leftN_all k (fun i hi => h i (by omega)), h k (by omega)]; rfl
theorem leftN_none : ∀ (n k : Nat), k ≤ n → leftN (Array.replicate n false) k = k
  | _, 0, _ => rfl
  | n, k + 1, h => by rw [leftN, leftN_none n k (by omega)]; simp [show k < n by omega]

/-- Whether one of the last, L, has come up; and whether all of these wait for number i. -/
def lateB (L : List Nat) (listed : Array Bool) : Bool := L.any fun m => listed.getD m false
def earlyB (ops : Array Oper) (L : List Nat) (i : Nat) : Bool := L.all fun m => match ops[m]? with | some om => waitsT .any ops 5 om i | none => true
theorem lateB_set {listed : Array Bool} {i : Nat} (hi : i < listed.size) : lateB L (listed.setIfInBounds i true) = bif L.contains i then true else lateB L listed := by
  unfold lateB
  induction L with
  | nil => rfl
  | cons m r ih =>
    simp only [List.any_cons, ih, List.contains_cons]
    by_cases h : i = m
    · subst h; simp [hi]
    · rw [getD_set_ne false h]
      have : (i == m) = false := by simpa using h
      simp only [this, Bool.false_or]
      cases r.contains i <;> simp
theorem early_late {listed : Array Bool} {i : Nat} (hC : Shut .any ops listed) (hi : listed.getD i true = false) (h : earlyB ops L i = true) (hL : ∀ m ∈ L, m < ops.size) : lateB L listed = false := by
  unfold lateB
  rw [List.any_eq_false]
  intro m hm hl
  unfold earlyB at h
  have h1 := List.all_eq_true.1 h m hm
  have hlt := hL m hm
  have ho : ops[m]? = some ops[m] := by simp [hlt]
  rw [ho] at h1
  have h2 := hC.waits 5 ops[m] i (fun e he hb => hC m ops[m] ho hl e he hb) h1
  rw [getD_both' hi] at h2
  cases h2

/-- What is known on the way. -/
structure FacInv (ops : Array Oper) (L : List Nat) (J : Bool → Nat → World → Prop) (T : Nat → Value → World → Prop) (a0 : Act) (n : Nat) (listed : Array Bool) (a : Act) (w : World) : Prop where
  j : J (lateB L listed) n w
  d : a.defers = a0.defers
  s : a.tmps.size = a0.tmps.size
  z : listed.size = ops.size
  old : ∀ t, (∀ i o, ops[i]? = some o → listed.getD i false = true → o.dst ≠ some t) → a.tmps.getD t undef = a0.tmps.getD t undef
  k : ∀ i o t, ops[i]? = some o → o.dst = some t → listed.getD i false = true → T i (a.tmps.getD t undef) w
  shut : Shut .any ops listed
theorem getD_size {listed : Array Bool} {i : Nat} (h : i < listed.size) (d e : Bool) : listed.getD i d = listed.getD i e := by simp [Array.getD_eq_getD_getElem?, h]

/-- What an operation owes. -/
def FacOb (P : Program) (ops : Array Oper) (J : Nat → World → Prop) (S : World → World → Prop) (T : Nat → Value → World → Prop) (n i : Nat) (o : Oper) (w : World) (a : Act) : Prop :=
  if Region.wanted o (yielded ops a.tmps) = true then effAt P o a w (fun v w' => J (n + 1) w' ∧ S w w' ∧ T i v w') else J (n + 1) w ∧ T i undef w

theorem getElem_of_getD {a b : Array Value} (hs : a.size = b.size) {t : Nat} (h : a.getD t undef = b.getD t undef) : a[t]? = b[t]? := by
  rcases Nat.lt_or_ge t a.size with h1 | h1
  · have h2 : t < b.size := hs ▸ h1
    simp only [Array.getD_eq_getD_getElem?, Array.getElem?_eq_getElem h1, Array.getElem?_eq_getElem h2, Option.getD_some] at h
    rw [Array.getElem?_eq_getElem h1, Array.getElem?_eq_getElem h2, h]
  · rw [Array.getElem?_eq_none h1, Array.getElem?_eq_none (hs ▸ h1)]
theorem act_ext {a b : Act} (hs : a.tmps.size = b.tmps.size) (hd : a.defers = b.defers) (h : ∀ t, a.tmps.getD t undef = b.tmps.getD t undef) : a = b := by
  have ht : a.tmps = b.tmps := Array.ext_getElem? fun t => getElem_of_getD hs (h t)
  cases a; cases b; simp at ht hd; rw [ht, hd]

theorem fac_run {L : List Nat} {J : Bool → Nat → World → Prop} (hB : facB ops a0.tmps.size = true) (hrefl : ∀ w, S w w) (hT : ∀ i v w w', S w w' → T i v w → T i v w')
    (hL : ∀ m ∈ L, m < ops.size)
    (hop : ∀ i o, ops[i]? = some o → ∀ b n w, n < ops.size → (earlyB ops L i = true → b = false) → J b n w → Served T w (facDeps ops o) a0 (FacOb P ops (J (bif L.contains i then true else b)) S T n i o w))
    (hQ : ∀ w, J (!L.isEmpty) ops.size w → Served T w (facDsts ops) a0 (fun a => Q .normal a w)) :
    ∀ (fuel n : Nat) (listed : Array Bool) (a : Act) (w : World), n + fuel = ops.size → leftN listed ops.size = fuel → FacInv ops L J T a0 n listed a w → wpAny P .any ops Q fuel listed a w := by
  obtain ⟨hns, hB⟩ := facB_spec hB
  have hend : ∀ (listed : Array Bool), listed.size = ops.size → Region.ready .any ops listed = [] → ∀ i, i < ops.size → listed.getD i true = true := by
    intro listed hz hr i
    induction i using Nat.strongRecOn with
    | ind i ih =>
      intro hi
      cases hl : listed.getD i true with
      | true => rfl
      | false =>
        have hm : i ∈ Region.ready .any ops listed := mem_ready.2 ⟨hl, ops[i], by simp [hi], fun e he hb => by
          have h1 := (hB i ops[i] (by simp [hi])).1 e he hb
          rw [getD_size (by rw [hz]; omega) false true]
          exact ih e.on h1 (by omega)⟩
        rw [hr] at hm; cases hm
  intro fuel
  induction fuel with
  | zero =>
    intro n listed a w hn hl hI
    have hall := leftN_zero ops.size hl
    refine ⟨?_, ?_⟩
    · cases hr : Region.ready .any ops listed with
      | nil => rfl
      | cons i r =>
        have hm : i ∈ Region.ready .any ops listed := by rw [hr]; exact List.mem_cons_self ..
        obtain ⟨h1, o, h2, _⟩ := mem_ready.1 hm
        rw [hall i (Array.getElem?_eq_some_iff.1 h2).1] at h1; cases h1
    · have h1 := (hQ w (by
          rw [show ops.size = n by omega]
          have hj := hI.j
          rw [show lateB L listed = !L.isEmpty from by
            unfold lateB
            cases L with
            | nil => rfl
            | cons m r =>
              have hm := hL m (List.mem_cons_self ..)
              simp only [List.any_cons, List.isEmpty_cons, Bool.not_false, Bool.or_eq_true]
              exact Or.inl (by rw [getD_size (by rw [hI.z]; exact hm) false true]; exact hall m hm)] at hj
          exact hj)).use a _ _ fun d hd => by
        obtain ⟨oj, h2, h3⟩ := facDsts_mem hd
        have hlt := (Array.getElem?_eq_some_iff.1 h2).1
        exact hI.k d.1 oj d.2 h2 h3 (by rw [getD_size (by rw [hI.z]; exact hlt) false true]; exact hall _ hlt)
      have he : putAll a (facDsts ops) a0 = a := by
        refine act_ext ((putAll_size ..).trans hI.s.symm) ((putAll_defers ..).trans hI.d.symm) fun t => ?_
        rw [putAll_get]
        split
        · rfl
        · rename_i hno
          refine (hI.old t fun i o ho _ hd => hno ⟨facDsts_of ho hd, ((hB i o ho).2.2 t hd).1⟩).symm
      rw [he] at h1
      exact h1
  | succ fuel ih =>
    intro n listed a w hn hl hI
    refine ⟨fun hr => ?_, fun i hi => ?_⟩
    · have := leftN_all ops.size (hend listed hI.z hr); omega
    · obtain ⟨hun, o, ho, hall⟩ := mem_ready.1 hi
      have hlt := (Array.getElem?_eq_some_iff.1 ho).1
      obtain ⟨_, hdep, hdst⟩ := hB i o ho
      have h1 := (hop i o ho (lateB L listed) n w (by omega) (fun he => early_late hI.shut hun he hL) hI.j).use a _ _ fun d hd => by
        obtain ⟨_, oj, h2, h3⟩ := facDeps_mem hd
        exact hI.k d.1 oj d.2 h2 h3 (hI.shut.waits 5 o d.1 hall (hdep d hd))
      have hsz : (putAll a (facDeps ops o) a0).tmps.size = a.tmps.size := (putAll_size ..).trans hI.s.symm
      have hag : ∀ t, t ∈ o.looksAt ops → (putAll a (facDeps ops o) a0).tmps.getD t undef = a.tmps.getD t undef := by
        intro t ht
        rw [putAll_get]
        split
        · rfl
        · rename_i hno
          exact (hI.old t fun k ok hk _ hd => hno ⟨facDeps_of ht hk hd, ((hB k ok hk).2.2 t hd).1⟩).symm
      have hex : execOp (putAll a (facDeps ops o) a0).eval o = execOp a.eval o := by
        refine execOp_congr o (fun cs b => Region.noSelect_spec hns i o cs b ho) fun x hx => ?_
        cases x with
        | tmp t => exact hag t (List.mem_append_left _ (List.mem_filterMap.2 ⟨.tmp t, by simpa using hx, rfl⟩))
        | _ => rfl
      have hwa : Region.wanted o (yielded ops (putAll a (facDeps ops o) a0).tmps) = Region.wanted o (yielded ops a.tmps) := by
        unfold Region.wanted
        cases hg : o.guard with
        | none => rfl
        | some gw =>
          obtain ⟨g, want⟩ := gw
          have hy : yielded ops (putAll a (facDeps ops o) a0).tmps g = yielded ops a.tmps g := by
            unfold yielded
            cases ht : (ops[g]?).bind (·.dst) with
            | none => rfl
            | some t =>
              have := getElem_of_getD hsz (hag t (by simp [Oper.looksAt, hg, ht]))
              simp only [Option.bind_some, this]
          simp only [hy]
      have hnext : ∀ v w', J (bif L.contains i then true else lateB L listed) (n + 1) w' → S w w' → T i v w' → FacInv ops L J T a0 (n + 1) (listed.setIfInBounds i true) (a.put o.dst v) w' := by
        intro v w' hj hs ht
        refine ⟨by rw [lateB_set (by rw [hI.z]; exact hlt)]; exact hj, ?_, ?_, ?_, ?_, ?_, hI.shut.set hi⟩
        · rw [← hI.d]; cases o.dst <;> rfl
        · rw [← hI.s]; cases o.dst <;> simp [Act.put]
        · simpa using hI.z
        · intro t hno
          have h2 : o.dst ≠ some t := hno i o ho (by simp [hI.z, hlt])
          have h3 := hI.old t fun k ok hk hkl => hno k ok hk (getD_set_true hkl)
          rw [← h3]
          cases hd : o.dst with
          | none => rfl
          | some u =>
            rw [put_getD, if_neg]
            rintro ⟨rfl, _⟩
            exact h2 hd
        · intro k ok t hk hd hkl
          by_cases hki : k = i
          · subst hki
            obtain rfl : ok = o := Option.some.inj (hk.symm.trans ho)
            rw [hd, put_getD, if_pos ⟨rfl, by rw [hI.s]; exact (hdst t hd).1⟩]
            exact ht
          · rw [getD_set_ne false (Ne.symm hki)] at hkl
            have h2 := hT k _ w w' hs (hI.k k ok t hk hd hkl)
            cases hd2 : o.dst with
            | none => exact h2
            | some u =>
              rw [put_getD, if_neg]
              · exact h2
              · rintro ⟨rfl, _⟩
                exact (hdst t hd2).2 k ok hk hki hd
      have hl' : leftN (listed.setIfInBounds i true) ops.size = fuel := by have := leftN_set hun ops.size hlt; omega
      unfold wpOp
      simp only [ho]
      unfold FacOb at h1
      rw [hwa] at h1
      split
      · rename_i hw
        rw [if_pos hw] at h1
        refine .inl (effAt_wp ?_)
        unfold effAt at h1 ⊢
        rw [hex] at h1
        exact effAt_mono (o := o) (a := a) (fun v w' ⟨h2, h3, h4⟩ => ih (n + 1) _ _ _ (by omega) hl' (hnext v w' h2 h3 h4)) h1
      · rename_i hw
        rw [if_neg hw] at h1
        exact ih (n + 1) _ _ _ (by omega) hl' (hnext undef w h1.1 (hrefl w) h1.2)

/-- All of them, one behind the other. -/
def FacAll (P : Program) (ops : Array Oper) (L : List Nat) (J : Bool → Nat → World → Prop) (S : World → World → Prop) (T : Nat → Value → World → Prop) (a0 : Act) : List Oper → Nat → Prop
  | [], _ => True
  | o :: r, i => (∀ b n w, n < ops.size → (earlyB ops L i = true → b = false) → J b n w → Served T w (facDeps ops o) a0 (FacOb P ops (J (bif L.contains i then true else b)) S T n i o w)) ∧ FacAll P ops L J S T a0 r (i + 1)
theorem FacAll.get : ∀ (l : List Oper) (k : Nat), FacAll P ops L J S T a0 l k → ∀ i o, l[i]? = some o → ∀ b n w, n < ops.size → (earlyB ops L (k + i) = true → b = false) → J b n w → Served T w (facDeps ops o) a0 (FacOb P ops (J (bif L.contains (k + i) then true else b)) S T n (k + i) o w)
  | [], _, _, i, o, h => by simp at h
  | x :: r, k, h, 0, o, ho => by simp at ho; subst ho; exact h.1
  | x :: r, k, h, i + 1, o, ho => by
    have := FacAll.get r (k + 1) h.2 i o (by simpa using ho)
    rw [show k + (i + 1) = k + 1 + i by omega]
    exact this
theorem wp_region_fac {id : Nat} {w : World} {l : List Oper} (L : List Nat) (J : Bool → Nat → World → Prop) (S : World → World → Prop) (T : Nat → Value → World → Prop)
    (hm : P.follows .mixedOrders = true) (hB : facB l.toArray a0.tmps.size = true) (hL : (L.all fun m => decide (m < l.length)) = true) (hrefl : ∀ w, S w w) (hT : ∀ i v w w', S w w' → T i v w → T i v w') (h0 : J false 0 w.drew)
    (hop : FacAll P l.toArray L J S T a0 l 0) (hQ : ∀ w, J (!L.isEmpty) l.length w → Served T w (facDsts l.toArray) a0 (fun a => Q .normal a w)) : (Code.region id l.toArray true).wp P Q a0 w := by
  have hno : ∀ i, (Array.replicate l.toArray.size false).getD i false = false := fun i => by
    rcases Nat.lt_or_ge i (Array.replicate l.toArray.size false).size with h' | h'
    · simp at h'; simp [h']
    · rw [Array.getD_eq_getD_getElem?, Array.getElem?_eq_none h']; rfl
  refine wp_region_any hm (fac_run (L := L) hB hrefl hT (fun m hm => by simpa using List.all_eq_true.1 hL m hm) (fun i o ho => ?_) (by simpa using hQ) l.toArray.size 0 (Array.replicate l.toArray.size false) a0 w.drew (by simp) (leftN_none _ _ (Nat.le_refl _)) ?_)
  · have := FacAll.get l 0 hop i o (by simpa using ho)
    rw [Nat.zero_add] at this
    exact this
  · refine ⟨?_, rfl, rfl, by simp, fun _ _ => rfl, fun i o t _ _ h => (by rw [hno] at h; cases h), fun k ok _ hl => (by rw [hno] at hl; cases hl)⟩
    rw [show lateB L (Array.replicate l.toArray.size false) = false from List.any_eq_false.2 fun m _ => by rw [hno]; exact Bool.false_ne_true]
    exact h0
theorem fac_cons {o : Oper} {r : List Oper} {i : Nat} (ds : List (Nat × Tmp)) (e c : Bool) (hd : facDeps ops o = ds) (he : (!e || earlyB ops L i) = true) (hc : L.contains i = c)
    (h : ∀ b n w, n < ops.size → (e = true → b = false) → J b n w → Served T w ds a0 (FacOb P ops (J (bif c then true else b)) S T n i o w)) (h2 : FacAll P ops L J S T a0 r (i + 1)) : FacAll P ops L J S T a0 (o :: r) i :=
  ⟨fun b n w hn hb hJ => hd ▸ hc ▸ h b n w hn (fun he' => hb (by simpa [he'] using he)) hJ, h2⟩
theorem fac_nil {i : Nat} : FacAll P ops L J S T a0 [] i := trivial
theorem fac_last (ds : List (Nat × Tmp)) (hd : facDsts ops = ds) {w : World} (h : Served T w ds a0 (fun a => Q .normal a w)) : Served T w (facDsts ops) a0 (fun a => Q .normal a w) := hd ▸ h
variable {o : Oper} {a : Act} {w : World} {n i : Nat} {t : Tmp} {J' : Nat → World → Prop}
/-- An operation with a result. -/
theorem fac_op (hw : Region.wanted o (yielded ops a.tmps) = true) (hd : o.dst = some t) (ht : t < a.tmps.size)
    (h : wpList P ops (ThenQ fun a' w' => a'.defers = a.defers ∧ J' (n + 1) w' ∧ S w w' ∧ T i (a'.tmps.getD t undef) w') [o] a w) : FacOb P ops J' S T n i o w a := by
  unfold FacOb
  rw [if_pos hw]
  refine effAt_mono (fun v w' h1 => ?_) (effAt_of_wpList hw h)
  rw [hd, put_getD, if_pos ⟨rfl, ht⟩] at h1
  exact h1
/-- An operation without one. -/
theorem fac_nop (hw : Region.wanted o (yielded ops a.tmps) = true) (hd : o.dst = none) (hi : ∀ v w', T i v w')
    (h : wpList P ops (ThenQ fun a' w' => a'.defers = a.defers ∧ J' (n + 1) w' ∧ S w w') [o] a w) : FacOb P ops J' S T n i o w a := by
  unfold FacOb
  rw [if_pos hw]
  exact effAt_mono (fun v w' h1 => ⟨h1.1, h1.2, hi _ _⟩) (effAt_of_wpList hw h)
theorem act_putK {Φ : Act → Prop} {a : Act} (h : ∀ K : Act → Prop, (∀ a, Φ a → K a) → K a) : Φ a := h _ (fun _ h => h)
end
attribute [irreducible] FacAll FacOb
end Go.Proofs.Ytcdpalpoanlbmaa
