/- Channels in one goroutine, inside a walk: rules for a frame of a plain call. Nothing here speaks of the program. -/
import Derived.Conc.LoneCalls
import Derived.Test.YtcdpalpoanlbmaaInts
namespace Go.Proofs.Ytcdpalpoanlbmaa
open Go Go.RowKit Go.Conc
set_option linter.unusedVariables false
set_option linter.unusedSimpArgs false
section
variable {P : Program} {Q : Exit → Act → World → Prop} {a : Act} {w : World} {ops : Array Oper}
/-- What a piece of code leaves, in a frame that is no initialiser's. -/
def wpN (P : Program) (c : Code) (Q : Exit → Act → World → Prop) (a : Act) (w : World) : Prop :=
  ∀ (b : Frame) (k : List Item) (cs : List Frame), b.kind ≠ .early → ∃ e a' w', Q e a' w' ∧ Arrives P (lone (b.at a (.code c :: k)) cs w) b k cs e a' w'
/-- .. from within a region. -/
def runsN (P : Program) (ops : Array Oper) (Q : Exit → Act → World → Prop) (l : List Nat) (a : Act) (w : World) : Prop :=
  ∀ (b : Frame) (k : List Item) (cs : List Frame), b.kind ≠ .early → ∃ e a' w', Q e a' w' ∧ Arrives P (lone (b.at a (.inRegion ops l :: k)) cs w) b k cs e a' w'
theorem wpN_of_wp {c : Code} (h : c.wp P Q a w) : wpN P c Q a w := fun b k cs _ => h b k cs
theorem wpN_seq {x y : Code} (h : wpN P x (Exit.then (wpN P y Q) Q) a w) : wpN P (Code.seq x y) Q a w := by
  intro b k cs hb
  obtain ⟨e, a1, w1, hq, har⟩ := h b (.code y :: k) cs hb
  cases e with
  | normal =>
    obtain ⟨e2, a2, w2, q2, h2⟩ := hq b k cs hb
    exact ⟨e2, a2, w2, q2, .of_steps (.head step_seq har) h2⟩
  | _ => exact ⟨_, a1, w1, hq, .of_steps (.one step_seq) (.pass (x := .code y) rfl (fun _ _ => .inl (by simp)) har)⟩
theorem wpN_seqK {x y : Code} (h : ∀ K : Act → World → Prop, (∀ a w, wpN P y Q a w → K a w) → wpN P x (Exit.then K Q) a w) : wpN P (Code.seq x y) Q a w := wpN_seq (h _ fun _ _ h => h)
theorem wpN_cond {c : Operand} {x y : Code} {t : Bool} (hc : a.eval c = .bool t) (h : wpN P (if t then x else y) Q a w) : wpN P (Code.cond c x y) Q a w :=
  fun b k cs hb => let ⟨e, a', w', q, r⟩ := h b k cs hb; ⟨e, a', w', q, .of_steps (.one (step_cond hc)) r⟩
theorem wpN_block {id : Nat} {c : Code} (h : wpN P c (Exit.inBlock id Q) a w) : wpN P (Code.block id c) Q a w := by
  intro b k cs hb
  obtain ⟨e, a1, w1, hq, har⟩ := h b (.inBlock id :: k) cs hb
  cases e with
  | normal => exact ⟨.normal, a1, w1, hq, .head step_block (Steps.trans har (.one step_inBlock))⟩
  | exit j =>
    by_cases hj : j = id
    · simp only [Exit.inBlock, hj, if_true] at hq
      exact ⟨.normal, a1, w1, hq, .head step_block (har k (by simp [exitTo, hj]))⟩
    · simp only [Exit.inBlock, hj, if_false] at hq
      refine ⟨.exit j, a1, w1, hq, fun k' hk => .head step_block (har k' ?_)⟩
      have : (id == j) = false := by simp; exact fun h => hj h.symm
      simp [exitTo, this, hk]
  | goto l => exact ⟨_, a1, w1, hq, fun k' hk => .head step_block (har k' (by simp [gotoIn, hk]))⟩
  | ret => exact ⟨_, a1, w1, hq, .of_steps (.one step_block) har⟩
  | panic ch => exact ⟨_, a1, w1, hq, .of_steps (.one step_block) har⟩
  | outgrown => exact ⟨_, a1, w1, hq, .of_steps (b := b) (k := k) (cs := cs) (e := .outgrown) (.one step_block) har⟩
theorem wpN_loop {c : Code} (I : Act → World → Prop) (m : Act → World → Nat) (h0 : I a w)
    (round : ∀ a w, I a w → wpN P c (Exit.then (fun a' w' => I a' w' ∧ m a' w' < m a w) Q) a w) : wpN P (Code.loop c) Q a w := by
  intro b k cs hb
  have key : ∀ n a w, m a w = n → I a w → ∃ e a' w', Q e a' w' ∧ Arrives P (lone (b.at a (.code c :: .inLoop c :: k)) cs w) b k cs e a' w' := by
    intro n
    induction n using Nat.strongRecOn with
    | _ n ih =>
      intro a w hn hI
      obtain ⟨e, a1, w1, hq, har⟩ := round a w hI b (.inLoop c :: k) cs hb
      cases e with
      | normal =>
        obtain ⟨e2, a2, w2, q2, h2⟩ := ih (m a1 w1) (hn ▸ hq.2) a1 w1 rfl hq.1
        exact ⟨e2, a2, w2, q2, .of_steps (Steps.trans har (.one step_inLoop)) h2⟩
      | _ => exact ⟨_, a1, w1, hq, .pass (x := .inLoop c) rfl (fun _ _ => .inl (by simp)) har⟩
  obtain ⟨e, a', w', hq, har⟩ := key _ a w rfl h0
  exact ⟨e, a', w', hq, .of_steps (.one step_loop) har⟩
theorem wpN_region {id : Nat} (h : runsN P ops Q (List.range ops.size) a w) : wpN P (Code.region id ops false) Q a w :=
  fun b k cs hb => let ⟨e, a', w', q, r⟩ := h b k cs hb; ⟨e, a', w', q, .of_steps (.one step_region) r⟩
theorem runsN_nil (h : Q .normal a w) : runsN P ops Q [] a w := fun b k cs _ => ⟨.normal, a, w, h, .one step_region_end⟩
theorem fin_at {b : Frame} {k : List Item} {i : Nat} {rest : List Nat} {o : Oper} (ho : ops[i]? = some o) (v : Value) : (b.at a (.inRegion ops (i :: rest) :: k)).finish v = b.at (a.put o.dst v) (.inRegion ops rest :: k) := by
  rw [Frame.finish_at, ho]; rfl
theorem runsN_value {i : Nat} {rest : List Nat} {o : Oper} {v : Value} {w' : World} (ho : ops[i]? = some o) (hw : Region.wanted o (yielded ops a.tmps) = true) (hr : (execOp a.eval o).run P w = .ok (.value v) w')
    (h : runsN P ops Q rest (a.put o.dst v) w') : runsN P ops Q (i :: rest) a w := by
  intro b k cs hb
  obtain ⟨e, a', w2, q, r⟩ := h b k cs hb
  refine ⟨e, a', w2, q, .of_steps (.one (step_lone_go ?_)) r⟩
  rw [stepG_op ho hw, ← fin_at ho]
  simp [stepG.apply, hr]
theorem runsN_send {i : Nat} {rest : List Nat} {o : Oper} {c cap s r : Nat} {buf : Array Value} {v z : Value} {tm : Bool} (ho : ops[i]? = some o) (hw : Region.wanted o (yielded ops a.tmps) = true)
    (hr : (execOp a.eval o).run P w = .ok (.comm #[scase c v z] true .send) w) (hc : w.heap[c]? = some (.chan cap buf false s r tm)) (hroom : buf.size < cap)
    (h : runsN P ops Q rest (a.put o.dst undef) (w.setChan c cap (buf.push v) false (s + 1) r tm)) : runsN P ops Q (i :: rest) a w := by
  intro b k cs hb
  obtain ⟨e, a', w2, q, r'⟩ := h b k cs hb
  refine ⟨e, a', w2, q, .of_steps (.one ?_) r'⟩
  rw [lone_eq_solo, lone_eq_solo, ← fin_at ho]
  exact step_lone_send_room (stepG_comm ho hw hb hr) hc hroom
theorem runsN_recv {i : Nat} {rest : List Nat} {o : Oper} {c cap s r : Nat} {buf : Array Value} {z : Value} {tm closed ok : Bool} (ho : ops[i]? = some o) (hw : Region.wanted o (yielded ops a.tmps) = true)
    (hr : (execOp a.eval o).run P w = .ok (.comm #[rcase c z] true (.recv ok)) w) (hc : w.heap[c]? = some (.chan cap buf closed s r tm)) (hsome : 0 < buf.size)
    (h : runsN P ops Q rest (a.put o.dst (got ok (buf.getD 0 undef) true)) (w.setChan c cap (buf.extract 1 buf.size) closed s (r + 1) tm)) : runsN P ops Q (i :: rest) a w := by
  intro b k cs hb
  obtain ⟨e, a', w2, q, r'⟩ := h b k cs hb
  refine ⟨e, a', w2, q, .of_steps (.one ?_) r'⟩
  rw [lone_eq_solo, lone_eq_solo, ← fin_at ho]
  exact step_lone_recv_buf ok (stepG_comm ho hw hb hr) hc hsome
theorem runsN_shut {i : Nat} {rest : List Nat} {o : Oper} {c cap s r : Nat} {z : Value} {tm ok : Bool} (ho : ops[i]? = some o) (hw : Region.wanted o (yielded ops a.tmps) = true)
    (hr : (execOp a.eval o).run P w = .ok (.comm #[rcase c z] true (.recv ok)) w) (hc : w.heap[c]? = some (.chan cap #[] true s r tm))
    (h : runsN P ops Q rest (a.put o.dst (got ok z false)) w) : runsN P ops Q (i :: rest) a w := by
  intro b k cs hb
  obtain ⟨e, a', w2, q, r'⟩ := h b k cs hb
  refine ⟨e, a', w2, q, .of_steps (.one ?_) r'⟩
  rw [lone_eq_solo, lone_eq_solo, ← fin_at ho]
  exact step_lone_recv_shut ok (stepG_comm ho hw hb hr) hc
theorem calls_of_wpN {f : FuncId} {fn : Func} {c : Code} {args : Array Value} {R : Ending → World → Prop} (hf : P.funcs[f]? = some fn) (hb : fn.body = some c)
    (h : wpN P c (bodyPost P fn R) { tmps := args ++ Array.replicate (fn.ntmps - args.size) undef, defers := [] } w) : Calls P f args w R := by
  intro cs
  obtain ⟨b, hbe⟩ : ∃ b : Frame, b = { (default : Frame) with fn := f, kind := .normal } := ⟨_, rfl⟩
  have henter : Frame.enter P f args .normal = b.at { tmps := args ++ Array.replicate (fn.ntmps - args.size) undef, defers := [] } [.code c] := by
    subst hbe
    simp [Frame.enter, Frame.at, hf, hb]
  have hbk : b.kind = .normal := by subst hbe; rfl
  have hbf : b.fn = f := by subst hbe; rfl
  obtain ⟨e, a', w', hq, har⟩ := h b [] cs (by rw [hbk]; simp)
  rw [← henter] at har
  cases e with
  | normal =>
    obtain ⟨hd, v, hr, hR⟩ := hq
    exact ⟨.returned v, w', _, hR, Steps.trans har (.one step_end), hbf, rfl, hd, hbk, fn, by show P.funcs[b.fn]? = _; rw [hbf]; exact hf, hr⟩
  | ret =>
    obtain ⟨hd, v, hr, hR⟩ := hq
    obtain ⟨todo, hs⟩ := har
    exact ⟨.returned v, w', _, hR, hs, hbf, rfl, hd, hbk, fn, by show P.funcs[b.fn]? = _; rw [hbf]; exact hf, hr⟩
  | panic chain =>
    obtain ⟨hd, hR⟩ := hq
    obtain ⟨todo, hs⟩ := har
    exact ⟨.panicked chain, w', _, hR, hs, hbf, rfl, hd, fn, by show P.funcs[b.fn]? = _; rw [hbf]; exact hf⟩
  | exit id => exact hq.elim
  | goto l => exact hq.elim
  | outgrown => exact ⟨.outgrown, w', b, hq, har.resolve_left (by rw [hbk]; simp), hbf, trivial⟩
end
end Go.Proofs.Ytcdpalpoanlbmaa
