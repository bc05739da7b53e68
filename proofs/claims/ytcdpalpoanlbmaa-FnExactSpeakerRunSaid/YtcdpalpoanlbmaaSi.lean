/- A run of the speakers, by the program: a channel in one goroutine (printed by gen_xsi.py). -/
import Derived.Test.YtcdpalpoanlbmaaSj
import Derived.Test.YtcdpalpoanlbmaaChn
namespace Go.Proofs.Ytcdpalpoanlbmaa
open Go Go.RowKit Go.Conc
set_option linter.unusedVariables false
set_option linter.unusedSimpArgs false
/-- What the channel holds: the values from place j on, below n. -/
def bufS (S : Nat → Sr) (j n : Nat) : Array Value := ((List.range (n - j)).map fun i => srF S (j + i)).toArray
theorem bufS_size (S : Nat → Sr) (j n : Nat) : (bufS S j n).size = n - j := by simp [bufS]
theorem bufS_push (S : Nat → Sr) (k : Nat) : (bufS S 0 k).push (srF S k) = bufS S 0 (k + 1) := by
  unfold bufS
  simp [List.range_succ]
theorem bufS_first (S : Nat → Sr) {j n : Nat} (h : j < n) : (bufS S j n).getD 0 undef = srF S j := by
  unfold bufS
  have : 0 < n - j := by omega
  simp [Array.getD, this]
theorem bufS_rest (S : Nat → Sr) {j n : Nat} (h : j < n) : (bufS S j n).extract 1 (bufS S j n).size = bufS S (j + 1) n := by
  apply Array.ext
  · simp [bufS]; omega
  · intro i h1 h2
    simp [bufS] at h1 h2 ⊢
    first | done | (rw [Nat.add_assoc]; done) | (rw [Nat.add_assoc, Nat.add_comm 1 i]; done) | (congr 1; omega)
theorem bufS_none (S : Nat → Sr) (n : Nat) : bufS S n n = #[] := by simp [bufS]
def lenV : Value → Nat
  | .slice _ n _ => n
  | _ => 0
theorem exc_setChan (w : World) (c cap : Nat) (buf : Array Value) (cl : Bool) (s r : Nat) (tm : Bool) : Exc (fun g => g = c) w (w.setChan c cap buf cl s r tm) :=
  ⟨rfl, rfl, rfl, by simp [World.setChan], fun k hk hx => by simp only [World.setChan]; rw [Array.getElem?_setIfInBounds_ne (fun e => hx e.symm)]⟩
theorem chan_bytes : ∃ i, Try.prog.info? 25 = some i ∧ i.bytes = 24 := by
  obtain ⟨i, h1, _, _, h4⟩ := info_parts info_sr
  exact ⟨i, h1, h4⟩
theorem mk_chan (w : World) : (Instr.makeChan 43 (.int .i64 20)).run Try.prog w = .ok (.chan (some w.heap.size)) (w.alloc (.chan 20 #[] false 0 0 false)) := by
  obtain ⟨i, hi, hb⟩ := chan_bytes
  exact run_makeChan (P := Try.prog) (w := w) Try.underlying43 hi .i64 20 (by omega) (by rw [hb]; omega)
set_option maxRecDepth 100000 in
set_option maxHeartbeats 16000000 in
theorem irun_ok (w : World) (lo hi : Nat) (A : Option Addr) (n c : Nat) (S : Nat → Sr) (h : Mtx w lo hi A n S) (hi' : hi ≤ w.heap.size) (hok : RunOk n S) :
    Calls Try.prog 6 #[.slice A n c] w (GivesL n (runL S n) w) := by
  obtain ⟨i1, r1, r2, r3, r4⟩ := info_parts info_int
  have H := Lib.hid h
  have HK := Lib.hid hok
  have hn := hok.1
  clear h hok
  refine calls_of_wpN Try.func6 rfl ?_
  simp only [Try.ntmps6, List.size_toArray, List.length_cons, List.length_nil, Nat.reduceAdd, Nat.reduceSub, Array.replicate_succ, Array.replicate_zero, List.push_toArray, List.append_toArray, List.nil_append, List.cons_append]
  refine wpN_seqK fun K hK => wpN_of_wp ?_
  go_wp2_with fail
  refine wpN_seqK fun K hK => wpN_of_wp ?_
  go_wp2_with fail
  refine wpN_seqK fun K hK => wpN_of_wp ?_
  go_wp2_with fail
  go_loopw [17] (fun i wr => ∃ k, k ≤ n ∧ i = .int .i64 (k : Nat) ∧ w = wr) (fun i _ => n - (intOf i).toNat)
  case atStart => exact ⟨0, Nat.zero_le _, rfl, rfl⟩
  case round =>
    obtain ⟨k, hk, rfl, rfl⟩ := hrel
    by_cases hkn : k < n
    · obtain ⟨hl, he⟩ := HK.out.2 k hkn
      have hlv := iloud_any (c := (S k).c) w (H.out.2 k hkn) (by have := hl.1.2; omega)
      rw [loudB_t hl] at hlv
      have HL := Lib.hid hlv
      obtain ⟨b, off, rfl, -, hb2, hcl⟩ := Sr_all H.out.1 (show 0 < n by omega)
      have c0 := hcl 0 (by omega)
      have ck := hcl k hkn
      rw [Nat.add_zero, ← he] at c0
      have hn0 : 0 < n := by omega
      clear hcl hlv hl he
      have hbw : b < w.heap.size := by omega
      go_wp2_with fail
      refine HL.out.mono ?_
      rintro e w2 ⟨rfl, rfl⟩
      have hxx : (((S k).n : Int) != ((S k).n : Int)) = false := by simp
      go_wp2_with fail
      go_roundw
      case rel => exact ⟨k + 1, by omega, by go_num, by first | rfl | trivial⟩
      case measure => simp [intOf]; omega
    have e9 : n = k := by omega
    subst e9
    go_wp2_with fail
    clear hk hkn
    have hmk := mk_chan w
    refine wpN_seqK fun K hK => wpN_of_wp ?_
    go_wp2_with fail
    clear hmk
    refine wpN_seqK fun K hK => ?_
    refine wpN_seqK fun K2 hK2 => wpN_of_wp ?_
    go_wp2_with fail
    refine wpN_block ?_
    have HC0 := Lib.hid (show (w.alloc (.chan 20 #[] false 0 0 false)).heap[w.heap.size]? = some (.chan 20 (bufS S 0 0) false 0 0 false) by rw [bufS_none]; exact heap_alloc_new w _)
    have HB0 := Lib.hid (Ba w (.chan 20 #[] false 0 0 false))
    have hs0 : w.heap.size < (w.alloc (.chan 20 #[] false 0 0 false)).heap.size := by simp
    obtain ⟨I2, hI2⟩ : ∃ I : Act → World → Prop, ∀ a' w', I a' w' ↔ (fun a' w' => ∃ (k : Nat) (i38 u2 u4 u7 u19 u20 u21 u22 u23 u24 u25 u26 u27 u28 u29 u30 u31 u32 u33 u34 u39 u40 u41 u42 u43 u44 : Value), k ≤ n ∧ i38 = .int .i64 (k : Nat) ∧ a' = ⟨#[.slice A n c, undef, u2, undef, u4, .chan (some w.heap.size), undef, u7, undef, undef, undef, .slice A n c, .int .i64 (n : Nat), .bool (decide ((20 : Int) < (n : Nat))), undef, .slice A n c, .int .i64 (n : Nat), .int .i64 (n : Nat), .bool false, u19, u20, u21, u22, u23, u24, u25, u26, u27, u28, u29, u30, u31, u32, u33, u34, .chan (some w.heap.size), .slice A n c, .int .i64 (n : Nat), i38, u39, u40, u41, u42, u43, u44, undef, undef, undef, undef, undef, undef, undef, undef, undef, undef, undef, undef, undef, undef, undef, undef], []⟩ ∧ Hid (w'.heap[w.heap.size]? = some (.chan 20 (bufS S 0 k) false k 0 false)) ∧ Hid (Below w.heap.size w w') ∧ w.heap.size < w'.heap.size) a' w' := ⟨_, fun _ _ => Iff.rfl⟩
    obtain ⟨m2, hm2⟩ : ∃ m : Act → World → Nat, ∀ a' w', m a' w' = n - (intOf (a'.tmps.getD 38 undef)).toNat := ⟨_, fun _ _ => rfl⟩
    have HI2 := Lib.hid hI2
    have HM2 := Lib.hid hm2
    clear hI2 hm2
    refine wpN_loop I2 m2 ((HI2.out _ _).2 ⟨0, _, _, _, _, _, _, _, _, _, _, _, _, _, _, _, _, _, _, _, _, _, _, _, _, _, _, Nat.zero_le _, rfl, rfl, HC0, HB0, hs0⟩) ?_
    clear HC0 HB0 hs0
    intro a0 wr hinv
    obtain ⟨k, _, u2, u4, u7, u19, u20, u21, u22, u23, u24, u25, u26, u27, u28, u29, u30, u31, u32, u33, u34, u39, u40, u41, u42, u43, u44, hk, rfl, rfl, HC, HB, hs⟩ := (HI2.out _ _).1 hinv
    clear hinv
    refine wpN_seqK fun K2 hK2 => wpN_of_wp ?_
    by_cases hkn : k < n
    · obtain ⟨b, off, hAe, -, hb2, ck⟩ := Sr_at ((H.out.below hi' HB.out).1) hkn
      subst hAe
      have hbw : b < wr.heap.size := by omega
      go_wp2_with fail
      refine wpN_seqK fun K3 hK3 => wpN_of_wp ?_
      go_wp2_with fail
      refine wpN_seqK fun K4 hK4 => ?_
      refine wpN_block ?_
      refine wpN_seqK fun K5 hK5 => wpN_of_wp ?_
      go_wp2_with fail
      refine wpN_region ?_
      simp only [List.size_toArray, List.length_cons, List.length_nil, Nat.reduceAdd, Nat.zero_add, List.range, List.range.loop]
      refine runsN_value (v := .chan (some w.heap.size)) (w' := wr) rfl rfl (by simp [execOp, Act.eval]) ?_
      refine runsN_value (v := srF S k) (w' := wr) rfl rfl (by simp [execOp, Act.eval, Act.put]; rfl) ?_
      refine runsN_send (c := w.heap.size) (cap := 20) (s := k) (r := 0) (buf := bufS S 0 k) (v := srF S k) (z := .tuple #[]) (tm := false) rfl rfl (by simp [execOp, scase, Act.eval, Act.put]) HC.out (by rw [bufS_size]; omega) ?_
      refine runsN_nil ?_
      rw [bufS_push]
      obtain ⟨w5, hw5⟩ : ∃ v, v = wr.setChan w.heap.size 20 (bufS S 0 (k + 1)) false (k + 1) 0 false := ⟨_, rfl⟩
      rw [← hw5]
      have HC5 := Lib.hid (show w5.heap[w.heap.size]? = some (.chan 20 (bufS S 0 (k + 1)) false (k + 1) 0 false) by rw [hw5]; exact heap_setChan _ _ _ _ _ _ _ _ hs)
      have HB5 := Lib.hid (show Below w.heap.size w w5 by rw [hw5]; exact below_setChan HB.out (Nat.le_refl _) _ _ _ _ _ _)
      have hs5 : w.heap.size < w5.heap.size := by rw [hw5, size_setChan]; exact hs
      clear hw5 HC HB hs ck hbw
      go_simp
      refine hK4 _ _ (wpN_of_wp ?_)
      clear hK4 K4
      go_wp2_with fail
      refine ⟨(HI2.out _ _).2 ⟨k + 1, _, _, _, _, _, _, _, _, _, _, _, _, _, _, _, _, _, _, _, _, _, _, _, _, _, _, by omega, (by go_num), rfl, HC5, HB5, hs5⟩, ?_⟩
      rw [HM2.out, HM2.out]
      simp [intOf]
      omega
    · have e9 : n = k := by omega
      subst e9
      go_wp2_with fail
      refine wpN_seqK fun K3 hK3 => wpN_of_wp ?_
      go_wp2_with fail
      have hcl := fun ats ty => run_close_open (P := Try.prog) (w := wr) ats ty HC.out
      refine wpN_seqK fun K hK => wpN_of_wp ?_
      go_wp2_with fail
      clear hcl
      show wpN Try.prog _ _ _ (wr.setChan w.heap.size 20 (bufS S 0 n) true n 0 false)
      obtain ⟨w6, hw6⟩ : ∃ v, v = wr.setChan w.heap.size 20 (bufS S 0 n) true n 0 false := ⟨_, rfl⟩
      rw [← hw6]
      have hc6 : w6.heap[w.heap.size]? = some (.chan 20 (bufS S 0 n) true n 0 false) := by rw [hw6]; exact heap_setChan _ _ _ _ _ _ _ _ hs
      have HB6 := Lib.hid (show Below w.heap.size w w6 by rw [hw6]; exact below_setChan HB.out (Nat.le_refl _) _ _ _ _ _ _)
      have hs6 : w.heap.size < w6.heap.size := by rw [hw6, size_setChan]; exact hs
      clear hw6 HC HB hs hk hkn
      refine wpN_seqK fun K hK => wpN_of_wp ?_
      go_wp2_with fail
      refine wpN_seqK fun K hK => wpN_of_wp ?_
      go_wp2_with fail
      obtain ⟨w7, hw7⟩ : ∃ v, v = ((w6.alloc (.cells #[] 3)).alloc (.cells #[.int .i64 (-1), .int .i64 (-1), .int .i64 0] 29)) := ⟨_, rfl⟩
      rw [← hw7]
      have HS0 := Lib.hid (show SpAt w7 (w6.heap.size + 1) (runT S 0) by
        rw [hw7]
        refine ⟨?_, ?_, ?_, fun j => ?_, by simp⟩
        · go_simp; try rfl
        · go_simp; try rfl
        · go_simp; try rfl
        · go_simp; try rfl)
      have HO0 := Lib.hid (show OwnI w7 w6.heap.size w7.heap.size (some ⟨w6.heap.size, 0, none⟩) 0 0 (atLS (runL S 0)) by
        rw [hw7]
        exact OwnI.wide (OwnI.alloc (empty_row w6 3 1 (intV (atLS []))) _) (Nat.le_refl _) (by simp))
      have hb7 : Below w6.heap.size w6 w7 := by rw [hw7]; exact (Ba w6 _).alloc (by simp) _
      have HB0 := Lib.hid (HB6.out.trans (hb7.mono (by omega)))
      have HC0 := Lib.hid (show w7.heap[w.heap.size]? = some (.chan 20 (bufS S 0 n) true n 0 false) from (hb7.block _ hs6).trans hc6)
      have hs7 : w6.heap.size + 1 < w7.heap.size := by rw [hw7]; simp
      clear hw7 hb7 hc6 HB6
      refine wpN_seqK fun K hK => ?_
      refine wpN_seqK fun K2 hK2 => wpN_of_wp ?_
      go_wp2_with fail
      refine wpN_block ?_
      obtain ⟨I3, hI3⟩ : ∃ I : Act → World → Prop, ∀ a' w', I a' w' ↔ (fun a' w' => ∃ (k : Nat) (B : Option Addr) (cb : Nat) (u2 u4 u7 u10 u19 u20 u21 u22 u23 u24 u25 u26 u27 u28 u29 u30 u31 u32 u33 u34 u40 u41 u42 u43 u44 u49 u50 u51 u52 u53 u54 u55 u56 u57 u58 u59 : Value), k ≤ n ∧ a' = ⟨#[.slice A n c, undef, u2, undef, u4, .chan (some w.heap.size), undef, u7, .slice B k cb, .pointer (some ⟨w6.heap.size + 1, 0, none⟩), u10, .slice A n c, .int .i64 (n : Nat), .bool (decide ((20 : Int) < (n : Nat))), undef, .slice A n c, .int .i64 (n : Nat), .int .i64 (n : Nat), .bool false, u19, u20, u21, u22, u23, u24, u25, u26, u27, u28, u29, u30, u31, u32, u33, u34, .chan (some w.heap.size), .slice A n c, .int .i64 (n : Nat), .int .i64 (n : Nat), .bool false, u40, u41, u42, u43, u44, .chan (some w.heap.size), .slice (some ⟨w6.heap.size, 0, none⟩) 0 0, .agg #[.int .i64 (-1), .int .i64 (-1), .int .i64 0], .chan (some w.heap.size), u49, u50, u51, u52, u53, u54, u55, u56, u57, u58, u59, undef], []⟩ ∧ Hid (w'.heap[w.heap.size]? = some (.chan 20 (bufS S k n) true n k false)) ∧ Hid (SpAt w' (w6.heap.size + 1) (runT S k)) ∧ Hid (OwnI w' w6.heap.size w'.heap.size B k cb (atLS (runL S k))) ∧ Hid ((Value.slice B k cb).ownBlock ≠ some (w6.heap.size + 1)) ∧ Hid (Below w.heap.size w w') ∧ w6.heap.size + 1 < w'.heap.size) a' w' := ⟨_, fun _ _ => Iff.rfl⟩
      obtain ⟨m3, hm3⟩ : ∃ m : Act → World → Nat, ∀ a' w', m a' w' = n - lenV (a'.tmps.getD 8 undef) := ⟨_, fun _ _ => rfl⟩
      have HI3 := Lib.hid hI3
      have HM3 := Lib.hid hm3
      clear hI3 hm3
      refine wpN_loop I3 m3 ((HI3.out _ _).2 ⟨0, _, 0, _, _, _, _, _, _, _, _, _, _, _, _, _, _, _, _, _, _, _, _, _, _, _, _, _, _, _, _, _, _, _, _, _, _, _, _, Nat.zero_le _, rfl, HC0, HS0, HO0, Lib.hid (by intro e; injection e with e; have e : w6.heap.size = w6.heap.size + 1 := e; omega), HB0, hs7⟩) ?_
      clear HC0 HS0 HO0 HB0 hs7
      intro a0 wx hinv
      obtain ⟨k, B, cb, u2, u4, u7, u10, u19, u20, u21, u22, u23, u24, u25, u26, u27, u28, u29, u30, u31, u32, u33, u34, u40, u41, u42, u43, u44, u49, u50, u51, u52, u53, u54, u55, u56, u57, u58, u59, hk, rfl, HC, HSP, HO, HD, HB, hs⟩ := (HI3.out _ _).1 hinv
      clear hinv
      refine wpN_seqK fun K3 hK3 => ?_
      refine wpN_region ?_
      simp only [List.size_toArray, List.length_cons, List.length_nil, Nat.reduceAdd, Nat.zero_add, List.range, List.range.loop]
      by_cases hkn : k < n
      · have hund := Try.underlying43
        refine runsN_recv (c := w.heap.size) (cap := 20) (s := n) (r := k) (buf := bufS S k n) (z := .slice none 0 0) (tm := false) (closed := true) (ok := true) rfl rfl (by simp [go_sem, rcase]) HC.out (by rw [bufS_size]; omega) ?_
        rw [bufS_rest S hkn, bufS_first S hkn]
        rw [show srF S k = Value.slice (S k).A (S k).n (S k).c from rfl]
        refine runsN_value (v := .bool true) rfl rfl (by simp [execOp, Act.eval, Act.put, got]; rfl) ?_
        refine runsN_nil ?_
        obtain ⟨w8, hw8⟩ : ∃ v, v = wx.setChan w.heap.size 20 (bufS S (k + 1) n) true n (k + 1) false := ⟨_, rfl⟩
        rw [← hw8]
        have hE8 : Exc (fun g => g = w.heap.size) wx w8 := by rw [hw8]; exact exc_setChan _ _ _ _ _ _ _ _
        have hs8 : wx.heap.size ≤ w8.heap.size := hE8.size
        have HC8 := Lib.hid (show w8.heap[w.heap.size]? = some (.chan 20 (bufS S (k + 1) n) true n (k + 1) false) by rw [hw8]; exact heap_setChan _ _ _ _ _ _ _ _ (by omega))
        have hsp8 := HSP.out.exc hE8 (fun e => by omega)
        have HO8 := Lib.hid (OwnI.wide (RowOwn.excS HO.out hE8 (fun g h1 h2 e => by omega)) (Nat.le_refl _) hs8)
        have HB8 := Lib.hid (show Below w.heap.size w w8 by rw [hw8]; exact below_setChan HB.out (Nat.le_refl _) _ _ _ _ _ _)
        have hl8 : w6.heap.size + 1 < w8.heap.size := by omega
        clear hw8 hE8 hs8 HC HSP HO HB hs hund
        simp only [got, if_true]
        go_simp
        refine hK3 _ _ (wpN_seqK fun K4 hK4 => wpN_of_wp ?_)
        clear hK3 K3
        go_wp2_with fail
        refine wpN_block (wpN_of_wp ?_)
        have hstep := runT_ok HK.out k hkn
        obtain ⟨ta, tb, td, ht⟩ : ∃ a b d, runT S k = (a, b, d) := ⟨_, _, _, rfl⟩
        rw [ht] at hsp8 hstep
        have hT1 : runT S (k + 1) = (stN ta tb td (S k).n (S k).z, stX ta tb td (S k).n (S k).z, stW ta tb td (S k).n (S k).z) := by
          show (let t := runT S k; (stN t.1 t.2.1 t.2.2 (S k).n (S k).z, stX t.1 t.2.1 t.2.2 (S k).n (S k).z, stW t.1 t.2.1 t.2.2 (S k).n (S k).z)) = _
          rw [ht]
        have HT1 := Lib.hid hT1
        have HSP8 := Lib.hid hsp8
        have x0 : w8.cell? ⟨w6.heap.size + 1, 0, none⟩ = some (.int .i64 ta) := hsp8.1
        have x1 : w8.cell? ⟨w6.heap.size + 1, 1, none⟩ = some (.int .i64 tb) := hsp8.2.1
        have x2 : w8.cell? ⟨w6.heap.size + 1, 2, none⟩ = some (.int .i64 td) := hsp8.2.2.1
        have hst := istep_any ta tb td w8 (c := (S k).c) ((H.out.2 k hkn).below hi' HB8.out) (by have := HB8.out.size; omega) hstep.1 hstep.2.1 hstep.2.2.1 hstep.2.2.2
        have HST := Lib.hid hst
        clear hst hstep hT1 ht hsp8
        go_wp2_with fail
        refine HST.out.mono ?_
        rintro e w9 ⟨rfl, hb9⟩
        have hz9 := hb9.size
        have hsp9 := HSP8.out.exc (X := fun _ => False) (Exc.of_belowS hb9) (fun h => h)
        have d0 : w9.cell? ⟨w6.heap.size + 1, 0, none⟩ = some (.int .i64 ta) := hsp9.1
        have d1 : w9.cell? ⟨w6.heap.size + 1, 1, none⟩ = some (.int .i64 tb) := hsp9.2.1
        have d2 : w9.cell? ⟨w6.heap.size + 1, 2, none⟩ = some (.int .i64 td) := hsp9.2.2.1
        have f0 := hsp9.2.2.2.1 0
        have f1 := hsp9.2.2.2.1 1
        have f2 := hsp9.2.2.2.1 2
        have HSP9 := Lib.hid hsp9
        clear hsp9
        go_upto_region 22 with fail
        obtain ⟨w10, hw10⟩ : ∃ v, v = ((w9.setCell ⟨w6.heap.size + 1, 0, none⟩ (.int .i64 (stN ta tb td (S k).n (S k).z))).setCell ⟨w6.heap.size + 1, 1, none⟩ (.int .i64 (stX ta tb td (S k).n (S k).z))).setCell ⟨w6.heap.size + 1, 2, none⟩ (.int .i64 (stW ta tb td (S k).n (S k).z)) := ⟨_, rfl⟩
        rw [← hw10]
        have hsp10 : SpAt w10 (w6.heap.size + 1) (runT S (k + 1)) := by
          rw [HT1.out, hw10]
          exact SpAt.put HSP9.out
        have n10 : w10.cell? ⟨w6.heap.size + 1, 0, none⟩ = some (.int .i64 (runT S (k + 1)).1) := hsp10.1
        have hG10 : w9.grownBy w10 (some (w6.heap.size + 1)) := by
          rw [hw10]
          exact ((grown_setCell w9 ⟨w6.heap.size + 1, 0, none⟩ _).trans (grown_setCell _ ⟨w6.heap.size + 1, 1, none⟩ _)).trans (grown_setCell _ ⟨w6.heap.size + 1, 2, none⟩ _)
        have hz10 : w9.heap.size ≤ w10.heap.size := hG10.size
        have HO10 := Lib.hid (show OwnI w10 w6.heap.size w10.heap.size B k cb (atLS (runL S k)) from OwnI.wide (RowOwn.apartS (r := some (w6.heap.size + 1)) (fun g hg e => by cases hg; exact HD.out e) (HO8.out.below (Nat.le_refl _) hb9) hG10) (Nat.le_refl _) (by omega))
        have HB10 := Lib.hid ((HB8.out.trans (hb9.mono (by omega))).grown hG10 (by omega) (fun g hg => by cases hg; omega))
        have HC10 := Lib.hid (show w10.heap[w.heap.size]? = some (.chan 20 (bufS S (k + 1) n) true n (k + 1) false) from (hG10.block _ (by omega) (fun e => by injection e with e; omega)).trans ((hb9.block _ (by omega)).trans HC8.out))
        have HS10 := Lib.hid hsp10
        have hl10 : w6.heap.size + 1 < w10.heap.size := by omega
        have hl10b : w6.heap.size < w10.heap.size := by omega
        clear hw10 hsp10 hG10 hb9 d0 d1 d2 f0 f1 f2 HO8 HSP8 HSP9 HB8 HC8 hz9 hz10 hl8
        clear x0 x1 x2
        go_wp2_with (at_builtin; go_loud (refine wpList_rowAppendN _ rfl (.tmp 55) (.tmp 58) _ rfl 3 i1 _ 1 8 Try.underlying25 r1 r2 r3 r4 rfl (by decide) w6.heap.size _ B k cb (intV (atLS (runL S k))) rfl (RowOwn.alloc HO10.out _) _ _ _ 1 1 _ rfl (one_row _ _ _) (k + 1) rfl ?_ (by unfold maxLen; omega) (by omega) (by simp; omega) ?_); (focus (intro i hi; rfl)); intro B11 cb11 w11 hO11 hG11 hL11)
        have hz11 := hG11.size
        simp at hz11
        have HO11 := Lib.hid (show OwnI w11 w6.heap.size w11.heap.size B11 (k + 1) cb11 (atLS (runL S (k + 1))) from snoc_LS (runL_len S k) hO11)
        have HS11 := Lib.hid ((HS10.out.exc (X := fun _ => False) ((Exc.refl _ w10).alloc (.cells #[.int .i64 (runT S (k + 1)).1] 3)) (fun h => h)).only hG11 HD.out)
        have HD11 := Lib.hid (show (Value.slice B11 (k + 1) cb11).ownBlock ≠ some (w6.heap.size + 1) by
          rcases hL11 with h | h
          · rw [h]; exact HD.out
          · rw [h]; intro e; injection e with e; simp at e; omega)
        have HB11 := Lib.hid ((HB10.out.alloc (by omega) _).grown hG11 (by simp; omega) (fun g hg => by have := (HO10.out.1.lt g hg).1; omega))
        have HC11 := Lib.hid (show w11.heap[w.heap.size]? = some (.chan 20 (bufS S (k + 1) n) true n (k + 1) false) from (hG11.block _ (by simp; omega) (fun e => by have := (HO10.out.1.lt _ e.symm).1; omega)).trans ((Below.heap_alloc w10 _ _ (by omega)).trans HC10.out))
        refine ⟨(HI3.out _ _).2 ⟨k + 1, B11, cb11, _, _, _, _, _, _, _, _, _, _, _, _, _, _, _, _, _, _, _, _, _, _, _, _, _, _, _, _, _, _, _, _, _, _, _, _, by omega, rfl, HC11, HS11, HO11, HD11, HB11, by omega⟩, ?_⟩
        rw [HM3.out, HM3.out]
        simp [lenV]
        omega
      · have e9 : n = k := by omega
        subst e9
        have hc := HC.out
        rw [bufS_none] at hc
        have hund := Try.underlying43
        refine runsN_shut (c := w.heap.size) (cap := 20) (s := n) (r := n) (z := .slice none 0 0) (tm := false) (ok := true) rfl rfl (by simp [go_sem, rcase]) hc ?_
        refine runsN_value (v := .bool false) rfl rfl (by simp [execOp, Act.eval, Act.put, got]; rfl) ?_
        refine runsN_nil ?_
        clear hc hund
        simp only [got, if_true]
        go_simp
        refine hK3 _ _ (wpN_seqK fun K4 hK4 => wpN_of_wp ?_)
        go_wp2_with fail
        refine wpN_of_wp ?_
        go_wp2_with fail
        go_ret
        exact ⟨B, cb, HO.out.wide (by omega) (Nat.le_refl _), rfl, HB.out⟩
end Go.Proofs.Ytcdpalpoanlbmaa
