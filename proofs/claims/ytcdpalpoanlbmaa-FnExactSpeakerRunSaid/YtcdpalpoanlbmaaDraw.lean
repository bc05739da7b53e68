/- The draws: what a reader's calls leave, without the numbers themselves. -/
import Derived.Test.YtcdpalpoanlbmaaRd
import Derived.Test.YtcdpalpoanlbmaaOpen
namespace Go.Proofs.Ytcdpalpoanlbmaa
open Go Go.RowKit
set_option linter.unusedVariables false
set_option linter.unusedSimpArgs false

theorem bodyPost_retE {P : Program} {fn : Func} {R : Ending → World → Prop} {a : Act} {w : World} (hd : a.defers = []) (h : ∃ v, (results fn a.tmps).run P w = .ok v w ∧ R (.returned v) w) : bodyPost P fn R .ret a w :=
  ⟨hd, h⟩
/-- Blocks below B, but g, are as they were. -/
structure Past (g B : Nat) (w w' : World) : Prop where
  os : w'.os = w.os
  tape : w'.tape = w.tape
  output : w'.output = w.output
  size : w.heap.size ≤ w'.heap.size
  block : ∀ k, k < B → k ≠ g → w'.heap[k]? = w.heap[k]?
theorem Past.refl (g B : Nat) (w : World) : Past g B w w := ⟨rfl, rfl, rfl, Nat.le_refl _, fun _ _ _ => rfl⟩
theorem Past.trans {g B : Nat} {a b c : World} (h : Past g B a b) (k : Past g B b c) : Past g B a c :=
  ⟨k.os.trans h.os, k.tape.trans h.tape, k.output.trans h.output, Nat.le_trans h.size k.size, fun i hi hg => (k.block i hi hg).trans (h.block i hi hg)⟩
theorem Past.mono {g B B' : Nat} {w w' : World} (h : Past g B w w') (hB : B' ≤ B) : Past g B' w w' := ⟨h.os, h.tape, h.output, h.size, fun k hk => h.block k (Nat.lt_of_lt_of_le hk hB)⟩
theorem Past.below {g B : Nat} {w w' : World} (h : Past g B w w') (hB : B ≤ g) : Below B w w' := ⟨h.os, h.tape, h.output, h.size, fun k hk => h.block k hk (by omega)⟩
theorem Past.of {g B : Nat} {w w' : World} (h : Below B w w') : Past g B w w' := ⟨h.os, h.tape, h.output, h.size, fun k hk _ => h.block k hk⟩
theorem Past.drew {g B : Nat} {a w : World} (h : Past g B a w) : Past g B a w.drew := h.trans (Past.of (Below.refl _ _).drew)
theorem Past.drewN {g B : Nat} {a w : World} (h : Past g B a w) (k : Nat) : Past g B a (w.drewN k) := ⟨h.os, h.tape, h.output, h.size, h.block⟩
theorem Past.alloc {g B : Nat} {a w : World} (h : Past g B a w) (hB : B ≤ a.heap.size) (o : Obj) : Past g B a (w.alloc o) := h.trans (Past.of ((Below.refl _ _).alloc (Nat.le_trans hB h.size) o))
theorem Past.setCell {g B : Nat} {a w : World} (h : Past g B a w) {p : Addr} (hp : B ≤ p.block) (u : Value) : Past g B a (w.setCell p u) := h.trans (Past.of ((Below.refl _ _).setCell hp u))
theorem Past.setC {g B : Nat} {a w : World} {p : Addr} (hp : B ≤ p.block) (h : Past g B a w) (u : Value) : Past g B a (w.setCell p u) := h.setCell hp u
theorem Past.step {g B : Nat} {a b c : World} (h : Past g B a b) (hB : B ≤ a.heap.size) (k : Past g b.heap.size b c) : Past g B a c := h.trans (k.mono (Nat.le_trans hB h.size))
theorem Past.cells {g : Nat} {w w' : World} (h : Past g w.heap.size w w') :
    (∀ b o, b < w.heap.size → b ≠ g → w'.cell? ⟨b, o, none⟩ = w.cell? ⟨b, o, none⟩) ∧ (∀ b o, b < w.heap.size → b ≠ g → w'.frozen? ⟨b, o, none⟩ = w.frozen? ⟨b, o, none⟩) :=
  ⟨fun b o h1 h2 => by simp only [World.cell?, h.block b h1 h2], fun b o h1 h2 => by simp only [World.frozen?, h.block b h1 h2]⟩
theorem past_grown {g : Nat} {w w' : World} (h : w.grownBy w' (some g)) : Past g w.heap.size w w' := ⟨h.os, h.tape, h.output, h.size, fun k hk hg => h.block k hk (fun e => hg (by cases e; rfl))⟩

theorem Bp {g : Nat} {a b c : World} (h : Below a.heap.size a b) (k : Past g b.heap.size b c) (hg : a.heap.size ≤ g) : Below a.heap.size a c := h.trans ((k.mono h.size).below hg)

/-- Block g is a reader of a code, of which at most k places have been asked. -/
def RdLe (w : World) (g k : Nat) : Prop := ∃ q, q ≤ k ∧ Rd w g q
theorem RdLe.mono {w : World} {g k k' : Nat} (h : RdLe w g k) (hk : k ≤ k') : RdLe w g k' := let ⟨q, h1, h2⟩ := h; ⟨q, Nat.le_trans h1 hk, h2⟩
theorem RdLe.drew {w : World} {g q : Nat} (h : RdLe w g q) : RdLe w.drew g q := h
theorem RdLe.drewN {w : World} {g q : Nat} (h : RdLe w g q) (k : Nat) : RdLe (w.drewN k) g q := h
theorem RdLe.alloc {w : World} {g q : Nat} (h : RdLe w g q) (o : Obj) : RdLe (w.alloc o) g q := let ⟨q, h1, h2⟩ := h; ⟨q, h1, h2.alloc o⟩
theorem RdLe.setCell {w : World} {g q : Nat} (h : RdLe w g q) {p : Addr} (hp : g < p.block) (u : Value) : RdLe (w.setCell p u) g q := let ⟨q, h1, h2⟩ := h; ⟨q, h1, h2.setCell hp u⟩
theorem RdLe.setC {w : World} {g q : Nat} {p : Addr} (hp : g < p.block) (h : RdLe w g q) (u : Value) : RdLe (w.setCell p u) g q := h.setCell hp u
theorem RdLe.below {w w' : World} {g q : Nat} (h : RdLe w g q) (hb : Below w.heap.size w w') : RdLe w' g q := let ⟨q, h1, h2⟩ := h; ⟨q, h1, h2.below hb⟩
theorem RdLe.lt {w : World} {g q : Nat} (h : RdLe w g q) : g < w.heap.size := let ⟨_, _, h2⟩ := h; h2.lt

/-- What a draw of a number leaves. -/
def Drawn (g k : Nat) (R : Int → Prop) (w : World) (e : Ending) (w' : World) : Prop :=
  ∃ v : Int, R v ∧ e = .returned (.int .i64 v) ∧ RdLe w' g k ∧ Past g w.heap.size w w'
def Upto (m v : Int) : Prop := 0 ≤ v ∧ v < m

theorem pk (w : World) (g k : Nat) (m : Int) (h : RdLe w g k) (hk : k ≤ 1000000) (hm : 1 ≤ m) (hm2 : m ≤ 1000000) :
    Calls Try.prog 18 #[.pointer (some ⟨g, 0, none⟩), .int .i64 m] w (fun e w' => Drawn g (k + 1) (Upto m) w e w' ∧ w'.heap.size = w.heap.size) := by
  obtain ⟨q, hq, h⟩ := h
  refine (pick_any w g q m h (by omega) hm hm2).mono fun e w' hp => ?_
  obtain ⟨v, h0, h1, he, hR, hG, hs⟩ := hp
  exact ⟨⟨v, ⟨h0, h1⟩, he, ⟨q + 1, by omega, hR⟩, past_grown hG⟩, hs⟩

/-- All that was there is as it was, but blocks g and r. -/
structure OldG (g r : Nat) (w w' : World) : Prop where
  size : w.heap.size ≤ w'.heap.size
  block : ∀ k, k < w.heap.size → k ≠ g → k ≠ r → w'.heap[k]? = w.heap[k]?
theorem OldG.refl (g r : Nat) (w : World) : OldG g r w w := ⟨Nat.le_refl _, fun _ _ _ _ => rfl⟩
theorem OldG.past {g r : Nat} {a b c : World} (h : OldG g r a b) (k : Past g b.heap.size b c) : OldG g r a c :=
  ⟨Nat.le_trans h.size k.size, fun i h1 h2 h3 => (k.block i (Nat.lt_of_lt_of_le h1 h.size) h2).trans (h.block i h1 h2 h3)⟩
theorem OldG.drew {g r : Nat} {a w : World} (h : OldG g r a w) : OldG g r a w.drew := ⟨h.size, h.block⟩
theorem OldG.drewN {g r : Nat} {a w : World} (h : OldG g r a w) (k : Nat) : OldG g r a (w.drewN k) := ⟨h.size, h.block⟩
theorem OldG.alloc {g r : Nat} {a w : World} (h : OldG g r a w) (o : Obj) : OldG g r a (w.alloc o) := h.past (Past.of (Ba w o))
theorem OldG.setC {g r : Nat} {a w : World} {p : Addr} (hp : a.heap.size ≤ p.block ∨ p.block = r) (h : OldG g r a w) (u : Value) : OldG g r a (w.setCell p u) :=
  ⟨by simpa [World.setCell] using h.size, fun i h1 h2 h3 => (Below.heap_setCell w p u i (by omega)).trans (h.block i h1 h2 h3)⟩
theorem OldG.cells {g r : Nat} {w w' : World} (h : OldG g r w w') :
    (∀ b o, b < w.heap.size → b ≠ g → b ≠ r → w'.cell? ⟨b, o, none⟩ = w.cell? ⟨b, o, none⟩) ∧ (∀ b o, b < w.heap.size → b ≠ g → b ≠ r → w'.frozen? ⟨b, o, none⟩ = w.frozen? ⟨b, o, none⟩) :=
  ⟨fun b o h1 h2 h3 => by simp only [World.cell?, h.block b h1 h2 h3], fun b o h1 h2 h3 => by simp only [World.frozen?, h.block b h1 h2 h3]⟩
theorem wp_region_mixG {P : Program} {Q : Exit → Act → World → Prop} {id : Nat} {a : Act} {w : World} {l : List Oper} (g r : Nat) (hm : P.follows .mixedOrders = true) (hB : mixB .any l.toArray = true)
    (h : wpMix P .any l.toArray (OldG g r w) Q l a w.drew) : (Code.region id l.toArray true).wp P Q a w :=
  wp_region_mix _ hm hB (OldG.refl _ _ _).drew h

/-- What the opening of a code leaves. -/
def Opened (w : World) (e : Ending) (w' : World) : Prop := ∃ g, e = .returned (.pointer (some ⟨g, 0, none⟩)) ∧ w.heap.size ≤ g ∧ RdLe w' g 0 ∧ Below w.heap.size w w'
theorem code_rd {w w' : World} {A : Option Addr} {n c : Nat} (h : IsInts .u8 w A n c) {g m : Nat} (hg : w.heap.size ≤ g) (hm : m ≤ n) (hm2 : m ≤ 2000) (hb : Below w.heap.size w w')
    (h0 : w'.cell? ⟨g, 0, none⟩ = some (.slice A m c)) (h1 : w'.cell? ⟨g, 1, none⟩ = some (.int .i64 0)) (hf : w'.frozen? ⟨g, 1, none⟩ = false) : RdLe w' g 0 := by
  obtain ⟨hnc, hmax, b, off, z, hA, hz⟩ := h
  refine ⟨0, Nat.le_refl _, A, m, c, b, off, z, h0, h1, hf, hm2, by omega, fun hp => ⟨(hA (by omega)).1, by have := (hA (by omega)).2; omega⟩, fun i hi => ?_⟩
  obtain ⟨hc, hw⟩ := hz i (by omega)
  have hl := (hA (by omega)).2
  refine ⟨(Below.cell hb (p := ⟨b, off + i, none⟩) hl).trans hc, ?_⟩
  have : 0 ≤ z i ∧ z i ≤ 255 := by simpa [Lit.wf, IntKind.min, IntKind.max, IntKind.signed, IntKind.bits] using hw
  exact this
set_option maxHeartbeats 1000000 in
theorem open_any (w : World) (A : Option Addr) (n c : Nat) (h : IsInts .u8 w A n c) (hn : n ≤ 1048576) : Calls Try.prog 17 #[.slice A n c] w (Opened w) := by
  have H := Lib.hid h
  have hnc := h.1
  clear h
  by_cases h2 : 2000 < n
  · go_enter Try.func17, Try.ntmps17
    go_wp2
    go_ret
    refine ⟨_, rfl, Nat.le_refl _, code_rd H.out (Nat.le_refl _) (by omega) (Nat.le_refl _) (Ba _ _) ?_ ?_ ?_, Ba _ _⟩ <;> simp [go_sem]
  · go_enter Try.func17, Try.ntmps17
    go_wp2
    go_ret
    refine ⟨_, rfl, Nat.le_refl _, code_rd H.out (Nat.le_refl _) (Nat.le_refl _) (by omega) (Ba _ _) ?_ ?_ ?_, Ba _ _⟩ <;> simp [go_sem]

end Go.Proofs.Ytcdpalpoanlbmaa
