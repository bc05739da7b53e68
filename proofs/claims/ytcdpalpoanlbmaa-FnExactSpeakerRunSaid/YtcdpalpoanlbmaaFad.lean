/- The draws' regions with an open order, by kinds: what an operation leaves is of a kind that whatever comes besides keeps. -/
import Derived.Test.YtcdpalpoanlbmaaFac
import Derived.Test.YtcdpalpoanlbmaaDraw
namespace Go.Proofs.Ytcdpalpoanlbmaa
open Go Go.RowKit
set_option linter.unusedVariables false
set_option linter.unusedSimpArgs false

/-- All that was there is as it was, but the blocks X. -/
structure Exc (X : Nat → Prop) (w w' : World) : Prop where
  os : w'.os = w.os
  tape : w'.tape = w.tape
  output : w'.output = w.output
  size : w.heap.size ≤ w'.heap.size
  block : ∀ k, k < w.heap.size → ¬ X k → w'.heap[k]? = w.heap[k]?
section
variable {X : Nat → Prop} {w w' w2 : World} {g B : Nat}
theorem Exc.refl (X : Nat → Prop) (w : World) : Exc X w w := ⟨rfl, rfl, rfl, Nat.le_refl _, fun _ _ _ => rfl⟩
theorem Exc.trans (h : Exc X w w') (k : Exc X w' w2) : Exc X w w2 :=
  ⟨k.os.trans h.os, k.tape.trans h.tape, k.output.trans h.output, Nat.le_trans h.size k.size, fun i h1 h2 => (k.block i (Nat.lt_of_lt_of_le h1 h.size) h2).trans (h.block i h1 h2)⟩
theorem Exc.of_past (hg : X g) (h : Past g w.heap.size w w') : Exc X w w' := ⟨h.os, h.tape, h.output, h.size, fun k hk hx => h.block k hk (fun e => hx (e ▸ hg))⟩
theorem Exc.cell (h : Exc X w w') {b o : Nat} (hb : b < w.heap.size) (hx : ¬ X b) : w'.cell? ⟨b, o, none⟩ = w.cell? ⟨b, o, none⟩ := by simp only [World.cell?, h.block b hb hx]
theorem Exc.frozen (h : Exc X w w') {b o : Nat} (hb : b < w.heap.size) (hx : ¬ X b) : w'.frozen? ⟨b, o, none⟩ = w.frozen? ⟨b, o, none⟩ := by simp only [World.frozen?, h.block b hb hx]
theorem Exc.below (h : Exc X w w') (hX : ∀ k, X k → B ≤ k) (hB : B ≤ w.heap.size) : Below B w w' :=
  ⟨h.os, h.tape, h.output, h.size, fun k hk => h.block k (by omega) (fun e => by have := hX k e; omega)⟩
theorem Exc.past (h : Exc X w w') (hX : ∀ k, X k → k = g ∨ B ≤ k) (hB : B ≤ w.heap.size) : Past g B w w' :=
  ⟨h.os, h.tape, h.output, h.size, fun k hk hg => h.block k (by omega) (fun e => by have := hX k e; omega)⟩
theorem Exc.setC {p : Addr} (hp : X p.block) (h : Exc X w w') (u : Value) : Exc X w (w'.setCell p u) :=
  h.trans ⟨rfl, rfl, rfl, by simp [World.setCell], fun i h1 h2 => Below.heap_setCell w' p u i (fun e => h2 (e ▸ hp))⟩
end

/-- A kind of values. -/
structure Kd (X : Nat → Prop) where
  p : Value → World → Prop
  st : ∀ v w w', Exc X w w' → p v w → p v w'
section
variable {X : Nat → Prop}
def kAny : Kd X := ⟨fun _ _ => True, fun _ _ _ _ _ => trivial⟩
def kEq (u : Value) : Kd X := ⟨fun v _ => v = u, fun _ _ _ _ h => h⟩
def kInt (lo hi : Int) : Kd X := ⟨fun v _ => ∃ x : Int, v = .int .i64 x ∧ lo ≤ x ∧ x ≤ hi, fun _ _ _ _ h => h⟩
def kBool : Kd X := ⟨fun v _ => ∃ x : Bool, v = .bool x, fun _ _ _ _ h => h⟩
/-- A new slice of k numbers. -/
def kInts (k : Nat) (lo hi : Int) : Kd X := ⟨fun v w => ∃ b, v = .slice (some ⟨b, 0, none⟩) k k ∧ ¬ X b ∧ b < w.heap.size ∧ ∀ j, j < k → ∃ x : Int, w.cell? ⟨b, j, none⟩ = some (.int .i64 x) ∧ lo ≤ x ∧ x ≤ hi,
  fun v w w' hE ⟨b, h1, h2, h3, h4⟩ => ⟨b, h1, h2, Nat.lt_of_lt_of_le h3 hE.size, fun j hj => let ⟨x, h5, h6⟩ := h4 j hj; ⟨x, (hE.cell h3 h2).trans h5, h6⟩⟩⟩
/-- The place of a number. -/
def kAd (lo hi : Int) : Kd X := ⟨fun v w => ∃ b j, ∃ x : Int, v = .pointer (some ⟨b, j, none⟩) ∧ ¬ X b ∧ b < w.heap.size ∧ w.cell? ⟨b, j, none⟩ = some (.int .i64 x) ∧ lo ≤ x ∧ x ≤ hi,
  fun v w w' hE ⟨b, j, x, h1, h2, h3, h4, h5⟩ => ⟨b, j, x, h1, h2, Nat.lt_of_lt_of_le h3 hE.size, (hE.cell h3 h2).trans h4, h5⟩⟩
/-- A row of numbers, apart from the blocks X. -/
def IntsX (X : Nat → Prop) (w : World) (A : Option Addr) (n : Nat) : Prop :=
  ∃ b off, ∃ z : Nat → Int, (0 < n → A = some ⟨b, off, none⟩ ∧ ¬ X b ∧ b < w.heap.size) ∧ ∀ j, j < n → w.cell? ⟨b, off + j, none⟩ = some (.int .i64 (z j))
theorem IntsX.st {w w' : World} {A : Option Addr} {n : Nat} (hE : Exc X w w') (h : IntsX X w A n) : IntsX X w' A n := by
  obtain ⟨b, off, z, h1, h2⟩ := h
  refine ⟨b, off, z, fun h0 => ⟨(h1 h0).1, (h1 h0).2.1, Nat.lt_of_lt_of_le (h1 h0).2.2 hE.size⟩, fun j hj => ?_⟩
  exact (hE.cell (h1 (by omega)).2.2 (h1 (by omega)).2.1).trans (h2 j hj)
/-- A slice of at most m numbers. -/
def kSl (m : Nat) : Kd X := ⟨fun v w => ∃ A n c, v = .slice A n c ∧ n ≤ m ∧ IntsX X w A n, fun v w w' hE ⟨A, n, c, h1, h2, h3⟩ => ⟨A, n, c, h1, h2, h3.st hE⟩⟩
/-- The place of such a slice. -/
def kAdS (m : Nat) : Kd X := ⟨fun v w => ∃ b j A n c, v = .pointer (some ⟨b, j, none⟩) ∧ ¬ X b ∧ b < w.heap.size ∧ w.cell? ⟨b, j, none⟩ = some (.slice A n c) ∧ n ≤ m ∧ IntsX X w A n,
  fun v w w' hE ⟨b, j, A, n, c, h1, h2, h3, h4, h5, h6⟩ => ⟨b, j, A, n, c, h1, h2, Nat.lt_of_lt_of_le h3 hE.size, (hE.cell h3 h2).trans h4, h5, h6.st hE⟩⟩
/-- A new slice of k such slices. -/
def kRows (k m : Nat) : Kd X := ⟨fun v w => ∃ b, v = .slice (some ⟨b, 0, none⟩) k k ∧ ¬ X b ∧ b < w.heap.size ∧ ∀ j, j < k → ∃ A n c, w.cell? ⟨b, j, none⟩ = some (.slice A n c) ∧ n ≤ m ∧ IntsX X w A n,
  fun v w w' hE ⟨b, h1, h2, h3, h4⟩ => ⟨b, h1, h2, Nat.lt_of_lt_of_le h3 hE.size, fun j hj => let ⟨A, n, c, h5, h6, h7⟩ := h4 j hj; ⟨A, n, c, (hE.cell h3 h2).trans h5, h6, h7.st hE⟩⟩⟩
def kAg3 : Kd X := ⟨fun v _ => ∃ a b d : Int, v = .agg #[.int .i64 a, .int .i64 b, .int .i64 d], fun _ _ _ _ h => h⟩
def KdT (l : List (Kd X)) (i : Nat) (v : Value) (w : World) : Prop := (l.getD i kAny).p v w
theorem KdT.st (l : List (Kd X)) (i : Nat) (v : Value) (w w' : World) (h : Exc X w w') (k : KdT l i v w) : KdT l i v w' := (l.getD i kAny).st v w w' h k

def FacThen (Q : Exit → Act → World → Prop) (a : Act) (w : World) : Prop := Q .normal a w
theorem fac_end {Q : Exit → Act → World → Prop} {a : Act} {w : World} (h : ∀ K : Act → Prop, (∀ a, Q .normal a w → K a) → K a) : FacThen Q a w := h _ (fun _ h => h)
def FacJ (X : Nat → Prop) (g k : Nat) (wb : World) (JX : World → Prop) (b : Bool) (n : Nat) (w : World) : Prop := (b = false → RdLe w g (k + n)) ∧ Exc X wb w ∧ JX w
theorem wp_region_fad {P : Program} {Q : Exit → Act → World → Prop} {a0 : Act} {id : Nat} {w : World} {l : List Oper} (g k : Nat) (X : Nat → Prop) (JX : World → Prop) (L : List Nat) (kinds : List (Kd X)) (hm : P.follows .mixedOrders = true)
    (N : Nat) (hN : a0.tmps.size = N) (hB : facB l.toArray N = true) (hL : (L.all fun m => decide (m < l.length)) = true) (hR : RdLe w g k) (hj : JX w.drew) (hop : FacAll P l.toArray L (FacJ X g k w.drew JX) (Exc X) (KdT kinds) a0 l 0)
    (ds : List (Nat × Tmp)) (hds : facDsts l.toArray = ds) (hQ : ∀ w', ((!L.isEmpty) = false → RdLe w' g (k + l.length)) → Exc X w w' → JX w' → Served (KdT kinds) w' ds a0 (fun a => FacThen Q a w')) : (Code.region id l.toArray true).wp P Q a0 w :=
  wp_region_fac L (FacJ X g k w.drew JX) (Exc X) (KdT kinds) hm (hN ▸ hB) hL (Exc.refl X) (KdT.st kinds) ⟨fun _ => hR, Exc.refl X _, hj⟩ hop
    fun w' ⟨h1, h2, h3⟩ => fac_last ds hds (hQ w' h1 ⟨h2.os, h2.tape, h2.output, h2.size, h2.block⟩ h3)
attribute [irreducible] FacThen
variable {g k n i : Nat} {wb W W' : World} {JX : World → Prop} {kinds : List (Kd X)} {v : Value}
theorem fad_step {b : Bool} (hJ : FacJ X g k wb JX b n W) (hg : X g) (hp : Past g W.heap.size W W') (hR : b = false → RdLe W' g (k + n + 1)) (hjx : Past g W.heap.size W W' → JX W') (ht : (kinds.getD i kAny).p v W') : FacJ X g k wb JX b (n + 1) W' ∧ Exc X W W' ∧ KdT kinds i v W' :=
  ⟨⟨hR, hJ.2.1.trans (Exc.of_past hg hp), hjx hp⟩, Exc.of_past hg hp, ht⟩
theorem fad_store {b : Bool} (hJ : FacJ X g k wb JX b n W) (hp : Exc X W W') (hR : b = false → RdLe W' g (k + n + 1)) (hjx : JX W') : FacJ X g k wb JX b (n + 1) W' ∧ Exc X W W' :=
  ⟨⟨hR, hJ.2.1.trans hp, hjx⟩, hp⟩
theorem fad_late {b : Bool} (hJ : FacJ X g k wb JX b n W) (hp : Exc X W W') (hjx : JX W') : FacJ X g k wb JX true (n + 1) W' ∧ Exc X W W' :=
  ⟨⟨(fun h => by cases h), hJ.2.1.trans hp, hjx⟩, hp⟩
end
section
variable {P : Program} {ops : Array Oper} {a : Act} {w : World} {o : Oper} {d : List Deferred} {R : Act → World → Prop}
theorem fac_putK (h : ∀ K : Act → Prop, (∀ a, wpList P ops (ThenQ fun a' w' => a'.defers = d ∧ R a' w') [o] a w → K a) → K a) : wpList P ops (ThenQ fun a' w' => a'.defers = d ∧ R a' w') [o] a w := h _ (fun _ h => h)
theorem then_fac (hd : a.defers = d) (h : R a w) : ThenQ (fun a' w' => a'.defers = d ∧ R a' w') .normal a w := ⟨hd, h⟩
end
section
variable {X : Nat → Prop} {w : World}
theorem kEq_mk {u v : Value} (h : v = u) : (kEq u : Kd X).p v w := h
theorem kAny_mk {v : Value} : (kAny : Kd X).p v w := trivial
theorem kInt_mk {lo hi x : Int} (h1 : lo ≤ x) (h2 : x ≤ hi) : (kInt lo hi : Kd X).p (.int .i64 x) w := ⟨x, rfl, h1, h2⟩
theorem kBool_mk {x : Bool} : (kBool : Kd X).p (.bool x) w := ⟨x, rfl⟩
theorem kInts_mk {k b : Nat} {lo hi : Int} (h1 : ¬ X b) (h2 : b < w.heap.size) (h3 : ∀ j, j < k → ∃ x : Int, w.cell? ⟨b, j, none⟩ = some (.int .i64 x) ∧ lo ≤ x ∧ x ≤ hi) : (kInts k lo hi : Kd X).p (.slice (some ⟨b, 0, none⟩) k k) w := ⟨b, rfl, h1, h2, h3⟩
theorem kAd_mk {b j : Nat} {lo hi x : Int} (h1 : ¬ X b) (h2 : b < w.heap.size) (h3 : w.cell? ⟨b, j, none⟩ = some (.int .i64 x)) (h4 : lo ≤ x) (h5 : x ≤ hi) : (kAd lo hi : Kd X).p (.pointer (some ⟨b, j, none⟩)) w := ⟨b, j, x, rfl, h1, h2, h3, h4, h5⟩
theorem kSl_mk {m n c : Nat} {A : Option Addr} (h1 : n ≤ m) (h2 : IntsX X w A n) : (kSl m : Kd X).p (.slice A n c) w := ⟨A, n, c, rfl, h1, h2⟩
theorem kAdS_mk {m b j n c : Nat} {A : Option Addr} (h1 : ¬ X b) (h2 : b < w.heap.size) (h3 : w.cell? ⟨b, j, none⟩ = some (.slice A n c)) (h4 : n ≤ m) (h5 : IntsX X w A n) : (kAdS m : Kd X).p (.pointer (some ⟨b, j, none⟩)) w := ⟨b, j, A, n, c, rfl, h1, h2, h3, h4, h5⟩
theorem kRows_mk {k m b : Nat} (h1 : ¬ X b) (h2 : b < w.heap.size) (h3 : ∀ j, j < k → ∃ A n c, w.cell? ⟨b, j, none⟩ = some (.slice A n c) ∧ n ≤ m ∧ IntsX X w A n) : (kRows k m : Kd X).p (.slice (some ⟨b, 0, none⟩) k k) w := ⟨b, rfl, h1, h2, h3⟩
theorem kAg3_mk {a b d : Int} : (kAg3 : Kd X).p (.agg #[.int .i64 a, .int .i64 b, .int .i64 d]) w := ⟨a, b, d, rfl⟩
theorem IntsX.nil {A : Option Addr} : IntsX X w A 0 := ⟨0, 0, fun _ => 0, fun h => absurd h (by omega), fun j hj => absurd hj (by omega)⟩
theorem IntsX.of_cells {b n : Nat} (h1 : ¬ X b) (h2 : b < w.heap.size) (h3 : ∀ j, j < n → ∃ x : Int, w.cell? ⟨b, j, none⟩ = some (.int .i64 x)) : IntsX X w (some ⟨b, 0, none⟩) n := by
  refine ⟨b, 0, fun j => if h : j < n then Classical.choose (h3 j h) else 0, fun _ => ⟨rfl, h1, h2⟩, fun j hj => ?_⟩
  simp only [Nat.zero_add, dif_pos hj]
  exact Classical.choose_spec (h3 j hj)
/-- Three numbers in a block that may be written. -/
def Cell3 (r : Nat) (w : World) : Prop := ∃ a b d : Int, w.cell? ⟨r, 0, none⟩ = some (.int .i64 a) ∧ w.cell? ⟨r, 1, none⟩ = some (.int .i64 b) ∧ w.cell? ⟨r, 2, none⟩ = some (.int .i64 d) ∧ w.frozen? ⟨r, 0, none⟩ = false ∧ w.frozen? ⟨r, 1, none⟩ = false ∧ w.frozen? ⟨r, 2, none⟩ = false
theorem Cell3.past {r g : Nat} {w w' : World} (h : Cell3 r w) (hp : Past g w.heap.size w w') (hr : r < w.heap.size) (hg : r ≠ g) : Cell3 r w' := by
  obtain ⟨a, b, d, h1, h2, h3, h4, h5, h6⟩ := h
  obtain ⟨hc, hf⟩ := hp.cells
  exact ⟨a, b, d, (hc _ _ hr hg).trans h1, (hc _ _ hr hg).trans h2, (hc _ _ hr hg).trans h3, (hf _ _ hr hg).trans h4, (hf _ _ hr hg).trans h5, (hf _ _ hr hg).trans h6⟩
end
end Go.Proofs.Ytcdpalpoanlbmaa
